/-
  The package bitset: cut, short, both, Union, Less. Conditions: the slices read as lists of words.
-/
import Derived.Test.YtlnbeeflifmnjacChecked
import Derived.Test.YtlnbeeflifmnjacFlat
namespace Go.Proofs.Ytlnbeeflifmnjac
set_option linter.unusedSimpArgs false
set_option linter.unusedVariables false
open Go.RowKit

theorem info_u64 : (Try.prog.info? 23).map (fun i => (i.zero, i.size, i.bytes)) = some (some (.int .u64 0), 1, 8) := by kernel_rfl
theorem madeCells_rep (M : Nat) : madeCells (Value.int .u64 0).cells M = rep M (.int .u64 0) := by
  apply Array.ext
  · simp [size_madeCells, rep]
  · intro i h1 h2
    simp [madeCells, rep, Value.cells]
    rw [Nat.mod_one]; rfl
theorem take_cut {a : List Int} {n : Nat} (h : a.length = n) : a.take (min n 64) = a.take 64 := by
  rcases Nat.le_total n 64 with e | e
  · rw [Nat.min_eq_left e, List.take_of_length_le (by omega), List.take_of_length_le (by omega)]
  · rw [Nat.min_eq_right e]
/-- two sets put together, word by word -/
def putF2 (op : Int → Int → Int) (a b : List Int) (i : Nat) : Int := op (a.getD i 0) (b.getD i 0)
def putL (op : Int → Int → Int) (a b : List Int) : List Int := (List.range (max a.length b.length)).map (putF2 op a b)
/-- how many words say something -/
def shortN : List Int → Nat
  | [] => 0
  | x :: l => if shortN l = 0 then (if x = 0 then 0 else 1) else shortN l + 1
def shL (l : List Int) : List Int := l.take (shortN l)
theorem shortN_le : ∀ l : List Int, shortN l ≤ l.length
  | [] => Nat.le_refl _
  | x :: l => by
    have := shortN_le l
    unfold shortN
    split
    · split <;> simp
    · simp; omega
theorem shortN_zero : ∀ (l : List Int) (i : Nat) (x : Int), shortN l ≤ i → l[i]? = some x → x = 0
  | [], i, x, _, h => by simp at h
  | y :: l, i, x, hi, h => by
    unfold shortN at hi
    rcases i with _ | i
    · simp at h
      subst h
      split at hi
      · split at hi
        · assumption
        · omega
      · omega
    · simp at h
      refine shortN_zero l i x ?_ h
      split at hi
      · omega
      · omega
theorem shortN_last : ∀ (l : List Int) (k : Nat), shortN l = k + 1 → ∃ x, l[k]? = some x ∧ x ≠ 0
  | [], k, h => by simp [shortN] at h
  | y :: l, k, h => by
    unfold shortN at h
    split at h
    · split at h
      · omega
      · obtain rfl : k = 0 := by omega
        exact ⟨y, rfl, by assumption⟩
    · obtain ⟨j, rfl⟩ : ∃ j, k = j + 1 := ⟨k - 1, by omega⟩
      obtain ⟨x, h1, h2⟩ := shortN_last l j (by omega)
      exact ⟨x, by simpa using h1, h2⟩
/-- it is what is left where the last word says something -/
theorem shortN_is {l : List Int} {k : Nat} (hk : k ≤ l.length) (h1 : ∀ (i : Nat) (x : Int), k ≤ i → l[i]? = some x → x = 0) (h2 : k = 0 ∨ ∃ x, l[k - 1]? = some x ∧ x ≠ 0) : shortN l = k := by
  rcases Nat.lt_trichotomy (shortN l) k with h | h | h
  · exfalso
    rcases h2 with h2 | ⟨x, h2, h3⟩
    · omega
    · exact h3 (shortN_zero l (k - 1) x (by omega) h2)
  · exact h
  · exfalso
    obtain ⟨x, h3, h4⟩ := shortN_last l (shortN l - 1) (by omega)
    exact h4 (h1 _ x (by omega) h3)
theorem cut_any (A : Option Addr) (n c : Nat) (w : World) (hc : n ≤ c) : Calls Try.prog 30 #[.slice A n c] w fun e w' => e = .returned (.slice A (min n 64) c) ∧ w = w' := by
  by_cases h : n ≤ 64
  · have e : min n 64 = n := by omega
    have e2 : min (n : Int) 64 = n := by omega
    rw [e]
    clear e
    go_enter Try.func30, Try.ntmps30
    go_wp2
    go_ret
    exact ⟨rfl, rfl⟩
  · have e : min n 64 = 64 := by omega
    have e2 : min (n : Int) 64 = 64 := by omega
    have h2 : 64 ≤ c := by omega
    rw [e]
    clear e
    go_enter Try.func30, Try.ntmps30
    go_wp2
    go_ret
    exact ⟨rfl, rfl⟩
theorem atB_any {A : Option Addr} {n c : Nat} {l : List Int} {w : World} (hx : Rd (Sh.int .u64) w w.heap.size A l) (hn : l.length = n) (hc : n ≤ c) (i : Nat) : Calls Try.prog 41 #[.slice A n c, .int .i64 i] w fun e w' => e = .returned (.int .u64 (l.getD i 0)) ∧ w = w' := by
  by_cases h : i < n
  · obtain ⟨ad, x, rfl, _, hv, q0⟩ := Rd.icell hx (k := i) (by omega)
    have h0 : (0 : Int) ≤ i := by omega
    have h1 : (i : Int) < n := by omega
    have e : l.getD i 0 = x := by rw [List.getD_eq_getElem?_getD, hv]; rfl
    rw [e]
    clear e hv hx hn
    go_enter Try.func41, Try.ntmps41
    go_wp2
    go_ret
    exact ⟨rfl, rfl⟩
  · have h1 : decide ((i : Int) < n) = false := decide_eq_false (by omega)
    have h2 : decide (i < n) = false := decide_eq_false h
    have e : l.getD i 0 = 0 := by rw [List.getD_eq_getElem?_getD, List.getElem?_eq_none (by omega)]; rfl
    rw [e]
    clear e hx hn
    go_enter Try.func41, Try.ntmps41
    go_wp2
    go_ret
    exact ⟨rfl, rfl⟩
set_option maxHeartbeats 1000000 in
theorem short_any {A : Option Addr} {n c : Nat} {l : List Int} {w : World} (hx : Rd (Sh.int .u64) w w.heap.size A l) (hn : l.length = n) (hc : n ≤ c) (hm : n ≤ 1000000) : Calls Try.prog 35 #[.slice A n c] w fun e w' => e = .returned (.slice A (shortN l) c) ∧ w = w' := by
  have HX := hide hx
  have Hn := hide hn
  clear hx hn
  go_enter Try.func35, Try.ntmps35
  go_wp2
  go_loop [3] (fun k => ∃ j : Nat, j ≤ n ∧ k = .int .i64 j ∧ Hid (∀ (i : Nat) (x : Int), j ≤ i → l[i]? = some x → x = 0)) (fun k => (intOf k).toNat)
  case atStart => exact ⟨n, Nat.le_refl _, rfl, hide fun i x hi h => by rw [List.getElem?_eq_none (by have := Hn.out; omega)] at h; cases h⟩
  case round =>
    obtain ⟨j, hj, rfl, HZ⟩ := hrel
    rcases j with _ | j
    · have HF := hide (shortN_is (l := l) (k := 0) (by omega) HZ.out (.inl rfl))
      clear HZ
      go_wp2
      go_ret
      exact ⟨by rw [HF.out]; rfl, rfl⟩
    · obtain ⟨ad, x, hA, _, hv, q0⟩ := Rd.icell HX.out (k := j) (by have := Hn.out; omega)
      subst hA
      have h0 : (0 : Int) < ((j + 1 : Nat) : Int) := by omega
      have hj0 : (0 : Int) ≤ j := by omega
      have hj1 : (j : Int) < n := by omega
      have hs : ((j + 1 : Nat) : Int) - 1 = j := by omega
      by_cases hx : x = 0
      · have e0 : (x == 0) = true := by rw [hx]; rfl
        have HZ2 := hide (show ∀ (i : Nat) (y : Int), j ≤ i → l[i]? = some y → y = 0 from fun i y hi h => by
          by_cases e : i = j
          · rw [e, hv] at h; injection h with h; rw [← h, hx]
          · exact HZ.out i y (by omega) h)
        clear hv hx HZ
        go_wp2
        go_round
        case rel => exact ⟨j, by omega, by go_num, HZ2⟩
        case measure => first | (simp [intOf]; done) | (simp [intOf]; omega)
      · have e0 : (x == 0) = false := beq_eq_false_iff_ne.2 hx
        have HF := hide (shortN_is (l := l) (k := j + 1) (by have := Hn.out; omega) HZ.out (.inr ⟨x, hv, hx⟩))
        have hjc : j + 1 ≤ c := by omega
        clear hv hx HZ
        go_wp2
        go_ret
        exact ⟨by rw [HF.out]; rfl, rfl⟩
theorem putU_any (x y : Int) (w : World) : Calls Try.prog 33 #[.int .u64 x, .int .u64 y] w fun e w' => e = .returned (.int .u64 (bits .or .u64 x y)) ∧ w = w' := by
  go_enter Try.func33, Try.ntmps33
  go_wp2
  go_ret
  exact ⟨rfl, rfl⟩
set_option maxHeartbeats 4000000 in
set_option maxRecDepth 100000 in
theorem bothU_any {A B : Option Addr} {n c m d : Nat} {a b : List Int} {w : World} (ha : Rd (Sh.int .u64) w w.heap.size A a) (hn : a.length = n) (hc : n ≤ c) (hm : c ≤ 9223372036854775807) (hb : Rd (Sh.int .u64) w w.heap.size B b) (hn' : b.length = m) (hc' : m ≤ d) (hm' : d ≤ 9223372036854775807) :
    Calls Try.prog 32 #[.slice A n c, .slice B m d, .func (.func 33) #[] #[]] w fun e w' => ∃ v, e = .returned v ∧ NewL (Sh.int .u64) w (shL (putL (bits .or .u64) (a.take 64) (b.take 64))) v w' := by
  have HA := hide (ha.take (min n 64))
  have HB := hide (hb.take (min m 64))
  have eA : a.take (min n 64) = a.take 64 := take_cut hn
  have eB : b.take (min m 64) = b.take 64 := take_cut hn'
  rw [eA] at HA
  rw [eB] at HB
  have hla : (a.take 64).length = min n 64 := by rw [List.length_take, hn, Nat.min_comm]
  have hlb : (b.take 64).length = min m 64 := by rw [List.length_take, hn', Nat.min_comm]
  obtain ⟨a', ha'⟩ : ∃ x, a.take 64 = x := ⟨_, rfl⟩
  obtain ⟨b', hb'⟩ : ∃ x, b.take 64 = x := ⟨_, rfl⟩
  rw [ha'] at HA hla
  rw [hb'] at HB hlb
  have CC1 := hide (cut_any A n c w hc)
  have CC2 := hide (cut_any B m d w hc')
  obtain ⟨n1, hn1⟩ : ∃ k, min n 64 = k := ⟨_, rfl⟩
  obtain ⟨m1, hm1⟩ : ∃ k, min m 64 = k := ⟨_, rfl⟩
  rw [hn1] at hla CC1
  rw [hm1] at hlb CC2
  have hn6 : n1 ≤ 64 := by omega
  have hm6 : m1 ≤ 64 := by omega
  have hnc : n1 ≤ c := by omega
  have hmd : m1 ≤ d := by omega
  have HLa := hide hla
  have HLb := hide hlb
  have Ha' := hide ha'
  have Hb' := hide hb'
  obtain ⟨M, hM⟩ : ∃ M, max n1 m1 = M := ⟨_, rfl⟩
  have HM := hide hM
  have hM6 : M ≤ 64 := by omega
  have hMi : max (n1 : Int) (m1 : Int) = (M : Int) := by omega
  obtain ⟨i1, hi1, hz1, hsz1, hby1⟩ := info_parts info_u64
  have hmk : ∀ u : World, (Instr.makeSlice 25 (.int .i64 (M : Int)) (.int .i64 (M : Int))).run Try.prog u = .ok (.slice (some ⟨u.heap.size, 0, none⟩) M M) (u.alloc (.cells (rep M (.int .u64 0)) 23)) := fun u => by
    have h := run_make_rowN (P := Try.prog) 25 23 i1 (.int .u64 0) Try.underlying25 hi1 hz1 .i64 .i64 M M (Nat.le_refl _) (by rw [hby1]; omega) (by omega) u
    rw [hsz1, Nat.mul_one] at h
    rw [h, madeCells_rep]
  clear ha hb hn hn' eA eB hla hlb ha' hb' hn1 hm1 hM
  go_enter Try.func32, Try.ntmps32
  go_wp2_with fail
  refine CC1.out.mono ?_
  rintro e w1 ⟨rfl, rfl⟩
  go_wp2_with fail
  refine CC2.out.mono ?_
  rintro e w1 ⟨rfl, rfl⟩
  go_upto_region 4 with fail
  have HB0 := hide (below1 w (.cells (rep M (.int .u64 0)) 23))
  have HK0 := hide (show Blk (w.alloc (.cells (rep M (.int .u64 0)) 23)) w.heap.size 23 (ics .u64 (stp (fun _ => 0) (putF2 (bits .or .u64) a' b') 0) M) from by rw [ics_stp0, ← ics_zero]; exact Blk.new _ _ _)
  clear CC1 CC2
  generalize World.alloc w _ = w1 at *
  obtain ⟨g, hg⟩ : ∃ g, w.heap.size = g := ⟨_, rfl⟩
  rw [hg] at HK0
  rw [hg]
  have Hg := hide hg
  clear hg hmk
  go_wp2
  go_loopw [22] (fun i wr => ∃ k : Nat, k ≤ M ∧ i = .int .i64 k ∧ Hid (Blk wr g 23 (ics .u64 (stp (fun _ => 0) (putF2 (bits .or .u64) a' b') k) M)) ∧ Hid (Below w.heap.size w wr)) (fun i _ => M - (intOf i).toNat)
  case atStart => exact ⟨0, by omega, rfl, HK0, HB0⟩
  case round =>
    obtain ⟨k, hk, rfl, HK, HBr⟩ := hrel
    clear HK0 HB0
    by_cases hlt : k < M
    · have g0 : (0 : Int) ≤ k := by omega
      have g1 : (k : Int) < M := by omega
      have C1 := hide (atB_any (HA.out.at_world HBr.out) HLa.out hnc k)
      have C2 := hide (atB_any (HB.out.at_world HBr.out) HLb.out hmd k)
      have C3 := hide (putU_any (a'.getD k 0) (b'.getD k 0) wr)
      have f0 := HK.out.frozen k
      have q0 : ∃ v, wr.cell? ⟨g, k, none⟩ = some v := ⟨_, (HK.out.cell k).trans (ics_get _ _ _ _ hlt)⟩
      obtain ⟨v0, q0⟩ := q0
      have HN := hide (show Blk (wr.setCell ⟨g, k, none⟩ (.int .u64 (putF2 (bits .or .u64) a' b' k))) g 23 (ics .u64 (stp (fun _ => 0) (putF2 (bits .or .u64) a' b') (k + 1)) M) from by rw [← ics_stp]; exact HK.out.set_ k _)
      have HBn := hide (HBr.out.setCell (p := ⟨g, k, none⟩) (by have := Hg.out; show w.heap.size ≤ g; omega) (.int .u64 (putF2 (bits .or .u64) a' b' k)))
      have HPf := hide (show putF2 (bits .or .u64) a' b' k = bits .or .u64 (a'.getD k 0) (b'.getD k 0) from rfl)
      obtain ⟨xa, hxa⟩ : ∃ x, a'.getD k 0 = x := ⟨_, rfl⟩
      obtain ⟨xb, hxb⟩ : ∃ x, b'.getD k 0 = x := ⟨_, rfl⟩
      rw [HPf.out, hxa, hxb] at HN HBn
      rw [hxa] at C1 C3
      rw [hxb] at C2 C3
      obtain ⟨z, hz⟩ : ∃ z, bits .or .u64 xa xb = z := ⟨_, rfl⟩
      rw [hz] at HN HBn C3
      clear HPf hxa hxb hz HK HBr
      go_wp2_with fail
      refine C1.out.mono ?_
      rintro e w2 ⟨rfl, rfl⟩
      go_wp2_with fail
      refine C2.out.mono ?_
      rintro e w2 ⟨rfl, rfl⟩
      go_wp2_with fail
      refine C3.out.mono ?_
      rintro e w2 ⟨rfl, rfl⟩
      go_wp2
      go_roundw
      case rel => exact ⟨k + 1, by omega, by go_num, HN, HBn⟩
      case measure => simp [intOf]; omega
    · obtain rfl : M = k := by omega
      have HF := hide (show putL (bits .or .u64) a' b' = (List.range M).map (putF2 (bits .or .u64) a' b') from by unfold putL; rw [HLa.out, HLb.out, HM.out])
      rw [ics_stpm] at HK
      have HR := hide (intR_blk (R := fun d => d < wr.heap.size) HK.out HK.out.lt (rfl : (List.range M).map (putF2 (bits .or .u64) a' b') = _))
      have CS := hide (short_any (c := M) HR.out (by simp) (Nat.le_refl _) (by omega))
      go_wp2_with fail
      refine CS.out.mono ?_
      rintro e w2 ⟨rfl, rfl⟩
      go_wp2
      go_ret
      rw [Ha'.out, Hb'.out, HF.out]
      have hs := shortN_le ((List.range M).map (putF2 (bits .or .u64) a' b'))
      rw [List.length_map, List.length_range] at hs
      refine ⟨_, rfl, _, _, _, rfl, ?_, hs, by omega, ?_, HBr.out⟩
      · unfold shL; rw [List.length_take, List.length_map, List.length_range]; omega
      · exact (intR_blk (R := Btw w.heap.size wr.heap.size) HK.out ⟨by have := Hg.out; omega, HK.out.lt⟩ rfl).take _
set_option maxHeartbeats 1000000 in
theorem eUnion_any {A B : Option Addr} {n c m d : Nat} {a b : List Int} {w : World} (ha : Rd (Sh.int .u64) w w.heap.size A a) (hn : a.length = n) (hc : n ≤ c) (hm : c ≤ 9223372036854775807) (hb : Rd (Sh.int .u64) w w.heap.size B b) (hn' : b.length = m) (hc' : m ≤ d) (hm' : d ≤ 9223372036854775807) :
    Calls Try.prog 17 #[.slice A n c, .slice B m d] w fun e w' => ∃ v, e = .returned v ∧ NewL (Sh.int .u64) w (shL (putL (bits .or .u64) (a.take 64) (b.take 64))) v w' := by
  have CB := hide (bothU_any ha hn hc hm hb hn' hc' hm')
  clear ha hb hn hn'
  go_enter Try.func17, Try.ntmps17
  go_wp2_with fail
  refine CB.out.mono ?_
  rintro e w1 ⟨v, rfl, A2, n2, c2, rfl, k1, k2, k3, k4, k5⟩
  go_wp2
  go_ret
  exact ⟨_, rfl, _, _, _, rfl, k1, k2, k3, k4, k5⟩
theorem putL_any (x y : Int) (w : World) : Calls Try.prog 34 #[.int .u64 x, .int .u64 y] w fun e w' => e = .returned (.int .u64 (bits .andNot .u64 x y)) ∧ w = w' := by
  go_enter Try.func34, Try.ntmps34
  go_wp2
  go_ret
  exact ⟨rfl, rfl⟩
set_option maxHeartbeats 4000000 in
set_option maxRecDepth 100000 in
theorem bothL_any {A B : Option Addr} {n c m d : Nat} {a b : List Int} {w : World} (ha : Rd (Sh.int .u64) w w.heap.size A a) (hn : a.length = n) (hc : n ≤ c) (hm : c ≤ 9223372036854775807) (hb : Rd (Sh.int .u64) w w.heap.size B b) (hn' : b.length = m) (hc' : m ≤ d) (hm' : d ≤ 9223372036854775807) :
    Calls Try.prog 32 #[.slice A n c, .slice B m d, .func (.func 34) #[] #[]] w fun e w' => ∃ v, e = .returned v ∧ NewL (Sh.int .u64) w (shL (putL (bits .andNot .u64) (a.take 64) (b.take 64))) v w' := by
  have HA := hide (ha.take (min n 64))
  have HB := hide (hb.take (min m 64))
  have eA : a.take (min n 64) = a.take 64 := take_cut hn
  have eB : b.take (min m 64) = b.take 64 := take_cut hn'
  rw [eA] at HA
  rw [eB] at HB
  have hla : (a.take 64).length = min n 64 := by rw [List.length_take, hn, Nat.min_comm]
  have hlb : (b.take 64).length = min m 64 := by rw [List.length_take, hn', Nat.min_comm]
  obtain ⟨a', ha'⟩ : ∃ x, a.take 64 = x := ⟨_, rfl⟩
  obtain ⟨b', hb'⟩ : ∃ x, b.take 64 = x := ⟨_, rfl⟩
  rw [ha'] at HA hla
  rw [hb'] at HB hlb
  have CC1 := hide (cut_any A n c w hc)
  have CC2 := hide (cut_any B m d w hc')
  obtain ⟨n1, hn1⟩ : ∃ k, min n 64 = k := ⟨_, rfl⟩
  obtain ⟨m1, hm1⟩ : ∃ k, min m 64 = k := ⟨_, rfl⟩
  rw [hn1] at hla CC1
  rw [hm1] at hlb CC2
  have hn6 : n1 ≤ 64 := by omega
  have hm6 : m1 ≤ 64 := by omega
  have hnc : n1 ≤ c := by omega
  have hmd : m1 ≤ d := by omega
  have HLa := hide hla
  have HLb := hide hlb
  have Ha' := hide ha'
  have Hb' := hide hb'
  obtain ⟨M, hM⟩ : ∃ M, max n1 m1 = M := ⟨_, rfl⟩
  have HM := hide hM
  have hM6 : M ≤ 64 := by omega
  have hMi : max (n1 : Int) (m1 : Int) = (M : Int) := by omega
  obtain ⟨i1, hi1, hz1, hsz1, hby1⟩ := info_parts info_u64
  have hmk : ∀ u : World, (Instr.makeSlice 25 (.int .i64 (M : Int)) (.int .i64 (M : Int))).run Try.prog u = .ok (.slice (some ⟨u.heap.size, 0, none⟩) M M) (u.alloc (.cells (rep M (.int .u64 0)) 23)) := fun u => by
    have h := run_make_rowN (P := Try.prog) 25 23 i1 (.int .u64 0) Try.underlying25 hi1 hz1 .i64 .i64 M M (Nat.le_refl _) (by rw [hby1]; omega) (by omega) u
    rw [hsz1, Nat.mul_one] at h
    rw [h, madeCells_rep]
  clear ha hb hn hn' eA eB hla hlb ha' hb' hn1 hm1 hM
  go_enter Try.func32, Try.ntmps32
  go_wp2_with fail
  refine CC1.out.mono ?_
  rintro e w1 ⟨rfl, rfl⟩
  go_wp2_with fail
  refine CC2.out.mono ?_
  rintro e w1 ⟨rfl, rfl⟩
  go_upto_region 4 with fail
  have HB0 := hide (below1 w (.cells (rep M (.int .u64 0)) 23))
  have HK0 := hide (show Blk (w.alloc (.cells (rep M (.int .u64 0)) 23)) w.heap.size 23 (ics .u64 (stp (fun _ => 0) (putF2 (bits .andNot .u64) a' b') 0) M) from by rw [ics_stp0, ← ics_zero]; exact Blk.new _ _ _)
  clear CC1 CC2
  generalize World.alloc w _ = w1 at *
  obtain ⟨g, hg⟩ : ∃ g, w.heap.size = g := ⟨_, rfl⟩
  rw [hg] at HK0
  rw [hg]
  have Hg := hide hg
  clear hg hmk
  go_wp2
  go_loopw [22] (fun i wr => ∃ k : Nat, k ≤ M ∧ i = .int .i64 k ∧ Hid (Blk wr g 23 (ics .u64 (stp (fun _ => 0) (putF2 (bits .andNot .u64) a' b') k) M)) ∧ Hid (Below w.heap.size w wr)) (fun i _ => M - (intOf i).toNat)
  case atStart => exact ⟨0, by omega, rfl, HK0, HB0⟩
  case round =>
    obtain ⟨k, hk, rfl, HK, HBr⟩ := hrel
    clear HK0 HB0
    by_cases hlt : k < M
    · have g0 : (0 : Int) ≤ k := by omega
      have g1 : (k : Int) < M := by omega
      have C1 := hide (atB_any (HA.out.at_world HBr.out) HLa.out hnc k)
      have C2 := hide (atB_any (HB.out.at_world HBr.out) HLb.out hmd k)
      have C3 := hide (putL_any (a'.getD k 0) (b'.getD k 0) wr)
      have f0 := HK.out.frozen k
      have q0 : ∃ v, wr.cell? ⟨g, k, none⟩ = some v := ⟨_, (HK.out.cell k).trans (ics_get _ _ _ _ hlt)⟩
      obtain ⟨v0, q0⟩ := q0
      have HN := hide (show Blk (wr.setCell ⟨g, k, none⟩ (.int .u64 (putF2 (bits .andNot .u64) a' b' k))) g 23 (ics .u64 (stp (fun _ => 0) (putF2 (bits .andNot .u64) a' b') (k + 1)) M) from by rw [← ics_stp]; exact HK.out.set_ k _)
      have HBn := hide (HBr.out.setCell (p := ⟨g, k, none⟩) (by have := Hg.out; show w.heap.size ≤ g; omega) (.int .u64 (putF2 (bits .andNot .u64) a' b' k)))
      have HPf := hide (show putF2 (bits .andNot .u64) a' b' k = bits .andNot .u64 (a'.getD k 0) (b'.getD k 0) from rfl)
      obtain ⟨xa, hxa⟩ : ∃ x, a'.getD k 0 = x := ⟨_, rfl⟩
      obtain ⟨xb, hxb⟩ : ∃ x, b'.getD k 0 = x := ⟨_, rfl⟩
      rw [HPf.out, hxa, hxb] at HN HBn
      rw [hxa] at C1 C3
      rw [hxb] at C2 C3
      obtain ⟨z, hz⟩ : ∃ z, bits .andNot .u64 xa xb = z := ⟨_, rfl⟩
      rw [hz] at HN HBn C3
      clear HPf hxa hxb hz HK HBr
      go_wp2_with fail
      refine C1.out.mono ?_
      rintro e w2 ⟨rfl, rfl⟩
      go_wp2_with fail
      refine C2.out.mono ?_
      rintro e w2 ⟨rfl, rfl⟩
      go_wp2_with fail
      refine C3.out.mono ?_
      rintro e w2 ⟨rfl, rfl⟩
      go_wp2
      go_roundw
      case rel => exact ⟨k + 1, by omega, by go_num, HN, HBn⟩
      case measure => simp [intOf]; omega
    · obtain rfl : M = k := by omega
      have HF := hide (show putL (bits .andNot .u64) a' b' = (List.range M).map (putF2 (bits .andNot .u64) a' b') from by unfold putL; rw [HLa.out, HLb.out, HM.out])
      rw [ics_stpm] at HK
      have HR := hide (intR_blk (R := fun d => d < wr.heap.size) HK.out HK.out.lt (rfl : (List.range M).map (putF2 (bits .andNot .u64) a' b') = _))
      have CS := hide (short_any (c := M) HR.out (by simp) (Nat.le_refl _) (by omega))
      go_wp2_with fail
      refine CS.out.mono ?_
      rintro e w2 ⟨rfl, rfl⟩
      go_wp2
      go_ret
      rw [Ha'.out, Hb'.out, HF.out]
      have hs := shortN_le ((List.range M).map (putF2 (bits .andNot .u64) a' b'))
      rw [List.length_map, List.length_range] at hs
      refine ⟨_, rfl, _, _, _, rfl, ?_, hs, by omega, ?_, HBr.out⟩
      · unfold shL; rw [List.length_take, List.length_map, List.length_range]; omega
      · exact (intR_blk (R := Btw w.heap.size wr.heap.size) HK.out ⟨by have := Hg.out; omega, HK.out.lt⟩ rfl).take _
set_option maxHeartbeats 1000000 in
theorem eLess_any {A B : Option Addr} {n c m d : Nat} {a b : List Int} {w : World} (ha : Rd (Sh.int .u64) w w.heap.size A a) (hn : a.length = n) (hc : n ≤ c) (hm : c ≤ 9223372036854775807) (hb : Rd (Sh.int .u64) w w.heap.size B b) (hn' : b.length = m) (hc' : m ≤ d) (hm' : d ≤ 9223372036854775807) :
    Calls Try.prog 19 #[.slice A n c, .slice B m d] w fun e w' => ∃ v, e = .returned v ∧ NewL (Sh.int .u64) w (shL (putL (bits .andNot .u64) (a.take 64) (b.take 64))) v w' := by
  have CB := hide (bothL_any ha hn hc hm hb hn' hc' hm')
  clear ha hb hn hn'
  go_enter Try.func19, Try.ntmps19
  go_wp2_with fail
  refine CB.out.mono ?_
  rintro e w1 ⟨v, rfl, A2, n2, c2, rfl, k1, k2, k3, k4, k5⟩
  go_wp2
  go_ret
  exact ⟨_, rfl, _, _, _, rfl, k1, k2, k3, k4, k5⟩
end Go.Proofs.Ytlnbeeflifmnjac
