/-
  Texts of one part, put together. No condition.
-/
import Derived.Test.YtgiplahhalgbdaaGreatChecked
import Derived.Test.YtgiplahhalgbdaaGreatMgS
/-
  The package bitset: cut, short, both, Union, Less. Conditions: the slices read as lists of words.
-/
namespace Go.Proofs.YtgiplahhalgbdaaGreat
set_option linter.unusedSimpArgs false
set_option linter.unusedVariables false
open Go.RowKit

theorem info_u64 : (Tryz.prog.info? 26).map (fun i => (i.zero, i.size, i.bytes)) = some (some (.int .u64 0), 1, 8) := by kernel_rfl
theorem madeCells_rep (M : Nat) : madeCells (Value.int .u64 0).cells M = rep M (.int .u64 0) := by
  apply Array.ext
  · simp [size_madeCells, rep]
  · intro i h1 h2
    simp [madeCells, rep, Value.cells]
    rw [Nat.mod_one]; rfl
theorem take_cut {a : List Int} {n : Nat} (h : a.length = n) : a.take (min n 64) = a.take 64 := by
  rcases Nat.le_total n 64 with e | e
  · rw [Nat.min_eq_left e, List.take_of_length_le (by omega), List.take_of_length_le (by omega)]
  · rw [Nat.min_eq_right e]
/-- two sets put together, word by word -/
def putF2 (op : Int → Int → Int) (a b : List Int) (i : Nat) : Int := op (a.getD i 0) (b.getD i 0)
def putL (op : Int → Int → Int) (a b : List Int) : List Int := (List.range (max a.length b.length)).map (putF2 op a b)
/-- how many words say something -/
def shortN : List Int → Nat
  | [] => 0
  | x :: l => if shortN l = 0 then (if x = 0 then 0 else 1) else shortN l + 1
def shL (l : List Int) : List Int := l.take (shortN l)
theorem shortN_le : ∀ l : List Int, shortN l ≤ l.length
  | [] => Nat.le_refl _
  | x :: l => by
    have := shortN_le l
    unfold shortN
    split
    · split <;> simp
    · simp; omega
theorem shortN_zero : ∀ (l : List Int) (i : Nat) (x : Int), shortN l ≤ i → l[i]? = some x → x = 0
  | [], i, x, _, h => by simp at h
  | y :: l, i, x, hi, h => by
    unfold shortN at hi
    rcases i with _ | i
    · simp at h
      subst h
      split at hi
      · split at hi
        · assumption
        · omega
      · omega
    · simp at h
      refine shortN_zero l i x ?_ h
      split at hi
      · omega
      · omega
theorem shortN_last : ∀ (l : List Int) (k : Nat), shortN l = k + 1 → ∃ x, l[k]? = some x ∧ x ≠ 0
  | [], k, h => by simp [shortN] at h
  | y :: l, k, h => by
    unfold shortN at h
    split at h
    · split at h
      · omega
      · obtain rfl : k = 0 := by omega
        exact ⟨y, rfl, by assumption⟩
    · obtain ⟨j, rfl⟩ : ∃ j, k = j + 1 := ⟨k - 1, by omega⟩
      obtain ⟨x, h1, h2⟩ := shortN_last l j (by omega)
      exact ⟨x, by simpa using h1, h2⟩
/-- it is what is left where the last word says something -/
theorem shortN_is {l : List Int} {k : Nat} (hk : k ≤ l.length) (h1 : ∀ (i : Nat) (x : Int), k ≤ i → l[i]? = some x → x = 0) (h2 : k = 0 ∨ ∃ x, l[k - 1]? = some x ∧ x ≠ 0) : shortN l = k := by
  rcases Nat.lt_trichotomy (shortN l) k with h | h | h
  · exfalso
    rcases h2 with h2 | ⟨x, h2, h3⟩
    · omega
    · exact h3 (shortN_zero l (k - 1) x (by omega) h2)
  · exact h
  · exfalso
    obtain ⟨x, h3, h4⟩ := shortN_last l (shortN l - 1) (by omega)
    exact h4 (h1 _ x (by omega) h3)
theorem cut_any (A : Option Addr) (n c : Nat) (w : World) (hc : n ≤ c) : Calls Tryz.prog 44 #[.slice A n c] w fun e w' => e = .returned (.slice A (min n 64) c) ∧ w = w' := by
  by_cases h : n ≤ 64
  · have e : min n 64 = n := by omega
    have e2 : min (n : Int) 64 = n := by omega
    rw [e]
    clear e
    go_enter Tryz.func44, Tryz.ntmps44
    go_wp2
    go_ret
    exact ⟨rfl, rfl⟩
  · have e : min n 64 = 64 := by omega
    have e2 : min (n : Int) 64 = 64 := by omega
    have h2 : 64 ≤ c := by omega
    rw [e]
    clear e
    go_enter Tryz.func44, Tryz.ntmps44
    go_wp2
    go_ret
    exact ⟨rfl, rfl⟩
theorem atB_any {A : Option Addr} {n c : Nat} {l : List Int} {w : World} (hx : Rd (Sh.int .u64) w w.heap.size A l) (hn : l.length = n) (hc : n ≤ c) (i : Nat) : Calls Tryz.prog 62 #[.slice A n c, .int .i64 i] w fun e w' => e = .returned (.int .u64 (l.getD i 0)) ∧ w = w' := by
  by_cases h : i < n
  · obtain ⟨ad, x, rfl, _, hv, q0⟩ := Rd.icell hx (k := i) (by omega)
    have h0 : (0 : Int) ≤ i := by omega
    have h1 : (i : Int) < n := by omega
    have e : l.getD i 0 = x := by rw [List.getD_eq_getElem?_getD, hv]; rfl
    rw [e]
    clear e hv hx hn
    go_enter Tryz.func62, Tryz.ntmps62
    go_wp2
    go_ret
    exact ⟨rfl, rfl⟩
  · have h1 : decide ((i : Int) < n) = false := decide_eq_false (by omega)
    have h2 : decide (i < n) = false := decide_eq_false h
    have e : l.getD i 0 = 0 := by rw [List.getD_eq_getElem?_getD, List.getElem?_eq_none (by omega)]; rfl
    rw [e]
    clear e hx hn
    go_enter Tryz.func62, Tryz.ntmps62
    go_wp2
    go_ret
    exact ⟨rfl, rfl⟩
set_option maxHeartbeats 1000000 in
theorem short_any {A : Option Addr} {n c : Nat} {l : List Int} {w : World} (hx : Rd (Sh.int .u64) w w.heap.size A l) (hn : l.length = n) (hc : n ≤ c) (hm : n ≤ 1000000) : Calls Tryz.prog 63 #[.slice A n c] w fun e w' => e = .returned (.slice A (shortN l) c) ∧ w = w' := by
  have HX := hide hx
  have Hn := hide hn
  clear hx hn
  go_enter Tryz.func63, Tryz.ntmps63
  go_wp2
  go_loop [3] (fun k => ∃ j : Nat, j ≤ n ∧ k = .int .i64 j ∧ Hid (∀ (i : Nat) (x : Int), j ≤ i → l[i]? = some x → x = 0)) (fun k => (intOf k).toNat)
  case atStart => exact ⟨n, Nat.le_refl _, rfl, hide fun i x hi h => by rw [List.getElem?_eq_none (by have := Hn.out; omega)] at h; cases h⟩
  case round =>
    obtain ⟨j, hj, rfl, HZ⟩ := hrel
    rcases j with _ | j
    · have HF := hide (shortN_is (l := l) (k := 0) (by omega) HZ.out (.inl rfl))
      clear HZ
      go_wp2
      go_ret
      exact ⟨by rw [HF.out]; rfl, rfl⟩
    · obtain ⟨ad, x, hA, _, hv, q0⟩ := Rd.icell HX.out (k := j) (by have := Hn.out; omega)
      subst hA
      have h0 : (0 : Int) < ((j + 1 : Nat) : Int) := by omega
      have hj0 : (0 : Int) ≤ j := by omega
      have hj1 : (j : Int) < n := by omega
      have hs : ((j + 1 : Nat) : Int) - 1 = j := by omega
      by_cases hx : x = 0
      · have e0 : (x == 0) = true := by rw [hx]; rfl
        have HZ2 := hide (show ∀ (i : Nat) (y : Int), j ≤ i → l[i]? = some y → y = 0 from fun i y hi h => by
          by_cases e : i = j
          · rw [e, hv] at h; injection h with h; rw [← h, hx]
          · exact HZ.out i y (by omega) h)
        clear hv hx HZ
        go_wp2
        go_round
        case rel => exact ⟨j, by omega, by go_num, HZ2⟩
        case measure => first | (simp [intOf]; done) | (simp [intOf]; omega)
      · have e0 : (x == 0) = false := beq_eq_false_iff_ne.2 hx
        have HF := hide (shortN_is (l := l) (k := j + 1) (by have := Hn.out; omega) HZ.out (.inr ⟨x, hv, hx⟩))
        have hjc : j + 1 ≤ c := by omega
        clear hv hx HZ
        go_wp2
        go_ret
        exact ⟨by rw [HF.out]; rfl, rfl⟩
theorem putU_any (x y : Int) (w : World) : Calls Tryz.prog 47 #[.int .u64 x, .int .u64 y] w fun e w' => e = .returned (.int .u64 (bits .or .u64 x y)) ∧ w = w' := by
  go_enter Tryz.func47, Tryz.ntmps47
  go_wp2
  go_ret
  exact ⟨rfl, rfl⟩
set_option maxHeartbeats 4000000 in
set_option maxRecDepth 100000 in
theorem bothU_any {A B : Option Addr} {n c m d : Nat} {a b : List Int} {w : World} (ha : Rd (Sh.int .u64) w w.heap.size A a) (hn : a.length = n) (hc : n ≤ c) (hm : c ≤ 9223372036854775807) (hb : Rd (Sh.int .u64) w w.heap.size B b) (hn' : b.length = m) (hc' : m ≤ d) (hm' : d ≤ 9223372036854775807) :
    Calls Tryz.prog 46 #[.slice A n c, .slice B m d, .func (.func 47) #[] #[]] w fun e w' => ∃ v, e = .returned v ∧ NewL (Sh.int .u64) w (shL (putL (bits .or .u64) (a.take 64) (b.take 64))) v w' := by
  have HA := hide (ha.take (min n 64))
  have HB := hide (hb.take (min m 64))
  have eA : a.take (min n 64) = a.take 64 := take_cut hn
  have eB : b.take (min m 64) = b.take 64 := take_cut hn'
  rw [eA] at HA
  rw [eB] at HB
  have hla : (a.take 64).length = min n 64 := by rw [List.length_take, hn, Nat.min_comm]
  have hlb : (b.take 64).length = min m 64 := by rw [List.length_take, hn', Nat.min_comm]
  obtain ⟨a', ha'⟩ : ∃ x, a.take 64 = x := ⟨_, rfl⟩
  obtain ⟨b', hb'⟩ : ∃ x, b.take 64 = x := ⟨_, rfl⟩
  rw [ha'] at HA hla
  rw [hb'] at HB hlb
  have CC1 := hide (cut_any A n c w hc)
  have CC2 := hide (cut_any B m d w hc')
  obtain ⟨n1, hn1⟩ : ∃ k, min n 64 = k := ⟨_, rfl⟩
  obtain ⟨m1, hm1⟩ : ∃ k, min m 64 = k := ⟨_, rfl⟩
  rw [hn1] at hla CC1
  rw [hm1] at hlb CC2
  have hn6 : n1 ≤ 64 := by omega
  have hm6 : m1 ≤ 64 := by omega
  have hnc : n1 ≤ c := by omega
  have hmd : m1 ≤ d := by omega
  have HLa := hide hla
  have HLb := hide hlb
  have Ha' := hide ha'
  have Hb' := hide hb'
  obtain ⟨M, hM⟩ : ∃ M, max n1 m1 = M := ⟨_, rfl⟩
  have HM := hide hM
  have hM6 : M ≤ 64 := by omega
  have hMi : max (n1 : Int) (m1 : Int) = (M : Int) := by omega
  obtain ⟨i1, hi1, hz1, hsz1, hby1⟩ := info_parts info_u64
  have hmk : ∀ u : World, (Instr.makeSlice 44 (.int .i64 (M : Int)) (.int .i64 (M : Int))).run Tryz.prog u = .ok (.slice (some ⟨u.heap.size, 0, none⟩) M M) (u.alloc (.cells (rep M (.int .u64 0)) 26)) := fun u => by
    have h := run_make_rowN (P := Tryz.prog) 44 26 i1 (.int .u64 0) Tryz.underlying44 hi1 hz1 .i64 .i64 M M (Nat.le_refl _) (by rw [hby1]; omega) (by omega) u
    rw [hsz1, Nat.mul_one] at h
    rw [h, madeCells_rep]
  clear ha hb hn hn' eA eB hla hlb ha' hb' hn1 hm1 hM
  go_enter Tryz.func46, Tryz.ntmps46
  go_wp2_with fail
  refine CC1.out.mono ?_
  rintro e w1 ⟨rfl, rfl⟩
  go_wp2_with fail
  refine CC2.out.mono ?_
  rintro e w1 ⟨rfl, rfl⟩
  go_upto_region 4 with fail
  have HB0 := hide (below1 w (.cells (rep M (.int .u64 0)) 26))
  have HK0 := hide (show Blk (w.alloc (.cells (rep M (.int .u64 0)) 26)) w.heap.size 26 (ics .u64 (stp (fun _ => 0) (putF2 (bits .or .u64) a' b') 0) M) from by rw [ics_stp0, ← ics_zero]; exact Blk.new _ _ _)
  clear CC1 CC2
  generalize World.alloc w _ = w1 at *
  obtain ⟨g, hg⟩ : ∃ g, w.heap.size = g := ⟨_, rfl⟩
  rw [hg] at HK0
  rw [hg]
  have Hg := hide hg
  clear hg hmk
  go_wp2
  go_loopw [22] (fun i wr => ∃ k : Nat, k ≤ M ∧ i = .int .i64 k ∧ Hid (Blk wr g 26 (ics .u64 (stp (fun _ => 0) (putF2 (bits .or .u64) a' b') k) M)) ∧ Hid (Below w.heap.size w wr)) (fun i _ => M - (intOf i).toNat)
  case atStart => exact ⟨0, by omega, rfl, HK0, HB0⟩
  case round =>
    obtain ⟨k, hk, rfl, HK, HBr⟩ := hrel
    clear HK0 HB0
    by_cases hlt : k < M
    · have g0 : (0 : Int) ≤ k := by omega
      have g1 : (k : Int) < M := by omega
      have C1 := hide (atB_any (HA.out.at_world HBr.out) HLa.out hnc k)
      have C2 := hide (atB_any (HB.out.at_world HBr.out) HLb.out hmd k)
      have C3 := hide (putU_any (a'.getD k 0) (b'.getD k 0) wr)
      have f0 := HK.out.frozen k
      have q0 : ∃ v, wr.cell? ⟨g, k, none⟩ = some v := ⟨_, (HK.out.cell k).trans (ics_get _ _ _ _ hlt)⟩
      obtain ⟨v0, q0⟩ := q0
      have HN := hide (show Blk (wr.setCell ⟨g, k, none⟩ (.int .u64 (putF2 (bits .or .u64) a' b' k))) g 26 (ics .u64 (stp (fun _ => 0) (putF2 (bits .or .u64) a' b') (k + 1)) M) from by rw [← ics_stp]; exact HK.out.set_ k _)
      have HBn := hide (HBr.out.setCell (p := ⟨g, k, none⟩) (by have := Hg.out; show w.heap.size ≤ g; omega) (.int .u64 (putF2 (bits .or .u64) a' b' k)))
      have HPf := hide (show putF2 (bits .or .u64) a' b' k = bits .or .u64 (a'.getD k 0) (b'.getD k 0) from rfl)
      obtain ⟨xa, hxa⟩ : ∃ x, a'.getD k 0 = x := ⟨_, rfl⟩
      obtain ⟨xb, hxb⟩ : ∃ x, b'.getD k 0 = x := ⟨_, rfl⟩
      rw [HPf.out, hxa, hxb] at HN HBn
      rw [hxa] at C1 C3
      rw [hxb] at C2 C3
      obtain ⟨z, hz⟩ : ∃ z, bits .or .u64 xa xb = z := ⟨_, rfl⟩
      rw [hz] at HN HBn C3
      clear HPf hxa hxb hz HK HBr
      go_wp2_with fail
      refine C1.out.mono ?_
      rintro e w2 ⟨rfl, rfl⟩
      go_wp2_with fail
      refine C2.out.mono ?_
      rintro e w2 ⟨rfl, rfl⟩
      go_wp2_with fail
      refine C3.out.mono ?_
      rintro e w2 ⟨rfl, rfl⟩
      go_wp2
      go_roundw
      case rel => exact ⟨k + 1, by omega, by go_num, HN, HBn⟩
      case measure => simp [intOf]; omega
    · obtain rfl : M = k := by omega
      have HF := hide (show putL (bits .or .u64) a' b' = (List.range M).map (putF2 (bits .or .u64) a' b') from by unfold putL; rw [HLa.out, HLb.out, HM.out])
      rw [ics_stpm] at HK
      have HR := hide (intR_blk (R := fun d => d < wr.heap.size) HK.out HK.out.lt (rfl : (List.range M).map (putF2 (bits .or .u64) a' b') = _))
      have CS := hide (short_any (c := M) HR.out (by simp) (Nat.le_refl _) (by omega))
      go_wp2_with fail
      refine CS.out.mono ?_
      rintro e w2 ⟨rfl, rfl⟩
      go_wp2
      go_ret
      rw [Ha'.out, Hb'.out, HF.out]
      have hs := shortN_le ((List.range M).map (putF2 (bits .or .u64) a' b'))
      rw [List.length_map, List.length_range] at hs
      refine ⟨_, rfl, _, _, _, rfl, ?_, hs, by omega, ?_, HBr.out⟩
      · unfold shL; rw [List.length_take, List.length_map, List.length_range]; omega
      · exact (intR_blk (R := Btw w.heap.size wr.heap.size) HK.out ⟨by have := Hg.out; omega, HK.out.lt⟩ rfl).take _
set_option maxHeartbeats 1000000 in
theorem eUnion_any {A B : Option Addr} {n c m d : Nat} {a b : List Int} {w : World} (ha : Rd (Sh.int .u64) w w.heap.size A a) (hn : a.length = n) (hc : n ≤ c) (hm : c ≤ 9223372036854775807) (hb : Rd (Sh.int .u64) w w.heap.size B b) (hn' : b.length = m) (hc' : m ≤ d) (hm' : d ≤ 9223372036854775807) :
    Calls Tryz.prog 29 #[.slice A n c, .slice B m d] w fun e w' => ∃ v, e = .returned v ∧ NewL (Sh.int .u64) w (shL (putL (bits .or .u64) (a.take 64) (b.take 64))) v w' := by
  have CB := hide (bothU_any ha hn hc hm hb hn' hc' hm')
  clear ha hb hn hn'
  go_enter Tryz.func29, Tryz.ntmps29
  go_wp2_with fail
  refine CB.out.mono ?_
  rintro e w1 ⟨v, rfl, A2, n2, c2, rfl, k1, k2, k3, k4, k5⟩
  go_wp2
  go_ret
  exact ⟨_, rfl, _, _, _, rfl, k1, k2, k3, k4, k5⟩
theorem putL_any (x y : Int) (w : World) : Calls Tryz.prog 48 #[.int .u64 x, .int .u64 y] w fun e w' => e = .returned (.int .u64 (bits .andNot .u64 x y)) ∧ w = w' := by
  go_enter Tryz.func48, Tryz.ntmps48
  go_wp2
  go_ret
  exact ⟨rfl, rfl⟩
set_option maxHeartbeats 4000000 in
set_option maxRecDepth 100000 in
theorem bothL_any {A B : Option Addr} {n c m d : Nat} {a b : List Int} {w : World} (ha : Rd (Sh.int .u64) w w.heap.size A a) (hn : a.length = n) (hc : n ≤ c) (hm : c ≤ 9223372036854775807) (hb : Rd (Sh.int .u64) w w.heap.size B b) (hn' : b.length = m) (hc' : m ≤ d) (hm' : d ≤ 9223372036854775807) :
    Calls Tryz.prog 46 #[.slice A n c, .slice B m d, .func (.func 48) #[] #[]] w fun e w' => ∃ v, e = .returned v ∧ NewL (Sh.int .u64) w (shL (putL (bits .andNot .u64) (a.take 64) (b.take 64))) v w' := by
  have HA := hide (ha.take (min n 64))
  have HB := hide (hb.take (min m 64))
  have eA : a.take (min n 64) = a.take 64 := take_cut hn
  have eB : b.take (min m 64) = b.take 64 := take_cut hn'
  rw [eA] at HA
  rw [eB] at HB
  have hla : (a.take 64).length = min n 64 := by rw [List.length_take, hn, Nat.min_comm]
  have hlb : (b.take 64).length = min m 64 := by rw [List.length_take, hn', Nat.min_comm]
  obtain ⟨a', ha'⟩ : ∃ x, a.take 64 = x := ⟨_, rfl⟩
  obtain ⟨b', hb'⟩ : ∃ x, b.take 64 = x := ⟨_, rfl⟩
  rw [ha'] at HA hla
  rw [hb'] at HB hlb
  have CC1 := hide (cut_any A n c w hc)
  have CC2 := hide (cut_any B m d w hc')
  obtain ⟨n1, hn1⟩ : ∃ k, min n 64 = k := ⟨_, rfl⟩
  obtain ⟨m1, hm1⟩ : ∃ k, min m 64 = k := ⟨_, rfl⟩
  rw [hn1] at hla CC1
  rw [hm1] at hlb CC2
  have hn6 : n1 ≤ 64 := by omega
  have hm6 : m1 ≤ 64 := by omega
  have hnc : n1 ≤ c := by omega
  have hmd : m1 ≤ d := by omega
  have HLa := hide hla
  have HLb := hide hlb
  have Ha' := hide ha'
  have Hb' := hide hb'
  obtain ⟨M, hM⟩ : ∃ M, max n1 m1 = M := ⟨_, rfl⟩
  have HM := hide hM
  have hM6 : M ≤ 64 := by omega
  have hMi : max (n1 : Int) (m1 : Int) = (M : Int) := by omega
  obtain ⟨i1, hi1, hz1, hsz1, hby1⟩ := info_parts info_u64
  have hmk : ∀ u : World, (Instr.makeSlice 44 (.int .i64 (M : Int)) (.int .i64 (M : Int))).run Tryz.prog u = .ok (.slice (some ⟨u.heap.size, 0, none⟩) M M) (u.alloc (.cells (rep M (.int .u64 0)) 26)) := fun u => by
    have h := run_make_rowN (P := Tryz.prog) 44 26 i1 (.int .u64 0) Tryz.underlying44 hi1 hz1 .i64 .i64 M M (Nat.le_refl _) (by rw [hby1]; omega) (by omega) u
    rw [hsz1, Nat.mul_one] at h
    rw [h, madeCells_rep]
  clear ha hb hn hn' eA eB hla hlb ha' hb' hn1 hm1 hM
  go_enter Tryz.func46, Tryz.ntmps46
  go_wp2_with fail
  refine CC1.out.mono ?_
  rintro e w1 ⟨rfl, rfl⟩
  go_wp2_with fail
  refine CC2.out.mono ?_
  rintro e w1 ⟨rfl, rfl⟩
  go_upto_region 4 with fail
  have HB0 := hide (below1 w (.cells (rep M (.int .u64 0)) 26))
  have HK0 := hide (show Blk (w.alloc (.cells (rep M (.int .u64 0)) 26)) w.heap.size 26 (ics .u64 (stp (fun _ => 0) (putF2 (bits .andNot .u64) a' b') 0) M) from by rw [ics_stp0, ← ics_zero]; exact Blk.new _ _ _)
  clear CC1 CC2
  generalize World.alloc w _ = w1 at *
  obtain ⟨g, hg⟩ : ∃ g, w.heap.size = g := ⟨_, rfl⟩
  rw [hg] at HK0
  rw [hg]
  have Hg := hide hg
  clear hg hmk
  go_wp2
  go_loopw [22] (fun i wr => ∃ k : Nat, k ≤ M ∧ i = .int .i64 k ∧ Hid (Blk wr g 26 (ics .u64 (stp (fun _ => 0) (putF2 (bits .andNot .u64) a' b') k) M)) ∧ Hid (Below w.heap.size w wr)) (fun i _ => M - (intOf i).toNat)
  case atStart => exact ⟨0, by omega, rfl, HK0, HB0⟩
  case round =>
    obtain ⟨k, hk, rfl, HK, HBr⟩ := hrel
    clear HK0 HB0
    by_cases hlt : k < M
    · have g0 : (0 : Int) ≤ k := by omega
      have g1 : (k : Int) < M := by omega
      have C1 := hide (atB_any (HA.out.at_world HBr.out) HLa.out hnc k)
      have C2 := hide (atB_any (HB.out.at_world HBr.out) HLb.out hmd k)
      have C3 := hide (putL_any (a'.getD k 0) (b'.getD k 0) wr)
      have f0 := HK.out.frozen k
      have q0 : ∃ v, wr.cell? ⟨g, k, none⟩ = some v := ⟨_, (HK.out.cell k).trans (ics_get _ _ _ _ hlt)⟩
      obtain ⟨v0, q0⟩ := q0
      have HN := hide (show Blk (wr.setCell ⟨g, k, none⟩ (.int .u64 (putF2 (bits .andNot .u64) a' b' k))) g 26 (ics .u64 (stp (fun _ => 0) (putF2 (bits .andNot .u64) a' b') (k + 1)) M) from by rw [← ics_stp]; exact HK.out.set_ k _)
      have HBn := hide (HBr.out.setCell (p := ⟨g, k, none⟩) (by have := Hg.out; show w.heap.size ≤ g; omega) (.int .u64 (putF2 (bits .andNot .u64) a' b' k)))
      have HPf := hide (show putF2 (bits .andNot .u64) a' b' k = bits .andNot .u64 (a'.getD k 0) (b'.getD k 0) from rfl)
      obtain ⟨xa, hxa⟩ : ∃ x, a'.getD k 0 = x := ⟨_, rfl⟩
      obtain ⟨xb, hxb⟩ : ∃ x, b'.getD k 0 = x := ⟨_, rfl⟩
      rw [HPf.out, hxa, hxb] at HN HBn
      rw [hxa] at C1 C3
      rw [hxb] at C2 C3
      obtain ⟨z, hz⟩ : ∃ z, bits .andNot .u64 xa xb = z := ⟨_, rfl⟩
      rw [hz] at HN HBn C3
      clear HPf hxa hxb hz HK HBr
      go_wp2_with fail
      refine C1.out.mono ?_
      rintro e w2 ⟨rfl, rfl⟩
      go_wp2_with fail
      refine C2.out.mono ?_
      rintro e w2 ⟨rfl, rfl⟩
      go_wp2_with fail
      refine C3.out.mono ?_
      rintro e w2 ⟨rfl, rfl⟩
      go_wp2
      go_roundw
      case rel => exact ⟨k + 1, by omega, by go_num, HN, HBn⟩
      case measure => simp [intOf]; omega
    · obtain rfl : M = k := by omega
      have HF := hide (show putL (bits .andNot .u64) a' b' = (List.range M).map (putF2 (bits .andNot .u64) a' b') from by unfold putL; rw [HLa.out, HLb.out, HM.out])
      rw [ics_stpm] at HK
      have HR := hide (intR_blk (R := fun d => d < wr.heap.size) HK.out HK.out.lt (rfl : (List.range M).map (putF2 (bits .andNot .u64) a' b') = _))
      have CS := hide (short_any (c := M) HR.out (by simp) (Nat.le_refl _) (by omega))
      go_wp2_with fail
      refine CS.out.mono ?_
      rintro e w2 ⟨rfl, rfl⟩
      go_wp2
      go_ret
      rw [Ha'.out, Hb'.out, HF.out]
      have hs := shortN_le ((List.range M).map (putF2 (bits .andNot .u64) a' b'))
      rw [List.length_map, List.length_range] at hs
      refine ⟨_, rfl, _, _, _, rfl, ?_, hs, by omega, ?_, HBr.out⟩
      · unfold shL; rw [List.length_take, List.length_map, List.length_range]; omega
      · exact (intR_blk (R := Btw w.heap.size wr.heap.size) HK.out ⟨by have := Hg.out; omega, HK.out.lt⟩ rfl).take _
set_option maxHeartbeats 1000000 in
theorem eLess_any {A B : Option Addr} {n c m d : Nat} {a b : List Int} {w : World} (ha : Rd (Sh.int .u64) w w.heap.size A a) (hn : a.length = n) (hc : n ≤ c) (hm : c ≤ 9223372036854775807) (hb : Rd (Sh.int .u64) w w.heap.size B b) (hn' : b.length = m) (hc' : m ≤ d) (hm' : d ≤ 9223372036854775807) :
    Calls Tryz.prog 30 #[.slice A n c, .slice B m d] w fun e w' => ∃ v, e = .returned v ∧ NewL (Sh.int .u64) w (shL (putL (bits .andNot .u64) (a.take 64) (b.take 64))) v w' := by
  have CB := hide (bothL_any ha hn hc hm hb hn' hc' hm')
  clear ha hb hn hn'
  go_enter Tryz.func30, Tryz.ntmps30
  go_wp2_with fail
  refine CB.out.mono ?_
  rintro e w1 ⟨v, rfl, A2, n2, c2, rfl, k1, k2, k3, k4, k5⟩
  go_wp2
  go_ret
  exact ⟨_, rfl, _, _, _, rfl, k1, k2, k3, k4, k5⟩
end Go.Proofs.YtgiplahhalgbdaaGreat

/-
  The package bitset: Count; sketch.Apart at literals. Conditions: the slice reads as a list of words.
-/
namespace Go.Proofs.YtgiplahhalgbdaaGreat
set_option linter.unusedSimpArgs false
set_option linter.unusedVariables false
open Go.RowKit

theorem ones3_any (w : World) : Calls Tryz.prog 45 #[.int .u64 3] w fun e w' => e = .returned (.int .i64 2) ∧ w = w' := by
  go_enter Tryz.func45, Tryz.ntmps45
  go_wp2
  go_ret
  exact ⟨by kernel_rfl, rfl⟩
theorem sum_snoc {oc : Int → Nat} {l : List Int} {k : Nat} {x : Int} (h : l[k]? = some x) : ((l.take (k + 1)).map oc).sum = ((l.take k).map oc).sum + oc x := by
  rw [List.take_add_one, h, List.map_append, List.sum_append]
  simp
theorem sum_le64 {oc : Int → Nat} : ∀ {l : List Int}, (∀ x ∈ l, oc x ≤ 64) → (l.map oc).sum ≤ 64 * l.length
  | [], _ => by simp
  | x :: l, h => by
    have h1 := sum_le64 (l := l) fun y hy => h y (List.mem_cons_of_mem _ hy)
    have h2 := h x (List.mem_cons_self ..)
    rw [List.map_cons, List.sum_cons, List.length_cons]
    omega
set_option maxHeartbeats 1000000 in
theorem eCount_any {oc : Int → Nat} {A : Option Addr} {n c : Nat} {l : List Int} {w : World} (hx : Rd (Sh.int .u64) w w.heap.size A l) (hn : l.length = n) (hc : n ≤ c) (ho : ∀ x ∈ l.take 64, oc x ≤ 64 ∧ ∀ W, Calls Tryz.prog 45 #[.int .u64 x] W fun e w' => e = .returned (.int .i64 (oc x : Nat)) ∧ W = w') :
    Calls Tryz.prog 28 #[.slice A n c] w fun e w' => e = .returned (.int .i64 (((l.take 64).map oc).sum : Nat)) ∧ w = w' := by
  have HX := hx.take (min n 64)
  rw [take_cut hn] at HX
  have hl : (l.take 64).length = min n 64 := by rw [List.length_take, hn, Nat.min_comm]
  have CC := hide (cut_any A n c w hc)
  obtain ⟨t, ht⟩ : ∃ t, l.take 64 = t := ⟨_, rfl⟩
  rw [ht] at HX hl ho
  obtain ⟨m, hm⟩ : ∃ m, min n 64 = m := ⟨_, rfl⟩
  rw [hm] at hl CC
  have hm6 : m ≤ 64 := by omega
  have hmc : m ≤ c := by omega
  have HT := hide ht
  have HR := hide HX
  have HL := hide hl
  have HO := hide ho
  clear hx hn ho ht hl hm HX
  go_enter Tryz.func28, Tryz.ntmps28
  go_wp2_with fail
  refine CC.out.mono ?_
  rintro e w1 ⟨rfl, rfl⟩
  clear CC
  go_wp2
  go_loopw [3, 9] (fun s i wr => ∃ k : Nat, k ≤ m ∧ i = .int .i64 k ∧ s = .int .i64 (((t.take k).map oc).sum : Nat) ∧ w = wr) (fun _ i _ => m - (intOf i).toNat)
  case atStart => exact ⟨0, by omega, rfl, rfl, rfl⟩
  case round =>
    obtain ⟨k, hk, rfl, rfl, rfl⟩ := hrel
    by_cases hlt : k < m
    · obtain ⟨ad, x, rfl, _, hv, q0⟩ := Rd.icell HR.out (k := k) (by have := HL.out; omega)
      have g0 : (0 : Int) ≤ k := by omega
      have g1 : (k : Int) < m := by omega
      obtain ⟨h1, CO⟩ := HO.out x (List.mem_of_getElem? hv)
      have CO := hide CO
      have HSn := hide (sum_snoc (oc := oc) hv)
      have hs := sum_le64 (oc := oc) (l := t.take k) fun y hy => (HO.out y (List.mem_of_mem_take hy)).1
      rw [List.length_take] at hs
      obtain ⟨z, hz⟩ : ∃ z, ((t.take k).map oc).sum = z := ⟨_, rfl⟩
      obtain ⟨y, hy⟩ : ∃ y, oc x = y := ⟨_, rfl⟩
      rw [hz] at hs HSn
      rw [hy] at h1 CO HSn
      rw [hz]
      have hz6 : z ≤ 4096 := by omega
      clear hv hz hy hs
      go_wp2_with fail
      refine (CO.out _).mono ?_
      rintro e w2 ⟨rfl, rfl⟩
      go_wp2
      go_roundw
      case rel => exact ⟨k + 1, by omega, by go_num, by rw [HSn.out]; go_num, by first | rfl | trivial⟩
      case measure => simp [intOf]; omega
    · obtain rfl : m = k := by omega
      have HF := hide (show t.take m = t from List.take_of_length_le (by rw [HL.out]; exact Nat.le_refl _))
      go_wp2
      go_ret
      exact ⟨by rw [HF.out, HT.out]; rfl, by first | rfl | trivial⟩
theorem less12 : shL (putL (bits .andNot .u64) (([1] : List Int).take 64) (([2] : List Int).take 64)) = [1] := by decide
theorem less21 : shL (putL (bits .andNot .u64) (([2] : List Int).take 64) (([1] : List Int).take 64)) = [2] := by decide
theorem uni12 : shL (putL (bits .or .u64) (([1] : List Int).take 64) (([2] : List Int).take 64)) = [3] := by decide
set_option maxHeartbeats 1000000 in
theorem apart12_any {A B : Option Addr} {w : World} (ha : Rd (Sh.int .u64) w w.heap.size A [1]) (hb : Rd (Sh.int .u64) w w.heap.size B [2]) :
    Calls Tryz.prog 13 #[.slice A 1 1, .slice B 1 1] w fun e w' => e = .returned (.int .i64 2) ∧ Below w.heap.size w w' := by
  have HA := hide ha
  have HB := hide hb
  clear ha hb
  go_enter Tryz.func13, Tryz.ntmps13
  go_wp2_with fail
  refine (eLess_any (n := 1) (m := 1) (c := 1) (d := 1) HA.out rfl (by omega) (by omega) HB.out rfl (by omega) (by omega)).mono ?_
  rintro e w1 ⟨v1, rfl, A1, n1, c1, rfl, k1, k2, k3, k4, k5⟩
  rw [less12] at k1 k4
  obtain rfl : 1 = n1 := k1
  have HR1 := hide (k4.rd (B := w1.heap.size) fun d hd => hd.2)
  have HB1 := hide k5
  have hc1 : 1 ≤ c1 := k2
  clear k2 k4 k5
  go_wp2_with fail
  refine (eLess_any (n := 1) (m := 1) (c := 1) (d := 1) (HB.out.at_world HB1.out) rfl (by omega) (by omega) (HA.out.at_world HB1.out) rfl (by omega) (by omega)).mono ?_
  rintro e w2 ⟨v2, rfl, A2, n2, c2, rfl, k1, k2, k3', k4, k5⟩
  rw [less21] at k1 k4
  obtain rfl : 1 = n2 := k1
  have HR2 := hide (k4.rd (B := w2.heap.size) fun d hd => hd.2)
  replace HR1 := hide (HR1.out.at_world k5)
  have HB2 := hide (Below.step HB1.out k5)
  have hc2 : 1 ≤ c2 := k2
  clear k2 k4 k5 HB1
  go_wp2_with fail
  refine (eUnion_any (n := 1) (m := 1) HR1.out rfl hc1 k3 HR2.out rfl hc2 k3').mono ?_
  rintro e w3 ⟨v3, rfl, A3, n3, c3, rfl, k1, k2, k3'', k4, k5⟩
  rw [uni12] at k1 k4
  obtain rfl : 1 = n3 := k1
  have HR3 := hide (k4.rd (B := w3.heap.size) fun d hd => hd.2)
  have HB3 := hide (Below.step HB2.out k5)
  have hc3 : 1 ≤ c3 := k2
  clear k2 k4 k5 HB2
  go_wp2_with fail
  refine (eCount_any (n := 1) (oc := fun _ => 2) HR3.out rfl hc3 (fun x hx => by
    obtain rfl : x = 3 := by simpa using hx
    exact ⟨by omega, fun W => ones3_any W⟩)).mono ?_
  rintro e w4 ⟨rfl, rfl⟩
  go_wp2
  go_ret
  exact ⟨rfl, HB3.out⟩
end Go.Proofs.YtgiplahhalgbdaaGreat
