/-
  The package recall: what Missing calls: the closure, slices.Clone, slices.IndexFunc at hits. Conditions: the slices read as lists of hits.
-/
import Derived.Test.YtggbokgacffamabRecJ
namespace Go.Proofs.Ytggbokgacffamab
open Go.RowKit ChangeMaps

theorem hits_reads {w : World} {B m : Nat} {A : Option Addr} {l : List Hit} (h : Rd SH w B A l) (hn : l.length = m) : Reads w B 2 A m (hcs l) := ⟨by rw [hcs_len, hn], fun h0 => by
  have hne : l ≠ [] := fun e => by rw [e] at hn; simp at hn; omega
  obtain ⟨ad, hA, hR, _⟩ := h hne
  refine ⟨ad, hA, hR, fun j u hu => ?_⟩
  have hj : j < l.length * 2 := by
    have := (List.getElem?_eq_some_iff.1 hu).1
    rwa [hcs_len] at this
  obtain ⟨ad', x, hA', _, hx, c0, c1⟩ := RdR.hcell h (k := j / 2) (by omega)
  have e : ad' = ad := by rw [hA] at hA'; injection hA' with e; exact e.symm
  subst e
  obtain ⟨h1, h2⟩ := hcs_at hx
  rcases Nat.mod_two_eq_zero_or_one j with hm | hm
  · have ej : j / 2 * 2 = j := by omega
    rw [ej] at h1 c0
    rw [hu] at h1
    rw [c0]; exact h1.symm
  · have ej : j / 2 * 2 + 1 = j := by omega
    rw [ej] at h2
    rw [hu] at h2
    have : ad'.add j = (ad'.add (j / 2 * 2)).add 1 := by rw [add_of_add, ej]
    rw [this]; exact c1.trans h2.symm⟩

set_option maxHeartbeats 1000000 in
theorem missing1_any (x y : Int) (b b5 : Nat) (f : List Hit) (w : World) (hM : MapAt w b f) (h5 : Blk w b5 45 #[.map (some b)]) (hw : wfH (x, y)) :
    Calls Try.prog 20 #[.agg #[.int .u64 x, .int .u64 y], .pointer (some ⟨b5, 0, none⟩)] w fun e w' => e = .returned (.bool (decide ((x, y) ∈ f))) ∧ Below w.heap.size w w' := by
  have h5l := h5.lt
  have HM1 := hide (hM.below (below1 w (.cells #[.int .u64 x, .int .u64 y] 36)) hM.lt)
  have H51 := hide (h5.alloc (.cells #[.int .u64 x, .int .u64 y] 36))
  have HN := hide (Blk.new w 36 #[.int .u64 x, .int .u64 y])
  have HB := hide (below1 w (.cells #[.int .u64 x, .int .u64 y] 36))
  clear hM h5
  go_enter Try.func20, Try.ntmps20
  go_upto_region 1 with fail
  generalize w.alloc (.cells #[.int .u64 x, .int .u64 y] 36) = w2 at *
  have L1 := HM1.out.look hw
  have z0 : w2.cell? ⟨w.heap.size, 0, none⟩ = some (.int .u64 x) := HN.out.cell 0
  have z1 : w2.cell? ⟨w.heap.size, 1, none⟩ = some (.int .u64 y) := HN.out.cell 1
  have z2 : w2.cell? ⟨b5, 0, none⟩ = some (.map (some b)) := H51.out.cell 0
  by_cases e : (x, y) ∈ f
  · have HD := hide (decide_eq_true e)
    have hp := count_pos_iff'.2 e
    clear e
    generalize List.count (x, y) f = v at *
    have hp1 : (0 : Int) < v := by omega
    go_wp2
    go_ret
    exact ⟨by rw [HD.out]; rfl, HB.out⟩
  · have HD := hide (decide_eq_false e)
    have hp : List.count (x, y) f = 0 := List.count_eq_zero.2 e
    rw [hp] at L1
    clear e hp
    go_wp2
    go_ret
    exact ⟨by rw [HD.out]; rfl, HB.out⟩

set_option maxHeartbeats 1000000 in
theorem clone_any (A : Option Addr) (n c : Nat) (l : List Hit) (w : World) (hx : Rd SH w w.heap.size A l) (hn : l.length = n) (hc : n ≤ c) (hm : c ≤ 9223372036854775807) (h6 : n ≤ 1000) :
    Calls Try.prog 19 #[.slice A n c] w fun e w' => ∃ v, e = .returned v ∧ w'.ownsRow w.heap.size 36 2 v n (hcs l) ∧ Below w.heap.size w w' := by
  have he := fun (W : World) (a : Option Addr) (n c : Nat) => Lib.run_eql_slice_nil W 29 36 a n c 0 0 Try.underlying29
  rcases A with _ | ad
  · have hl : l = [] := by
      rcases l with _ | ⟨x, l⟩
      · rfl
      · obtain ⟨_, h, _⟩ := hx (by simp)
        cases h
    subst hl
    obtain rfl : n = 0 := by simpa using hn.symm
    go_enter Try.func19, Try.ntmps19
    go_wp2
    go_ret
    exact ⟨_, rfl, ⟨rfl, .inl ⟨rfl, rfl⟩⟩, Below.refl _ _⟩
  · have HR := hide (hits_reads (w := w.alloc (.cells #[] 36)) (hx.alloc (Nat.le_refl _) _) hn)
    have HO := hide (show (w.alloc (.cells #[] 36)).ownsRow w.heap.size 36 2 (.slice (some ⟨w.heap.size, 0, none⟩) 0 0) 0 [] from ⟨rfl, .inr ⟨w.heap.size, 0, #[], rfl, Nat.le_refl _, heap_alloc_new _ _, Nat.le_refl _, Nat.zero_le _, rfl, rfl⟩⟩)
    have HB := hide (below1 w (.cells #[] 36))
    have Hn := hide hn
    obtain ⟨i, hi, hz⟩ := Option.map_eq_some_iff.1 info_hit
    simp only [Prod.mk.injEq] at hz
    obtain ⟨hz, hs, hy⟩ := hz
    have HI := hide hi
    have HZ := hide hz
    have HS := hide hs
    have HY := hide hy
    clear hx hn hi hz hs hy
    go_enter Try.func19, Try.ntmps19
    go_wp2_with (at_builtin; refine wpList_append_any _ rfl _ _ 29 rfl w.heap.size 36 i _ 2 16 Try.underlying29 HI.out HZ.out HS.out HY.out rfl (by decide) _ 0 [] rfl HO.out w.heap.size (some ad) n c (hcs l) rfl HR.out (hcs_one l) (by simp only [maxLen]; omega) (by omega) HB.out.size ?_; intro v' w9 hown9 hgr9 _; have HO9 := hide hown9; have HB9 := hide (below_own HB.out HO.out HB.out.size hgr9); clear hown9 hgr9)
    all_goals go_ret
    all_goals exact ⟨_, rfl, by have h := HO9.out; rwa [Nat.zero_add] at h, HB9.out⟩

set_option maxHeartbeats 1000000 in
theorem indexFunc_any (b b5 : Nat) (f : List Hit) (A : Option Addr) (n c : Nat) (l : List Hit) (w : World) (hM : MapAt w b f) (h5 : Blk w b5 45 #[.map (some b)])
    (hx : Rd SH w w.heap.size A l) (hn : l.length = n) (hc : n ≤ c) (hm : c ≤ 9223372036854775807) (hf : ∀ h ∈ l, wfH h) :
    Calls Try.prog 26 #[.slice A n c, .func (.func 20) #[] #[.pointer (some ⟨b5, 0, none⟩)]] w fun e w' =>
      ((e = .returned (.int .i64 (-1)) ∧ ∀ (j : Nat) (x : Hit), l[j]? = some x → x ∉ f) ∨ ∃ (k : Nat) (x : Hit), e = .returned (.int .i64 (k : Int)) ∧ l[k]? = some x ∧ x ∈ f ∧ ∀ (j : Nat) (y : Hit), j < k → l[j]? = some y → y ∉ f) ∧ Below w.heap.size w w' := by
  have HX := hide hx
  have Hn := hide hn
  have HM := hide hM
  have H5 := hide h5
  have HW := hide hf
  clear hx hn hM h5 hf
  go_enter Try.func26, Try.ntmps26
  go_wp2
  go_loopw [5, 8] (fun _ i wr => ∃ j : Nat, j ≤ n ∧ i = .int .i64 j ∧ Hid (∀ (i : Nat) (y : Hit), i < j → l[i]? = some y → y ∉ f) ∧ Hid (Below w.heap.size w wr)) (fun _ i _ => n - (intOf i).toNat)
  case atStart => exact ⟨0, by omega, rfl, hide (fun i y h => absurd h (by omega)), hide (Below.refl _ _)⟩
  case round =>
    obtain ⟨j, hj, rfl, HA, HBl⟩ := hrel
    by_cases hlt : j < n
    · obtain ⟨ad, ⟨x1, x2⟩, rfl, _, hv, q0, q1⟩ := (HX.out.below HBl.out (Nat.le_refl _)).hcell (k := j) (by have := Hn.out; omega)
      simp only at q0 q1
      have HV := hide hv
      have g0 : (0 : Int) ≤ j := by omega
      have g1 : (j : Int) < n := by omega
      have HC := hide (missing1_any x1 x2 b b5 f wr (HM.out.below HBl.out HM.out.lt) (H5.out.below HBl.out H5.out.lt) (HW.out _ (List.mem_of_getElem? hv)))
      clear hv
      by_cases e : (x1, x2) ∈ f
      · have HE := hide e
        rw [decide_eq_true e] at HC
        clear e
        go_wp2_with (go_at_call 20; (with_reducible refine Calls.mono HC.out ?_); rintro e w6 ⟨rfl, hb⟩; have HB6 := hide (Below.step HBl.out hb); clear hb)
        go_ret
        exact ⟨.inr ⟨j, (x1, x2), rfl, HV.out, HE.out, HA.out⟩, HB6.out⟩
      · have HE := hide e
        rw [decide_eq_false e] at HC
        clear e
        go_wp2_with (go_at_call 20; (with_reducible refine Calls.mono HC.out ?_); rintro e w6 ⟨rfl, hb⟩; have HB6 := hide (Below.step HBl.out hb); clear hb)
        go_roundw
        case rel => exact ⟨j + 1, by omega, by go_num, hide (fun i y hi hy => by
          rcases Nat.lt_or_ge i j with h | h
          · exact HA.out i y h hy
          · obtain rfl : i = j := by omega
            have e := HV.out
            rw [hy] at e; injection e with e; rw [e]; exact HE.out), HB6⟩
        case measure => simp [intOf]; omega
    · obtain rfl : j = n := by omega
      go_wp2
      go_ret
      exact ⟨.inl ⟨rfl, fun i y hy => HA.out i y (by have := (List.getElem?_eq_some_iff.1 hy).1; have := Hn.out; omega) hy⟩, HBl.out⟩
end Go.Proofs.Ytggbokgacffamab
