/-
  The package cluster: steps till none moves. Conditions: the slices read as lists of int32s, not too many.
-/
import Derived.Test.YtodlbbcgplhihagCluT
namespace Go.Proofs.Ytodlbbcgplhihag
open Go.RowKit

def iterC (l cs : List (List Int)) : Nat → List (List Int)
  | 0 => cs
  | k + 1 => stepOfC l (iterC l cs k)
/-- how many steps there are, of q at most -/
def RunIs (l cs : List (List Int)) (q n : Nat) : Prop := n ≤ q ∧ (∀ i, i < n → stepOfC l (iterC l cs i) ≠ iterC l cs i) ∧ (n < q → stepOfC l (iterC l cs n) = iterC l cs n)
theorem RunIs.same {l cs : List (List Int)} {q n m : Nat} (h : RunIs l cs q n) (k : RunIs l cs q m) : n = m := by
  rcases Nat.lt_trichotomy n m with hl | hl | hl
  · exact (k.2.1 n hl (h.2.2 (Nat.lt_of_lt_of_le hl k.1))).elim
  · exact hl
  · exact (h.2.1 m hl (k.2.2 (Nat.lt_of_lt_of_le hl h.1))).elim
theorem stepC_len (l cs : List (List Int)) : (stepOfC l cs).length = cs.length := by simp [stepOfC]
theorem iterC_len (l cs : List (List Int)) (k : Nat) : (iterC l cs k).length = cs.length := by
  induction k with
  | zero => rfl
  | succ k ih => simp only [iterC]; rw [stepC_len, ih]
theorem meanR_len {g : List (List Int)} (h : ∀ v ∈ g, v.length ≤ 1000000) : (meanR g).length ≤ 1000000 := by
  unfold meanR
  split
  · unfold meanOf
    simp only [List.length_map, List.length_range]
    rw [List.getD_eq_getElem?_getD]
    cases hx : g[0]? with
    | none => simp
    | some v => exact h v (List.mem_of_getElem? hx)
  · simp
theorem cAt_mem {cs : List (List Int)} {i : Nat} (h : i < cs.length) : cAt cs i ∈ cs := by
  unfold cAt
  rw [List.getD_eq_getElem?_getD, List.getElem?_eq_getElem h]
  exact List.getElem_mem h
theorem stepC_ok {l cs : List (List Int)} (hl : ∀ v ∈ l, I32 v) (hl2 : ∀ v ∈ l, v.length ≤ 1000000) (hc : ∀ v ∈ cs, I32 v ∧ v.length ≤ 1000000) : ∀ v ∈ stepOfC l cs, I32 v ∧ v.length ≤ 1000000 := by
  intro v hv
  simp only [stepOfC, List.mem_map, List.mem_range] at hv
  obtain ⟨i, hi, rfl⟩ := hv
  unfold moveC
  split
  · rename_i h
    exact ⟨meanR_i32 (memb_i32 hl) h.1, meanR_len (memb_len hl2)⟩
  · exact hc _ (cAt_mem hi)
theorem iterC_ok {l cs : List (List Int)} (hl : ∀ v ∈ l, I32 v) (hl2 : ∀ v ∈ l, v.length ≤ 1000000) (hc : ∀ v ∈ cs, I32 v ∧ v.length ≤ 1000000) (k : Nat) : ∀ v ∈ iterC l cs k, I32 v ∧ v.length ≤ 1000000 := by
  induction k with
  | zero => exact hc
  | succ k ih => exact stepC_ok hl hl2 ih
/-- centers that lie in new blocks -/
def At (w wr : World) (A : Option Addr) (m c : Nat) (xss : List (List Int)) : Prop := xss.length = m ∧ m ≤ c ∧ c ≤ 9223372036854775807 ∧ RdR (Sh.list (Sh.int .i32)) wr (Btw w.heap.size wr.heap.size) A xss ∧ Below w.heap.size w wr
theorem At.below {w wr w' : World} {A : Option Addr} {m c : Nat} {xss : List (List Int)} (h : At w wr A m c xss) (hb : Below wr.heap.size wr w') : At w w' A m c xss :=
  ⟨h.1, h.2.1, h.2.2.1, (h.2.2.2.1.keepBlocks fun b hb' => hb.block b hb'.2).more fun b hb' => ⟨hb'.1, Nat.lt_of_lt_of_le hb'.2 hb.size⟩, Below.step h.2.2.2.2 hb⟩
theorem At.new {w wr w' : World} {xss : List (List Int)} {v : Value} {m : Nat} (hb : Below w.heap.size w wr) (h : NewLists .i32 wr xss v w') (hm : xss.length = m) : ∃ A c, v = .slice A m c ∧ At w w' A m c xss := by
  obtain ⟨A, n, c, rfl, h1, h2, h3, h4, h5⟩ := h
  obtain rfl : n = m := by omega
  exact ⟨A, c, rfl, h1, h2, h3, h4.more fun b hb' => ⟨Nat.le_trans hb.size hb'.1, hb'.2⟩, Below.step hb h5⟩
theorem At.rd {w wr : World} {A : Option Addr} {m c : Nat} {xss : List (List Int)} (h : At w wr A m c xss) : LL wr wr.heap.size A xss := h.2.2.2.1.rd fun _ hb => hb.2
theorem At.gives {w wr : World} {A : Option Addr} {m c : Nat} {xss : List (List Int)} (h : At w wr A m c xss) : NewLists .i32 w xss (.slice A m c) wr := ⟨A, m, c, rfl, h.1, h.2.1, h.2.2.1, h.2.2.2.1, h.2.2.2.2⟩
def RunGives (w : World) (l cs : List (List Int)) (q : Nat) (e : Ending) (w' : World) : Prop := ∃ (v : Value) (n : Nat), e = .returned (.tuple #[v, .int .i64 n]) ∧ RunIs l cs q n ∧ NewLists .i32 w (iterC l cs n) v w'
theorem runGives_drewN {w w' : World} {l cs : List (List Int)} {q : Nat} {e : Ending} (h : RunGives w l cs q e w') (j : Nat) : RunGives w l cs q e (w'.drewN j) := by
  obtain ⟨v, n, h1, h2, A, m, c, h3, h4, h5, h6, h7, h8⟩ := h
  exact ⟨v, n, h1, h2, A, m, c, h3, h4, h5, h6, h7.keep fun _ _ => rfl, below_drewN h8 j⟩
def NoneYet (l cs : List (List Int)) (k : Nat) : Prop := ∀ i, i < k → stepOfC l (iterC l cs i) ≠ iterC l cs i
set_option maxHeartbeats 4000000 in
set_option maxRecDepth 100000 in
theorem run_any (A B : Option Addr) (n c m d : Nat) (l cs : List (List Int)) (a : Int) (w : World) (hx : LL w w.heap.size A l) (hn : l.length = n) (hc : n ≤ c) (hm : c ≤ 9223372036854775807) (hi : ∀ v ∈ l, I32 v)
    (hy : LL w w.heap.size B cs) (hn' : cs.length = m) (hyi : ∀ u ∈ cs, I32 u ∧ u.length ≤ 1000000) (hd : m ≤ d) (hm' : d ≤ 9223372036854775807) (h6 : n ≤ 1000000) (h7 : m ≤ 1000000) (hl1 : ∀ v ∈ l, v.length ≤ 1000000) (ha : a ≤ 1000000) :
    Calls Try.prog 12 #[.slice A n c, .slice B m d, .int .i64 a] w (RunGives w l cs a.toNat) := by
  have HX := hide hx
  have HY := hide hy
  have HI := hide hi
  have HYI := hide hyi
  have Hn := hide hn
  have Hm := hide hn'
  have HL1 := hide hl1
  have hmk := fun W => run_make_rep (P := Try.prog) Try.underlying22 (e := 27) (z := .slice none 0 0) (by_ := 24) (by kernel_rfl) rfl .i64 .i64 m m (Nat.le_refl _) (by omega) (by omega) W
  have E0 := hide (show Outs (w.alloc (.cells (rep m (.slice none 0 0)) 27)) (w.alloc (.cells (rep m (.slice none 0 0)) 27)) w.heap.size ([] ++ List.replicate (m - 0) (.slice none 0 0)) [] (cs.take 0) from ⟨Below.refl _ _, by have := Blk.new w 27 (rep m (.slice none 0 0)); simpa [rep] using this, HdR.nil⟩)
  have HW2 := hide (below1 w (.cells (rep m (.slice none 0 0)) 27))
  have hq : a < 0 ∨ 0 ≤ a := by omega
  rcases hq with hq | hq
  · have hat : a.toNat = 0 := by omega
    clear hx hy hi hyi hn hn' hl1
    go_enter Try.func12, Try.ntmps12
    go_upto_region 3 with fail
    clear hmk
    generalize w.alloc (.cells (rep m (.slice none 0 0)) 27) = w2 at *
    go_loopw [18] (fun i wr => ∃ (k : Nat) (hs2 : List Value), k ≤ m ∧ i = .int .i64 k ∧ Hid (hs2.length = k ∧ Outs w2 wr w.heap.size (hs2 ++ List.replicate (m - k) (.slice none 0 0)) hs2 (cs.take k))) (fun i _ => m - (intOf i).toNat)
    case atStart => exact ⟨0, [], by omega, rfl, hide ⟨rfl, E0.out⟩⟩
    case round =>
      obtain ⟨k, hs2, hk, rfl, hE⟩ := hrel
      clear E0
      by_cases hlt : k < m
      · have HWr := hide (show Below w.heap.size w wr from HW2.out.trans hE.out.2.hb)
        obtain ⟨adB, u, A', c', rfl, hbB, hu, q0, q1, q2, q3⟩ := (HY.out.below HWr.out (Nat.le_refl _)).slc (k := k) (by have := Hm.out; omega)
        have hul := (HYI.out u (List.mem_of_getElem? hu)).2
        have HQ := hide (show I32s wr wr.heap.size A' u from q3.more HWr.out.size)
        have HT := hide (show cs.take (k + 1) = cs.take k ++ [u] by rw [List.take_add_one, hu]; rfl)
        have g0 : (0 : Int) ≤ k := by omega
        have g1 : (k : Int) < m := by omega
        clear hu q3
        go_upto_region 5 with fail
        go_wp2_with fail
        refine (clone_any A' u.length c' u wr HQ.out rfl hul).mono ?_
        rintro e w3 ⟨v3, rfl, A3, n3, c3, rfl, l3, d1, d2, R3, b3⟩
        have E3 := hE.out.2.below b3
        have hO3 : w3.cell? ⟨w.heap.size, k, none⟩ = some (.slice none 0 0) := by rw [E3.blk.cell]; simpa using cells_at hE.out.1 hlt (.slice none 0 0)
        have fO3 := E3.blk.frozen k
        have hOr : w.heap.size < wr.heap.size := hE.out.2.blk.lt
        have E3s := hide ((E3.snoc l3 d1 d2 (R3.more fun b hb => ⟨by have := hb.1; omega, hb.2⟩)).store k (.slice A3 n3 c3))
        clear E3 R3 l3 b3
        go_wp2
        go_roundw
        case rel =>
          have hf := E3s.out
          rw [cells_set hE.out.1 hlt, ← HT.out] at hf
          exact ⟨k + 1, hs2 ++ [.slice A3 n3 c3], by omega, by go_num, hide ⟨by simp [hE.out.1], hf⟩⟩
        case measure => simp [intOf]; omega
      · obtain rfl : m = k := by omega
        have hf := hE.out.2
        rw [Nat.sub_self, List.replicate_zero, List.append_nil, ← Hm.out, List.take_length] at hf
        have A0 := hide (show At w wr (some ⟨w.heap.size, 0, none⟩) m m (iterC l cs 0) from ⟨Hm.out, Nat.le_refl _, by omega,
          (hf.hd.more (R' := Btw w.heap.size wr.heap.size) fun b hb => ⟨by have := hb.1; omega, hb.2⟩).blk hf.blk (by simp) ⟨Nat.le_refl _, hf.blk.lt⟩, HW2.out.trans hf.hb⟩)
        clear hf
        go_upto_region 8 with fail
        go_loopw [8, 31] (fun v i wr => ∃ (k : Nat) (A : Option Addr) (c : Nat), k ≤ 0 ∧ i = .int .i64 k ∧ v = .slice A m c ∧ Hid (NoneYet l cs k) ∧ Hid (At w wr A m c (iterC l cs k))) (fun _ i _ => 0 - (intOf i).toNat)
        case atStart => exact ⟨0, _, _, by omega, rfl, rfl, hide (fun i hi => by omega), A0.out⟩
        case round =>
          obtain ⟨k, A9, c9, hk, rfl, rfl, hN, hA⟩ := hrel
          clear A0
          by_cases hlt2 : k < 0
          · have g0 : (0 : Int) ≤ k := by omega
            have g1 : (k : Int) < 0 := by omega
            have HXW := hide (HX.out.at_world hA.out.2.2.2.2)
            have OK9 := hide (iterC_ok HI.out HL1.out HYI.out k)
            have hlm := hide (iterC_len l cs k)
            have HST := hide (step_any A A9 n c m c9 l (iterC l cs k) wr HXW.out Hn.out hc hm HI.out hA.out.rd hA.out.1 (fun u hu => (OK9.out u hu).1) hA.out.2.1 hA.out.2.2.1 h6 h7 HL1.out (fun u hu => (OK9.out u hu).2))
            go_wp2_with (go_at_call 9; refine HST.out.mono ?_; rintro e w4 ⟨v4, rfl, hN4⟩; obtain ⟨A4, c4, rfl, hA4⟩ := At.new (m := m) hA.out.2.2.2.2 hN4 (by rw [stepC_len]; exact hA.out.1); have B4 := hide hN4.below; have H4 := hide hA4; clear hN4 hA4)
            have AT4 := hide (hA.out.below B4.out)
            have HEQ := hide (eqFunc_any A4 A9 m c4 m c9 (stepOfC l (iterC l cs k)) (iterC l cs k) w4 H4.out.rd H4.out.1 H4.out.2.1 H4.out.2.2.1 AT4.out.rd AT4.out.1 AT4.out.2.1 AT4.out.2.2.1)
            cases heq : decide (stepOfC l (iterC l cs k) = iterC l cs k)
            · rw [heq] at HEQ
              have HNE := hide (of_decide_eq_false heq)
              clear heq
              go_wp2_with (go_at_call 26; refine HEQ.out.mono ?_; rintro e _ ⟨rfl, j5, rfl⟩)
              go_roundw
              case rel => exact ⟨k + 1, A4, c4, by omega, by go_num, rfl, hide (fun i hi => by
                rcases Nat.lt_or_ge i k with h | h
                · exact hN.out i h
                · obtain rfl : i = k := by omega
                  exact HNE.out), hide (H4.out.below (below_drewN (Below.refl _ _) _))⟩
              case measure => simp [intOf]; omega
            · rw [heq] at HEQ
              have HR := hide (show RunGives w l cs a.toNat (.returned (.tuple #[.slice A9 m c9, .int .i64 k])) w4 from ⟨_, k, rfl, ⟨by omega, hN.out, fun _ => of_decide_eq_true heq⟩, AT4.out.gives⟩)
              clear heq
              go_wp2_with (go_at_call 26; refine HEQ.out.mono ?_; rintro e _ ⟨rfl, j5, rfl⟩)
              go_ret2
              exact runGives_drewN HR.out _
          · obtain rfl : k = 0 := by omega
            have HR := hide (show RunGives w l cs a.toNat (.returned (.tuple #[.slice A9 m c9, .int .i64 (0 : Nat)])) wr from ⟨_, 0, rfl, ⟨by omega, hN.out, fun h => by omega⟩, hA.out.gives⟩)
            go_wp2
            go_ret2
            exact HR.out
  · obtain ⟨q, rfl⟩ := Int.eq_ofNat_of_zero_le hq
    have hat : ((q : Int)).toNat = q := Int.toNat_natCast q
    clear hx hy hi hyi hn hn' hl1
    go_enter Try.func12, Try.ntmps12
    go_upto_region 3 with fail
    clear hmk
    generalize w.alloc (.cells (rep m (.slice none 0 0)) 27) = w2 at *
    go_loopw [18] (fun i wr => ∃ (k : Nat) (hs2 : List Value), k ≤ m ∧ i = .int .i64 k ∧ Hid (hs2.length = k ∧ Outs w2 wr w.heap.size (hs2 ++ List.replicate (m - k) (.slice none 0 0)) hs2 (cs.take k))) (fun i _ => m - (intOf i).toNat)
    case atStart => exact ⟨0, [], by omega, rfl, hide ⟨rfl, E0.out⟩⟩
    case round =>
      obtain ⟨k, hs2, hk, rfl, hE⟩ := hrel
      clear E0
      by_cases hlt : k < m
      · have HWr := hide (show Below w.heap.size w wr from HW2.out.trans hE.out.2.hb)
        obtain ⟨adB, u, A', c', rfl, hbB, hu, q0, q1, q2, q3⟩ := (HY.out.below HWr.out (Nat.le_refl _)).slc (k := k) (by have := Hm.out; omega)
        have hul := (HYI.out u (List.mem_of_getElem? hu)).2
        have HQ := hide (show I32s wr wr.heap.size A' u from q3.more HWr.out.size)
        have HT := hide (show cs.take (k + 1) = cs.take k ++ [u] by rw [List.take_add_one, hu]; rfl)
        have g0 : (0 : Int) ≤ k := by omega
        have g1 : (k : Int) < m := by omega
        clear hu q3
        go_upto_region 5 with fail
        go_wp2_with fail
        refine (clone_any A' u.length c' u wr HQ.out rfl hul).mono ?_
        rintro e w3 ⟨v3, rfl, A3, n3, c3, rfl, l3, d1, d2, R3, b3⟩
        have E3 := hE.out.2.below b3
        have hO3 : w3.cell? ⟨w.heap.size, k, none⟩ = some (.slice none 0 0) := by rw [E3.blk.cell]; simpa using cells_at hE.out.1 hlt (.slice none 0 0)
        have fO3 := E3.blk.frozen k
        have hOr : w.heap.size < wr.heap.size := hE.out.2.blk.lt
        have E3s := hide ((E3.snoc l3 d1 d2 (R3.more fun b hb => ⟨by have := hb.1; omega, hb.2⟩)).store k (.slice A3 n3 c3))
        clear E3 R3 l3 b3
        go_wp2
        go_roundw
        case rel =>
          have hf := E3s.out
          rw [cells_set hE.out.1 hlt, ← HT.out] at hf
          exact ⟨k + 1, hs2 ++ [.slice A3 n3 c3], by omega, by go_num, hide ⟨by simp [hE.out.1], hf⟩⟩
        case measure => simp [intOf]; omega
      · obtain rfl : m = k := by omega
        have hf := hE.out.2
        rw [Nat.sub_self, List.replicate_zero, List.append_nil, ← Hm.out, List.take_length] at hf
        have A0 := hide (show At w wr (some ⟨w.heap.size, 0, none⟩) m m (iterC l cs 0) from ⟨Hm.out, Nat.le_refl _, by omega,
          (hf.hd.more (R' := Btw w.heap.size wr.heap.size) fun b hb => ⟨by have := hb.1; omega, hb.2⟩).blk hf.blk (by simp) ⟨Nat.le_refl _, hf.blk.lt⟩, HW2.out.trans hf.hb⟩)
        clear hf
        go_upto_region 8 with fail
        go_loopw [8, 31] (fun v i wr => ∃ (k : Nat) (A : Option Addr) (c : Nat), k ≤ q ∧ i = .int .i64 k ∧ v = .slice A m c ∧ Hid (NoneYet l cs k) ∧ Hid (At w wr A m c (iterC l cs k))) (fun _ i _ => q - (intOf i).toNat)
        case atStart => exact ⟨0, _, _, by omega, rfl, rfl, hide (fun i hi => by omega), A0.out⟩
        case round =>
          obtain ⟨k, A9, c9, hk, rfl, rfl, hN, hA⟩ := hrel
          clear A0
          by_cases hlt2 : k < q
          · have g0 : (0 : Int) ≤ k := by omega
            have g1 : (k : Int) < q := by omega
            have HXW := hide (HX.out.at_world hA.out.2.2.2.2)
            have OK9 := hide (iterC_ok HI.out HL1.out HYI.out k)
            have hlm := hide (iterC_len l cs k)
            have HST := hide (step_any A A9 n c m c9 l (iterC l cs k) wr HXW.out Hn.out hc hm HI.out hA.out.rd hA.out.1 (fun u hu => (OK9.out u hu).1) hA.out.2.1 hA.out.2.2.1 h6 h7 HL1.out (fun u hu => (OK9.out u hu).2))
            go_wp2_with (go_at_call 9; refine HST.out.mono ?_; rintro e w4 ⟨v4, rfl, hN4⟩; obtain ⟨A4, c4, rfl, hA4⟩ := At.new (m := m) hA.out.2.2.2.2 hN4 (by rw [stepC_len]; exact hA.out.1); have B4 := hide hN4.below; have H4 := hide hA4; clear hN4 hA4)
            have AT4 := hide (hA.out.below B4.out)
            have HEQ := hide (eqFunc_any A4 A9 m c4 m c9 (stepOfC l (iterC l cs k)) (iterC l cs k) w4 H4.out.rd H4.out.1 H4.out.2.1 H4.out.2.2.1 AT4.out.rd AT4.out.1 AT4.out.2.1 AT4.out.2.2.1)
            cases heq : decide (stepOfC l (iterC l cs k) = iterC l cs k)
            · rw [heq] at HEQ
              have HNE := hide (of_decide_eq_false heq)
              clear heq
              go_wp2_with (go_at_call 26; refine HEQ.out.mono ?_; rintro e _ ⟨rfl, j5, rfl⟩)
              go_roundw
              case rel => exact ⟨k + 1, A4, c4, by omega, by go_num, rfl, hide (fun i hi => by
                rcases Nat.lt_or_ge i k with h | h
                · exact hN.out i h
                · obtain rfl : i = k := by omega
                  exact HNE.out), hide (H4.out.below (below_drewN (Below.refl _ _) _))⟩
              case measure => simp [intOf]; omega
            · rw [heq] at HEQ
              have HR := hide (show RunGives w l cs (q : Int).toNat (.returned (.tuple #[.slice A9 m c9, .int .i64 k])) w4 from ⟨_, k, rfl, ⟨by omega, hN.out, fun _ => of_decide_eq_true heq⟩, AT4.out.gives⟩)
              clear heq
              go_wp2_with (go_at_call 26; refine HEQ.out.mono ?_; rintro e _ ⟨rfl, j5, rfl⟩)
              go_ret2
              exact runGives_drewN HR.out _
          · obtain rfl : q = k := by omega
            have HR := hide (show RunGives w l cs (q : Int).toNat (.returned (.tuple #[.slice A9 m c9, .int .i64 (q : Nat)])) wr from ⟨_, q, rfl, ⟨by omega, hN.out, fun h => by omega⟩, hA.out.gives⟩)
            go_wp2
            go_ret2
            exact HR.out
theorem run_dummy : True := trivial
end Go.Proofs.Ytodlbbcgplhihag
