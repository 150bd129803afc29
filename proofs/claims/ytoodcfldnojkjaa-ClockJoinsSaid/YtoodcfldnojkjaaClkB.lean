/-
  The package clock, its second half: lists, steps, joins. Conditions: the slices read as lists of ints.
-/
import Derived.Test.YtoodcfldnojkjaaClkA
namespace Go.Proofs.Ytoodcfldnojkjaa
open Go.RowKit

def lenOf (f : Nat → Int) : Nat → Nat
  | 0 => 0
  | n + 1 => if f n = 0 then lenOf f n else n + 1
theorem lenOf_le (f : Nat → Int) (n : Nat) : lenOf f n ≤ n := by
  induction n with
  | zero => exact Nat.le_refl _
  | succ n ih => unfold lenOf; split <;> omega
theorem lenOf_congr (f g : Nat → Int) (n : Nat) (h : ∀ i, i < n → f i = g i) : lenOf f n = lenOf g n := by
  induction n with
  | zero => rfl
  | succ n ih => unfold lenOf; rw [ih (fun i hi => h i (by omega)), h n (by omega)]
def shortOf (f : Nat → Int) : List Int := (List.range (lenOf f 65)).map f
theorem shortOf_congr (f g : Nat → Int) (h : ∀ i, i < 65 → f i = g i) : shortOf f = shortOf g := by
  unfold shortOf
  rw [lenOf_congr f g 65 h]
  exact List.map_congr_left fun i hi => h i (by have := lenOf_le g 65; have : i < lenOf g 65 := by simpa using hi
                                                omega)
def cellsTo (f : Nat → Int) (m : Nat) : List Value := (List.range m).map fun i => Value.int .i64 (f i)

theorem cellsTo_get (f : Nat → Int) (m j : Nat) (x : Int) (h : ((List.range m).map f)[j]? = some x) : (cellsTo f m)[j]? = some (.int .i64 x) := by
  rw [show cellsTo f m = ((List.range m).map f).map (Value.int .i64) by simp [cellsTo], List.getElem?_map, h]
  rfl

/-- what a call that makes a list of ints leaves -/
def GivesInts (w : World) (xs : List Int) (e : Ending) (w' : World) : Prop :=
  ∃ A n c, e = .returned (.slice A n c) ∧ xs.length = n ∧ n ≤ c ∧ c ≤ 9223372036854775807 ∧ Ints w' w'.heap.size A xs ∧ Below w.heap.size w w'
def GivesArr (w : World) (f : Nat → Int) (e : Ending) (w' : World) : Prop := e = .returned (.agg (arr f)) ∧ Below w.heap.size w w'

set_option maxHeartbeats 1000000 in
theorem list_any (f : Nat → Int) (w : World) : Calls Try.prog 19 #[.agg (arr f)] w (GivesInts w (shortOf f)) := by
  go_enter Try.func19, Try.ntmps19
  go_wp2
  go_loop [3] (fun n => ∃ k : Nat, k ≤ 65 ∧ n = .int .i64 k ∧ lenOf f k = lenOf f 65) (fun n => (intOf n).toNat)
  case atStart => exact ⟨65, by omega, rfl, rfl⟩
  case round =>
    obtain ⟨k, hk, rfl, hl⟩ := hrel
    have HL := hide hl
    clear hl
    by_cases hgo : 0 < k ∧ f (k - 1) = 0
    · obtain ⟨h0, hf⟩ := hgo
      obtain ⟨m, rfl⟩ : ∃ m, k = m + 1 := ⟨k - 1, by omega⟩
      have hc : (w.alloc (.cells (arr f) 33)).cell? ⟨w.heap.size, m, none⟩ = some (.int .i64 0) := by
        rw [cell_of_row _ _ _ _ _ _ (heap_alloc_new w _), arr_get f m (by omega)]; simp only [Nat.add_sub_cancel] at hf; rw [hf]
      have HF := hide hf
      clear hf
      go_wp2
      go_round
      case rel => exact ⟨m, by omega, by first | rfl | go_num, by rw [← HL.out, lenOf, if_pos (by simpa using HF.out)]⟩
      case measure => first | (simp [intOf]; done) | (simp [intOf]; omega)
    · have hlen : lenOf f 65 = k := by
        rw [← HL.out]
        rcases k with _ | m
        · rfl
        · rw [lenOf, if_neg (by intro e; exact hgo ⟨by omega, by simpa using e⟩)]
      have hout : ∃ v, (w.alloc (.cells (arr f) 33)).cell? ⟨w.heap.size, k - 1, none⟩ = some (.int .i64 v) ∧ (0 < k → (v == 0) = false) := by
        refine ⟨f (k - 1), by rw [cell_of_row _ _ _ _ _ _ (heap_alloc_new w _), arr_get f (k - 1) (by omega)], fun h0 => ?_⟩
        have : f (k - 1) ≠ 0 := fun e => hgo ⟨h0, e⟩
        simpa using this
      have hmk := fun W => run_make_rep (P := Try.prog) Try.underlying22 (e := 3) (z := .int .i64 0) (by_ := 8) (by kernel_rfl) rfl .i64 .i64 k k (Nat.le_refl _) (by omega) (by omega) W
      have hsrc : ∀ (j : Nat) (v : Value), (cellsTo f k)[j]? = some v → ((w.alloc (.cells (arr f) 33)).alloc (.cells (rep k (.int .i64 0)) 3)).cell? ((⟨w.heap.size, 0, none⟩ : Addr).add j) = some v := by
        intro j v hv
        have hj : j < k := by simpa [cellsTo] using (List.getElem?_eq_some_iff.1 hv).1
        rw [add_mk, cell_of_row _ _ _ _ _ _ (heap_alloc2_old w _ _), Nat.zero_add, arr_get f j (by omega), ← hv]
        simp [cellsTo, hj]
      have hcp := run_copy_head (P := Try.prog) (dT := 22) (sT := 22) (ty := 3) (dLen := k) (dCap := k) (sLen := 65) (sCap := 65) _ (cellsTo f k) [] Try.underlying22 (by kernel_rfl) (heap_alloc2_new w (.cells (arr f) 33) (.cells (rep k (.int .i64 0)) 3)) (by simp only [cellsTo, List.length_map, List.length_range]; show _ = min 65 k; omega) hsrc (by simp [cellsTo, rep]) (by simp [cellsTo, Value.oneCell']) (by simp [cellsTo, rep])
      have HLEN := hide hlen
      clear hlen hgo hsrc
      obtain ⟨v, hcv, hv0⟩ := hout
      by_cases h0 : 0 < k
      all_goals
        first | (have hv1 := hv0 h0) | (obtain rfl : k = 0 := (by omega); simp only [Int.cast_ofNat_Int] at hmk)
        clear hv0
        go_wp2
        go_ret
        refine ⟨_, _, _, rfl, by simp [shortOf, HLEN.out], Nat.le_refl _, by omega, ?_, below_setRow (((Below.refl _ _).alloc (Nat.le_refl _) _).alloc (by simp) _) (by simp) _⟩
        refine ints_mk (ad := ⟨w.heap.size + 1, 0, none⟩) (by simp) (fun j x hx => ?_)
        rw [add_mk, cell_of_row _ _ _ _ _ _ (setRow_heap _ _ _ _ _ _ (heap_alloc2_new w _ _))]
        rw [shortOf, HLEN.out] at hx
        simp only [Nat.zero_add, List.append_nil, List.getElem?_toArray]
        exact cellsTo_get f _ j x hx

def stepOf (f : Nat → Int) (i : Int) : Nat → Int := if 0 ≤ i ∧ i ≤ 64 ∧ f i.toNat < 4611686018427387904 then (fun j => if j = i.toNat then f j + 1 else f j) else f
theorem step_set (f : Nat → Int) (k : Nat) (hk : k < 65) (h : f k < 4611686018427387904) : (arr f).setIfInBounds k (.int .i64 (f k + 1)) = arr (stepOf f k) :=
  arr_set _ _ _ _ fun i _ => by
    have : (k : Int) ≤ 64 := by omega
    simp only [stepOf, Int.toNat_natCast, h, this, and_self, if_true, Int.natCast_nonneg]
    by_cases e : i = k <;> simp [e]
def ArrWorld (w w1 : World) (f : Nat → Int) : Prop := Blk w1 w.heap.size 33 (arr f) ∧ Blk w1 (w.heap.size + 1) 33 (arr fun _ => 0) ∧ Below w.heap.size w w1
theorem arrWorld_start (w : World) (f : Nat → Int) : ArrWorld w ((w.alloc (.cells (arr f) 33)).alloc (.cells (arr fun _ => 0) 33)) f :=
  ⟨heap_alloc2_old _ _ _, heap_alloc2_new _ _ _, ((Below.refl _ _).alloc (Nat.le_refl _) _).alloc (by simp) _⟩
theorem ArrWorld.set_ {w w1 : World} {f g : Nat → Int} (h : ArrWorld w w1 f) (k : Nat) (v : Int) (e : (arr f).setIfInBounds k (.int .i64 v) = arr g) : ArrWorld w (w1.setCell ⟨w.heap.size, k, none⟩ (.int .i64 v)) g :=
  ⟨by rw [← e]; exact h.1.set_ _ _, h.2.1.far (by simp) _, h.2.2.setCell (Nat.le_refl _) _⟩
set_option maxHeartbeats 1000000 in
theorem step_any (f : Nat → Int) (i : Int) (w : World) (hf : ∀ i, 0 ≤ f i) : Calls Try.prog 20 #[.agg (arr f), .int .i64 i] w (GivesArr w (stepOf f i)) := by
  have hz := z33
  have H0 := arrWorld_start w f
  by_cases hin : 0 ≤ i ∧ i ≤ 64
  · obtain ⟨h0, h1⟩ := hin
    obtain ⟨k, rfl⟩ := Int.eq_ofNat_of_zero_le h0
    have hk : k < 65 := by omega
    have hc : ((w.alloc (.cells (arr f) 33)).alloc (.cells (arr fun _ => 0) 33)).cell? ⟨w.heap.size, k, none⟩ = some (.int .i64 (f k)) := by rw [H0.1.cell, arr_get f k hk]
    have hfr := H0.1.frozen k
    have hfk := hf k
    by_cases hlt : f k < 4611686018427387904
    · have HB := hide (arrWorld_start w (stepOf f k))
      have hset := step_set f k hk hlt
      clear hf H0
      go_enter Try.func20, Try.ntmps20
      go_wp2_with (first | (refine wpList_load_row rfl 33 (.tmp 2) rfl w.heap.size rfl 33 _ (0, 0) _ HB.out.1 Try.underlying33 rfl (i33 _) ?_) | (refine wpList_store_row rfl 33 (.tmp 4) (.tmp 22) rfl (w.heap.size + 1) rfl 33 _ _ rfl HB.out.2.1 (i33 _) (by simp [arr]) (arr_one _) ?_))
      refine bodyPost_ret (results_cell_row rfl _ _ (w.heap.size + 1) 33 _ (0, 0) _ rfl (setRow_heap _ _ _ _ _ _ HB.out.2.1) Try.underlying33 rfl (i33 _)) rfl ?_
      exact ⟨rfl, below_setRow HB.out.2.2 (by simp) _⟩
    · have hs : stepOf f k = f := by simp [stepOf, hlt]
      rw [hs]
      have HB := hide H0
      clear hf H0 hs
      go_enter Try.func20, Try.ntmps20
      go_wp2_with (first | (refine wpList_load_row rfl 33 (.tmp 2) rfl w.heap.size rfl 33 _ (0, 0) _ HB.out.1 Try.underlying33 rfl (i33 _) ?_) | (refine wpList_store_row rfl 33 (.tmp 4) (.tmp 22) rfl (w.heap.size + 1) rfl 33 _ _ rfl HB.out.2.1 (i33 _) (by simp [arr]) (arr_one _) ?_))
      refine bodyPost_ret (results_cell_row rfl _ _ (w.heap.size + 1) 33 _ (0, 0) _ rfl (setRow_heap _ _ _ _ _ _ HB.out.2.1) Try.underlying33 rfl (i33 _)) rfl ?_
      exact ⟨rfl, below_setRow HB.out.2.2 (by simp) _⟩
  · have hs : stepOf f i = f := by unfold stepOf; rw [if_neg (by omega)]
    rw [hs]
    have HB := hide H0
    clear hf H0 hs
    by_cases h0 : i < 0
    all_goals
      first | skip | have h1 : 64 < i := by omega
      first | have h1 : 64 < i := by omega | skip
      clear hin
      go_enter Try.func20, Try.ntmps20
      go_wp2_with (first | (refine wpList_load_row rfl 33 (.tmp 2) rfl w.heap.size rfl 33 _ (0, 0) _ HB.out.1 Try.underlying33 rfl (i33 _) ?_) | (refine wpList_store_row rfl 33 (.tmp 4) (.tmp 22) rfl (w.heap.size + 1) rfl 33 _ _ rfl HB.out.2.1 (i33 _) (by simp [arr]) (arr_one _) ?_))
      refine bodyPost_ret (results_cell_row rfl _ _ (w.heap.size + 1) 33 _ (0, 0) _ rfl (setRow_heap _ _ _ _ _ _ HB.out.2.1) Try.underlying33 rfl (i33 _)) rfl ?_
      exact ⟨rfl, below_setRow HB.out.2.2 (by simp) _⟩

def withOf (f g : Nat → Int) (i : Nat) : Int := if f i < g i then g i else f i
def withTo (f g : Nat → Int) (k i : Nat) : Int := if i < k then withOf f g i else f i
theorem withTo_step (f g : Nat → Int) (k : Nat) : (arr (withTo f g k)).setIfInBounds k (.int .i64 (withOf f g k)) = arr (withTo f g (k + 1)) := by
  apply arr_set
  intro i _
  unfold withTo
  by_cases e : i = k
  · subst e; simp
  · by_cases l : i < k
    · simp [l, e, Nat.lt_succ_of_lt l]
    · simp [l, e, show ¬ i < k + 1 by omega]
def WithWorld (w w1 : World) (f g : Nat → Int) : Prop := Blk w1 w.heap.size 33 (arr f) ∧ Blk w1 (w.heap.size + 1) 33 (arr g) ∧ Blk w1 (w.heap.size + 2) 33 (arr fun _ => 0) ∧ Below w.heap.size w w1
theorem WithWorld.set_ {w w1 : World} {f f' g : Nat → Int} (h : WithWorld w w1 f g) (k : Nat) (v : Int) (e : (arr f).setIfInBounds k (.int .i64 v) = arr f') : WithWorld w (w1.setCell ⟨w.heap.size, k, none⟩ (.int .i64 v)) f' g :=
  ⟨by rw [← e]; exact h.1.set_ _ _, h.2.1.far (by simp) _, h.2.2.1.far (by simp) _, h.2.2.2.setCell (Nat.le_refl _) _⟩
theorem withWorld_start (w : World) (f g : Nat → Int) : WithWorld w (((w.alloc (.cells (arr f) 33)).alloc (.cells (arr g) 33)).alloc (.cells (arr fun _ => 0) 33)) f g :=
  ⟨Blk.alloc (heap_alloc2_old _ _ _) _, Blk.alloc (heap_alloc2_new _ _ _) _, Blk.new_at (by simp) _ _, (((Below.refl _ _).alloc (Nat.le_refl _) _).alloc (by simp) _).alloc (by simp; omega) _⟩
set_option maxHeartbeats 1000000 in
theorem with_any (f g : Nat → Int) (w : World) : Calls Try.prog 21 #[.agg (arr f), .agg (arr g)] w (GivesArr w (withOf f g)) := by
  have hz := z33
  have HW := hide (withWorld_start w f g)
  go_enter Try.func21, Try.ntmps21
  go_wp2_with (first | (refine wpList_load_row rfl 33 (.tmp 3) rfl (w.heap.size + 1) rfl 33 _ (0, 0) _ HW.out.2.1 Try.underlying33 rfl (i33 _) ?_))
  go_loopw [5, 6, 8] (fun _ _ i wr => ∃ k : Nat, k ≤ 65 ∧ i = .int .i64 k ∧ WithWorld w wr (withTo f g k) g) (fun _ _ i _ => 65 - (intOf i).toNat)
  case atStart => exact ⟨0, by omega, rfl, HW.out⟩
  case round =>
    obtain ⟨k, hk, rfl, hw⟩ := hrel
    by_cases hlt : k < 65
    · have hix := run_index_intArray (P := Try.prog) wr (kd := .i64) Try.underlying33 Try.underlying3 (by kernel_rfl) hlt (arr_get g k hlt)
      have hc : wr.cell? ⟨w.heap.size, k, none⟩ = some (.int .i64 (f k)) := by rw [hw.1.cell, arr_get _ k hlt]; simp [withTo]
      have hfr := hw.1.frozen k
      have HN := hide (hw.set_ k (withOf f g k) (withTo_step f g k))
      clear hw hz
      go_wp2
      all_goals
        go_roundw
        case rel => exact ⟨k + 1, by omega, by go_num, by simpa [withOf] using HN.out⟩
        case measure => first | (simp [intOf]; done) | (simp [intOf]; omega)
    · have hend : arr (withTo f g k) = arr (withOf f g) := arr_congr _ _ fun i hi => by simp [withTo, show i < k by omega]
      unfold WithWorld at hw
      rw [hend] at hw
      have HB := hide hw
      clear hw hz hend
      go_wp2_with (first | (refine wpList_load_row rfl 33 (.tmp 2) rfl w.heap.size rfl 33 _ (0, 0) _ HB.out.1 Try.underlying33 rfl (i33 _) ?_) | (refine wpList_store_row rfl 33 (.tmp 4) (.tmp 20) rfl (w.heap.size + 2) rfl 33 _ _ rfl HB.out.2.2.1 (i33 _) (by simp [arr]) (arr_one _) ?_))
      refine bodyPost_ret (results_cell_row rfl _ _ (w.heap.size + 2) 33 _ (0, 0) _ rfl (setRow_heap _ _ _ _ _ _ HB.out.2.2.1) Try.underlying33 rfl (i33 _)) rfl ?_
      exact ⟨rfl, below_setRow HB.out.2.2.2 (by simp) _⟩

theorem short_any (A : Option Addr) (n c : Nat) (xs : List Int) (w : World) (hx : Ints w w.heap.size A xs) (hn : xs.length = n) (hc : n ≤ c) (hm : c ≤ 9223372036854775807) :
    Calls Try.prog 9 #[.slice A n c] w (GivesInts w (shortOf (clkAt xs))) := by
  have Hn := hide hn
  clear hn
  go_enter Try.func9, Try.ntmps9
  go_wp2_with fail
  refine (of_any _ _ _ xs _ hx Hn.out hc hm).mono ?_
  rintro e w1 ⟨rfl, hb⟩
  go_wp2_with fail
  refine (list_any _ _).mono ?_
  rintro e w2 ⟨A', n', c', rfl, hl, h1, h2, h3, hb2⟩
  have HL := hide hl
  clear hl
  go_wp2_with fail
  go_ret
  exact ⟨_, _, _, rfl, HL.out, h1, h2, h3, hb.trans (hb2.mono hb.size)⟩
theorem tick_any (A : Option Addr) (n c : Nat) (xs : List Int) (i : Int) (w : World) (hx : Ints w w.heap.size A xs) (hn : xs.length = n) (hc : n ≤ c) (hm : c ≤ 9223372036854775807) :
    Calls Try.prog 11 #[.slice A n c, .int .i64 i] w (GivesInts w (shortOf (stepOf (clkAt xs) i))) := by
  have Hn := hide hn
  clear hn
  go_enter Try.func11, Try.ntmps11
  go_wp2_with fail
  refine (of_any _ _ _ xs _ hx Hn.out hc hm).mono ?_
  rintro e w1 ⟨rfl, hb⟩
  go_wp2_with fail
  refine (step_any _ _ _ (fun _ => pos_pos _)).mono ?_
  rintro e w2 ⟨rfl, hb2⟩
  go_wp2_with fail
  refine (list_any _ _).mono ?_
  rintro e w3 ⟨A', n', c', rfl, hl, h1, h2, h3, hb3⟩
  have HL := hide hl
  clear hl
  go_wp2_with fail
  go_ret
  exact ⟨_, _, _, rfl, HL.out, h1, h2, h3, (hb.trans (hb2.mono hb.size)).trans (hb3.mono (Nat.le_trans hb.size hb2.size))⟩
theorem join_any (A B : Option Addr) (n c m d : Nat) (xs ys : List Int) (w : World) (hx : Ints w w.heap.size A xs) (hn : xs.length = n) (hc : n ≤ c) (hm : c ≤ 9223372036854775807)
    (hy : Ints w w.heap.size B ys) (hn' : ys.length = m) (hc' : m ≤ d) (hm' : d ≤ 9223372036854775807) :
    Calls Try.prog 13 #[.slice A n c, .slice B m d] w (GivesInts w (shortOf (withOf (clkAt xs) (clkAt ys)))) := by
  have Hn := hide hn
  have Hn' := hide hn'
  clear hn hn'
  go_enter Try.func13, Try.ntmps13
  go_wp2_with fail
  refine (of_any _ _ _ xs _ hx Hn.out hc hm).mono ?_
  rintro e w1 ⟨rfl, hb⟩
  go_wp2_with fail
  refine (of_any _ _ _ ys _ ((hy.below hb (Nat.le_refl _)).more hb.size) Hn'.out hc' hm').mono ?_
  rintro e w2 ⟨rfl, hb2⟩
  go_wp2_with fail
  refine (with_any _ _ _).mono ?_
  rintro e w3 ⟨rfl, hb3⟩
  go_wp2_with fail
  refine (list_any _ _).mono ?_
  rintro e w4 ⟨A', n', c', rfl, hl, h1, h2, h3, hb4⟩
  have HL := hide hl
  clear hl
  go_wp2_with fail
  go_ret
  have l1 := Nat.le_trans hb.size hb2.size
  exact ⟨_, _, _, rfl, HL.out, h1, h2, h3, ((hb.trans (hb2.mono hb.size)).trans (hb3.mono l1)).trans (hb4.mono (Nat.le_trans l1 hb3.size))⟩
end Go.Proofs.Ytoodcfldnojkjaa
