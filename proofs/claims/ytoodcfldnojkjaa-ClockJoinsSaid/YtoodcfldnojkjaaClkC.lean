/-
  The package clock: how two clocks stand. Conditions: the slices read as lists of ints.
-/
import Derived.Test.YtoodcfldnojkjaaClkB
namespace Go.Proofs.Ytoodcfldnojkjaa
open Go.RowKit

def anyLt (f g : Nat → Int) (n : Nat) : Bool := (List.range n).any fun i => decide (f i < g i)
theorem anyLt_succ (f g : Nat → Int) (n : Nat) : anyLt f g (n + 1) = (anyLt f g n || decide (f n < g n)) := by simp [anyLt, List.range_succ]
theorem anyLt_false {f g : Nat → Int} {n : Nat} (h : anyLt f g n = false) (i : Nat) (hi : i < n) : g i ≤ f i := by
  unfold anyLt at h
  rw [List.any_eq_false] at h
  have := h i (by simpa using hi)
  simpa using this
theorem anyLt_true {f g : Nat → Int} {n : Nat} (h : anyLt f g n = true) : ∃ i, i < n ∧ f i < g i := by
  unfold anyLt at h
  rw [List.any_eq_true] at h
  obtain ⟨i, hi, h⟩ := h
  exact ⟨i, by simpa using hi, by simpa using h⟩
theorem anyLt_mk {f g : Nat → Int} {n : Nat} (i : Nat) (hi : i < n) (h : f i < g i) : anyLt f g n = true := by
  unfold anyLt
  rw [List.any_eq_true]
  exact ⟨i, by simpa using hi, by simpa using h⟩
theorem anyLt_no {f g : Nat → Int} {n : Nat} (h : ∀ i, i < n → g i ≤ f i) : anyLt f g n = false := by
  cases hh : anyLt f g n
  · rfl
  · obtain ⟨i, hi, hl⟩ := anyLt_true hh
    have := h i hi
    omega
def cmpOf (lt gt : Bool) : Int := if lt && gt then 2 else if lt then -1 else if gt then 1 else 0
def cmp (f g : Nat → Int) : Int := cmpOf (anyLt f g 65) (anyLt g f 65)

theorem eqUpTo_arr (f g : Nat → Int) : ∀ l : List Nat, (∀ i ∈ l, i < 65) → eqUpTo (arr f) (arr g) l = l.all fun i => f i == g i
  | [], _ => rfl
  | i :: l, h => by
    simp only [eqUpTo, arr_get f i (h i (by simp)), arr_get g i (h i (by simp)), List.all_cons]
    rw [eqUpTo_arr f g l (fun j hj => h j (by simp [hj]))]
def sameB (f g : Nat → Int) : Bool := (List.range 65).all fun i => f i == g i
theorem sameB_iff (f g : Nat → Int) : sameB f g = true ↔ ∀ i, i < 65 → f i = g i := by simp [sameB]
theorem run_eql_arr (f g : Nat → Int) (W : World) : (binOp .eql 33 (.agg (arr f)) (.agg (arr g))).run Try.prog W = .ok (.bool (sameB f g)) W := by
  rw [run_eql_intArray (P := Try.prog) W (len := 65) (k := .i64) Try.underlying33 Try.underlying3 (by kernel_rfl) (fun i hi => ⟨_, arr_get f i hi⟩) (fun i hi => ⟨_, arr_get g i hi⟩),
    eqUpTo_arr f g _ (by simp)]
  rfl
theorem same_fg (f g : Nat → Int) : sameB f g = (!anyLt f g 65 && !anyLt g f 65) := by
  rw [Bool.eq_iff_iff, sameB_iff]
  constructor
  · intro h
    rw [anyLt_no (fun i hi => by rw [h i hi]; exact Int.le_refl _), anyLt_no (fun i hi => by rw [h i hi]; exact Int.le_refl _)]
    rfl
  · intro h i hi
    simp at h
    have := anyLt_false h.1 i hi
    have := anyLt_false h.2 i hi
    omega
theorem same_with_g (f g : Nat → Int) : sameB (withOf f g) g = !anyLt g f 65 := by
  rw [Bool.eq_iff_iff, sameB_iff]
  constructor
  · intro h
    rw [anyLt_no (fun i hi => by have := h i hi; unfold withOf at this; split at this <;> omega)]
    rfl
  · intro h i hi
    simp at h
    have := anyLt_false h i hi
    unfold withOf; split <;> omega
theorem same_with_f (f g : Nat → Int) : sameB (withOf f g) f = !anyLt f g 65 := by
  rw [Bool.eq_iff_iff, sameB_iff]
  constructor
  · intro h
    rw [anyLt_no (fun i hi => by have := h i hi; unfold withOf at this; split at this <;> omega)]
    rfl
  · intro h i hi
    simp at h
    have := anyLt_false h i hi
    unfold withOf; split <;> omega

set_option maxHeartbeats 1000000 in
set_option maxRecDepth 100000 in
theorem compare_any (A B : Option Addr) (n c m d : Nat) (xs ys : List Int) (w : World) (hx : Ints w w.heap.size A xs) (hn : xs.length = n) (hc : n ≤ c) (hm : c ≤ 9223372036854775807)
    (hy : Ints w w.heap.size B ys) (hn' : ys.length = m) (hc' : m ≤ d) (hm' : d ≤ 9223372036854775807) :
    Calls Try.prog 15 #[.slice A n c, .slice B m d] w fun e w' => e = .returned (.int .i64 (cmp (clkAt xs) (clkAt ys))) ∧ Below w.heap.size w w' := by
  have Hn := hide hn
  have Hn' := hide hn'
  clear hn hn'
  have hz := z33
  have hqg : Try.prog.eqGuardType Try.prog.depth 33 = false := by kernel_rfl
  unfold cmp
  have e1 := run_eql_arr (clkAt xs) (clkAt ys)
  have e2 := run_eql_arr (withOf (clkAt xs) (clkAt ys)) (clkAt ys)
  have e3 := run_eql_arr (withOf (clkAt xs) (clkAt ys)) (clkAt xs)
  rw [same_fg] at e1
  rw [same_with_g] at e2
  rw [same_with_f] at e3
  generalize anyLt (clkAt xs) (clkAt ys) 65 = lt at *
  generalize anyLt (clkAt ys) (clkAt xs) 65 = gt at *
  have hqg : Try.prog.eqGuardType Try.prog.depth 33 = false := by kernel_rfl
  go_enter Try.func15, Try.ntmps15
  go_upto_region 2 with (first
      | (go_at_call 18; first
          | ((with_reducible refine (of_any _ _ _ xs _ hx Hn.out hc hm).mono ?_); rintro e w1 ⟨rfl, hb⟩)
          | ((with_reducible refine (of_any _ _ _ ys _ ((hy.below hb (Nat.le_refl _)).more hb.size) Hn'.out hc' hm').mono ?_); rintro e w2 ⟨rfl, hb2⟩))
      | (refine wpList_store_row rfl 33 (.tmp 5) (.tmp 8) rfl w2.heap.size rfl 33 _ _ rfl (heap_alloc2_old _ _ _) (i33 _) (by simp [arr]) (arr_one _) ?_)
      | (refine wpList_store_row rfl 33 (.tmp 6) (.tmp 10) rfl (w2.heap.size + 1) rfl 33 _ _ rfl (Blk.setRow_far (heap_alloc2_new _ _ _) (by omega) _) (i33 _) (by simp [arr]) (arr_one _) ?_))
  have HZ : Hid (Blk ((w2.alloc (.cells (arr fun _ => 0) 33)).alloc (.cells (arr fun _ => 0) 33)) w2.heap.size 33 (arr fun _ => 0)) := hide (heap_alloc2_old _ _ _)
  have HZ' : Hid (Blk ((w2.alloc (.cells (arr fun _ => 0) 33)).alloc (.cells (arr fun _ => 0) 33)) (w2.heap.size + 1) 33 (arr fun _ => 0)) := hide (heap_alloc2_new _ _ _)
  have HL5 := hide ((HZ.out.setRow (arr (clkAt xs))).setRow_far (g' := w2.heap.size + 1) (by omega) (arr (clkAt ys)))
  have HL6' := hide (HZ'.out.setRow_far (g' := w2.heap.size) (by omega) (arr (clkAt xs)))
  have HL6 := hide (HL6'.out.setRow (arr (clkAt ys)))
  have HB := hide (below_setRow (below_setRow (((hb.trans (hb2.mono hb.size)).alloc (Nat.le_trans hb.size hb2.size) (.cells (arr fun _ => 0) 33)).alloc (by have := hb.size; have := hb2.size; simp; omega) (.cells (arr fun _ => 0) 33)) (Nat.le_trans hb.size hb2.size) (arr (clkAt xs))) (g := w2.heap.size + 1) (by have := hb.size; have := hb2.size; omega) (arr (clkAt ys)))
  have hsz : w.heap.size ≤ w2.heap.size := Nat.le_trans hb.size hb2.size
  cases lt <;> cases gt
  all_goals
    go_wp2_with (first
      | (refine wpList_load_row rfl 33 (.tmp 5) rfl w2.heap.size rfl 33 (arr (clkAt xs)) (0, 0) _ HL5.out Try.underlying33 rfl (i33 _) ?_)
      | (refine wpList_load_row rfl 33 (.tmp 6) rfl (w2.heap.size + 1) rfl 33 (arr (clkAt ys)) (0, 0) _ HL6.out Try.underlying33 rfl (i33 _) ?_))
  · go_ret
    exact ⟨rfl, HB.out⟩
  all_goals
    refine (with_any _ _ _).mono ?_
    rintro e w3 ⟨rfl, hb3⟩
    have HL5 := hide (HL5.out.below hb3 (by simp; omega))
    have HL6 := hide (HL6.out.below hb3 (by simp))
    have HB := hide (HB.out.trans (hb3.mono (by simp; omega)))
    go_wp2_with (first
        | (refine wpList_load_row rfl 33 (.tmp 5) rfl w2.heap.size rfl 33 (arr (clkAt xs)) (0, 0) _ HL5.out Try.underlying33 rfl (i33 _) ?_)
        | (refine wpList_load_row rfl 33 (.tmp 6) rfl (w2.heap.size + 1) rfl 33 (arr (clkAt ys)) (0, 0) _ HL6.out Try.underlying33 rfl (i33 _) ?_))
    go_ret
    exact ⟨rfl, HB.out⟩
end Go.Proofs.Ytoodcfldnojkjaa
