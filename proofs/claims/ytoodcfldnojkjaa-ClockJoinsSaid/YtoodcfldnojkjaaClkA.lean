/-
  The package clock, function by function: what each call computes. Conditions: the slices read as lists of ints.
-/
import Derived.Test.YtoodcfldnojkjaaChecked
import Derived.Test.YtoodcfldnojkjaaLib
import Derived.Laws.StructEq
namespace Go.Proofs.Ytoodcfldnojkjaa
open Go.RowKit

def pos (x : Int) : Int := if x < 0 then 0 else x
def clkAt (xs : List Int) (i : Nat) : Int := pos (xs.getD i 0)
theorem pos_pos (x : Int) : 0 ≤ pos x := by unfold pos; split <;> omega

def arr (f : Nat → Int) : Array Value := ((List.range 65).map fun i => Value.int .i64 (f i)).toArray
theorem arr_size (f : Nat → Int) : (arr f).size = 65 := by simp [arr]
theorem arr_get (f : Nat → Int) (k : Nat) (h : k < 65) : (arr f)[k]? = some (.int .i64 (f k)) := by simp [arr, h]
theorem arr_one (f : Nat → Int) : (arr f).all (·.oneCell') = true := by simp [arr, Value.oneCell']
theorem arr_set (f g : Nat → Int) (k : Nat) (v : Int) (h : ∀ i, i < 65 → g i = if i = k then v else f i) : (arr f).setIfInBounds k (.int .i64 v) = arr g := by
  unfold arr
  rw [List.setIfInBounds_toArray]
  congr 1
  apply List.ext_getElem
  · simp
  · intro i h1 h2
    simp at h2
    rw [List.getElem_set]
    simp [h i h2]
    by_cases e : k = i
    · simp [e]
    · simp [e, Ne.symm e]
theorem arr_congr (f g : Nat → Int) (h : ∀ i, i < 65 → f i = g i) : arr f = arr g := by
  unfold arr
  rw [List.map_congr_left (fun i hi => by rw [h i (by simpa using hi)])]
theorem z33 (w : World) : (zeroValue 33).run Try.prog w = .ok (.agg (arr fun _ => 0)) w := by kernel_rfl
theorem i33 (f : Nat → Int) : (Try.prog.info? 33).map (·.size) = some (arr f).size := by rw [arr_size]; kernel_rfl

def part (g : Nat → Int) (k : Nat) (i : Nat) : Int := if i < k then g i else 0
theorem part_zero (g : Nat → Int) : arr (part g 0) = arr fun _ => 0 := by unfold arr part; simp
theorem part_step (g : Nat → Int) (k : Nat) : (arr (part g k)).setIfInBounds k (.int .i64 (g k)) = arr (part g (k + 1)) := by
  apply arr_set
  intro i _
  unfold part
  by_cases e : i = k
  · subst e; simp
  · by_cases l : i < k
    · simp [l, e, Nat.lt_succ_of_lt l]
    · simp [l, e, show ¬ i < k + 1 by omega]
theorem part_end (xs : List Int) (k : Nat) (h : xs.length ≤ k ∨ 65 ≤ k) : arr (part (clkAt xs) k) = arr (clkAt xs) := by
  apply arr_congr
  intro i hi
  unfold part
  split
  · rfl
  · have : xs.length ≤ i := by omega
    simp [clkAt, this, pos]

set_option maxHeartbeats 1000000 in
theorem of_any (A : Option Addr) (n c : Nat) (xs : List Int) (w : World) (hx : Ints w w.heap.size A xs) (hn : xs.length = n) (hc : n ≤ c) (hm : c ≤ 9223372036854775807) :
    Calls Try.prog 18 #[.slice A n c] w fun e w' => e = .returned (.agg (arr (clkAt xs))) ∧ Below w.heap.size w w' := by
  have Hn := hide hn
  clear hn
  have hz := z33
  by_cases h65 : n ≤ 65
  all_goals
    go_enter Try.func18, Try.ntmps18
    go_wp2
    go_loopw [4, 5, 12] (fun _ _ i wr => ∃ k : Nat, k ≤ n ∧ k ≤ 65 ∧ i = .int .i64 k ∧ Below w.heap.size w wr ∧ Blk wr w.heap.size 33 (arr fun _ => 0) ∧ Blk wr (w.heap.size + 1) 33 (arr (part (clkAt xs) k))) (fun _ _ i _ => 65 - (intOf i).toNat)
    case atStart => exact ⟨0, by omega, by omega, rfl, ((Below.refl _ _).alloc (Nat.le_refl _) _).alloc (by simp) _, heap_alloc2_old _ _ _, by rw [part_zero]; exact heap_alloc2_new _ _ _⟩
    case round =>
      obtain ⟨k, hk, hk5, rfl, hb, hB0, hB1⟩ := hrel
      by_cases hlt : k < n ∧ k < 65
      · obtain ⟨hlt, hl5⟩ := hlt
        obtain ⟨ad, x, rfl, _, hx1, c1⟩ := (hx.below hb (Nat.le_refl _)).cell (k := k) (by have := Hn.out; omega)
        have hcx : clkAt xs k = pos x := by simp [clkAt, hx1]
        have Hps := hide (part_step (clkAt xs) k)
        rw [hcx] at Hps
        have ha : wr.cell? ⟨w.heap.size + 1, k, none⟩ = some (.int .i64 (part (clkAt xs) k k)) := by rw [hB1.cell]; exact arr_get _ _ hl5
        have hf := hB1.frozen k
        have HB0 := hide hB0
        have HB1 := hide hB1
        clear hx hx1 hB0 hB1 hcx
        go_wp2
        all_goals
          go_roundw
          case rel => exact ⟨k + 1, by omega, by omega, by go_num, hb.setCell (by simp) _, HB0.out.far (by simp) _, by rw [← Hps.out]; exact HB1.out.set_ _ _⟩
          case measure => simp [intOf]; omega
      · have hend : arr (part (clkAt xs) k) = arr (clkAt xs) := part_end xs k (by have := Hn.out; omega)
        rw [hend] at hB1
        first | (have hge : n ≤ k := by omega) | (have hge : 65 ≤ k := by omega)
        have HB0 := hide hB0
        have HB1 := hide hB1
        clear hB0 hB1 hend hz hx Hn hlt
        go_wp2_with (first | (refine wpList_load_row rfl 33 (.tmp 3) rfl (w.heap.size + 1) rfl 33 (arr (clkAt xs)) (0, 0) _ HB1.out Try.underlying33 rfl (i33 _) ?_) | (refine wpList_store_row rfl 33 (.tmp 2) (.tmp 22) rfl w.heap.size rfl 33 _ (arr (clkAt xs)) rfl HB0.out (i33 _) (by simp [arr]) (arr_one _) ?_))
        all_goals
          refine bodyPost_ret (results_cell_row rfl _ _ w.heap.size 33 (arr (clkAt xs)) (0, 0) _ rfl (setRow_heap _ _ _ _ _ _ HB0.out) Try.underlying33 rfl (i33 _)) rfl ?_
          exact ⟨rfl, below_setRow hb (Nat.le_refl _) _⟩

def atSpec (f : Nat → Int) (i : Int) : Int := if i < 0 ∨ 64 < i then 0 else f i.toNat
set_option maxHeartbeats 1000000 in
theorem refAt_any (A : Option Addr) (n c : Nat) (xs : List Int) (i : Int) (w : World) (hx : Ints w w.heap.size A xs) (hn : xs.length = n) :
    Calls Try.prog 7 #[.slice A n c, .int .i64 i] w fun e w' => e = .returned (.int .i64 (atSpec (clkAt xs) i)) ∧ w = w' := by
  have Hn := hide hn
  clear hn
  by_cases h0 : i < 0
  · have hs : atSpec (clkAt xs) i = 0 := by simp [atSpec, h0]
    rw [hs]
    go_enter Try.func7, Try.ntmps7
    go_wp2
    go_ret
    exact ⟨rfl, rfl⟩
  by_cases h1 : 64 < i
  · have hs : atSpec (clkAt xs) i = 0 := by simp [atSpec, h1]
    rw [hs]
    go_enter Try.func7, Try.ntmps7
    go_wp2
    go_ret
    exact ⟨rfl, rfl⟩
  obtain ⟨k, rfl⟩ := Int.eq_ofNat_of_zero_le (Int.not_lt.1 h0)
  by_cases h2 : (n : Int) ≤ k
  · have hs : atSpec (clkAt xs) k = 0 := by
      have := Hn.out
      simp [atSpec, h0, h1, clkAt, List.getElem?_eq_none (show xs.length ≤ k by omega), pos]
    rw [hs]
    go_enter Try.func7, Try.ntmps7
    go_wp2
    go_ret
    exact ⟨rfl, rfl⟩
  · obtain ⟨ad, x, rfl, _, hx1, c1⟩ := hx.cell (k := k) (by have := Hn.out; omega)
    have hs : atSpec (clkAt xs) k = pos x := by simp [atSpec, h0, h1, clkAt, hx1]
    have hlt : (k : Int) < n := by omega
    have hle : (k : Int) ≤ 64 := by omega
    rw [hs]
    clear hx hx1 hs h0 h1 h2
    go_enter Try.func7, Try.ntmps7
    go_wp2
    all_goals
      go_ret
      exact ⟨by first | rfl | (unfold pos; rw [if_pos (by assumption)]; rfl) | (unfold pos; rw [if_neg (by omega)]; rfl), rfl⟩

set_option maxHeartbeats 1000000 in
theorem at_any (A : Option Addr) (n c : Nat) (xs : List Int) (i : Int) (w : World) (hx : Ints w w.heap.size A xs) (hn : xs.length = n) (hc : n ≤ c) (hm : c ≤ 9223372036854775807) :
    Calls Try.prog 6 #[.slice A n c, .int .i64 i] w fun e w' => e = .returned (.int .i64 (atSpec (clkAt xs) i)) ∧ Below w.heap.size w w' := by
  have Hn := hide hn
  clear hn
  by_cases h0 : i < 0
  · have hs : atSpec (clkAt xs) i = 0 := by simp [atSpec, h0]
    rw [hs]
    go_enter Try.func6, Try.ntmps6
    go_wp2
    go_ret
    exact ⟨rfl, Below.refl _ _⟩
  by_cases h1 : 64 < i
  · have hs : atSpec (clkAt xs) i = 0 := by simp [atSpec, h1]
    rw [hs]
    go_enter Try.func6, Try.ntmps6
    go_wp2
    go_ret
    exact ⟨rfl, Below.refl _ _⟩
  obtain ⟨k, rfl⟩ := Int.eq_ofNat_of_zero_le (Int.not_lt.1 h0)
  have hs : atSpec (clkAt xs) k = clkAt xs k := by simp [atSpec, h1, h0]
  rw [hs]
  have hk : k < 65 := by omega
  have hix := fun W => run_index_intArray (P := Try.prog) W (kd := .i64) Try.underlying33 Try.underlying3 (by kernel_rfl) hk (arr_get (clkAt xs) k hk)
  clear hs h0
  go_enter Try.func6, Try.ntmps6
  go_wp2_with (go_at_call 18; refine (of_any _ _ _ xs _ hx Hn.out hc hm).mono ?_; rintro e w' ⟨rfl, hb⟩)
  go_ret
  exact ⟨rfl, hb⟩

end Go.Proofs.Ytoodcfldnojkjaa
