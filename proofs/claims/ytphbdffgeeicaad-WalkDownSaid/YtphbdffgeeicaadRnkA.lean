/-
  The package rank, the order of two hits and of two spots, and the reference's. No condition.
-/
import Derived.Test.YtphbdffgeeicaadHit
import Derived.Deep.RegionHeld3
import Derived.Sort.Grow
import Derived.Lib.Small
namespace Go.Proofs.Ytphbdffgeeicaad
set_option linter.unusedSimpArgs false
set_option linter.unusedVariables false
open Go.RowKit Go.Lib Go.Sort

/-- a world, behind draws and new blocks -/
def Grown (w w' : World) : Prop := ∃ q os, w' = grow (w.drewN q) os
section
variable {w w' w'' : World}
theorem Grown.refl (w : World) : Grown w w := ⟨0, #[], by simp [World.drewN]⟩
theorem Grown.drew (h : Grown w w') : Grown w w'.drew := by
  obtain ⟨q, os, rfl⟩ := h
  exact ⟨q + 1, os, rfl⟩
theorem Grown.alloc (h : Grown w w') (o : Obj) : Grown w (w'.alloc o) := by
  obtain ⟨q, os, rfl⟩ := h
  exact ⟨q, os ++ #[o], by rw [alloc_eq_grow, grow_grow]⟩
theorem Grown.trans (h : Grown w w') (k : Grown w' w'') : Grown w w'' := by
  obtain ⟨q, os, rfl⟩ := h
  obtain ⟨p, ps, rfl⟩ := k
  refine ⟨q + p, os ++ ps, ?_⟩
  rw [← grow_grow]
  simp [grow, World.drewN, Nat.add_assoc]
theorem Grown.below (h : Grown w w') : Below w.heap.size w w' := by
  obtain ⟨q, os, rfl⟩ := h
  refine ⟨rfl, rfl, rfl, by simp [grow, World.drewN], fun i hi => ?_⟩
  simp only [grow, World.drewN]
  rw [Array.getElem?_append_left hi]
end

abbrev Spt : Type := Hit × Int
def orI (x y : Int) : Int := if x ≠ 0 then x else y
theorem orI_ne {x y : Int} (h : x ≠ 0) : orI x y = x := if_pos h
theorem orI_eq {x y : Int} (h : ¬ x ≠ 0) : orI x y = y := if_neg h
def hitO (a b : Hit) : Int := orI (compareInt a.1 b.1) (compareInt a.2 b.2)
def sptO (a b : Spt) : Int := orI (hitO a.1 b.1) (compareInt a.2 b.2)
def hitLt (a b : Hit) : Bool := decide (a.1 < b.1 ∨ a.1 = b.1 ∧ a.2 < b.2)
def sptLt (a b : Spt) : Bool := hitLt a.1 b.1 || (a.1 == b.1 && decide (a.2 < b.2))
theorem cmp_neg (x y : Int) : compareInt x y < 0 ↔ x < y := by
  unfold compareInt; split
  · omega
  · split <;> omega
theorem cmp_zero (x y : Int) : compareInt x y = 0 ↔ x = y := by
  unfold compareInt; split
  · omega
  · split <;> omega
theorem or_neg (x y : Int) : orI x y < 0 ↔ x < 0 ∨ x = 0 ∧ y < 0 := by
  unfold orI; split <;> omega
theorem or_zero (x y : Int) : orI x y = 0 ↔ x = 0 ∧ y = 0 := by
  unfold orI; split <;> omega
theorem hitO_neg (a b : Hit) : decide (hitO a b < 0) = hitLt a b := by
  unfold hitO hitLt
  have e := or_neg (compareInt a.1 b.1) (compareInt a.2 b.2)
  rw [cmp_neg, cmp_neg, cmp_zero] at e
  exact decide_eq_decide.2 e
theorem hitO_zero (a b : Hit) : hitO a b = 0 ↔ a = b := by
  unfold hitO; rw [or_zero, cmp_zero, cmp_zero]
  exact ⟨fun ⟨h, k⟩ => Prod.ext h k, fun h => by subst h; exact ⟨rfl, rfl⟩⟩
theorem sptO_neg (a b : Spt) : decide (sptO a b < 0) = sptLt a b := by
  unfold sptO sptLt
  rw [← hitO_neg]
  by_cases h : hitO a.1 b.1 < 0
  · have k : sptO a b < 0 := (or_neg _ _).2 (.inl h)
    have k' : orI (hitO a.1 b.1) (compareInt a.2 b.2) < 0 := k
    rw [decide_eq_true k', decide_eq_true h]; rfl
  · by_cases e : a.1 = b.1
    · have e0 := (hitO_zero a.1 b.1).2 e
      have k : orI (hitO a.1 b.1) (compareInt a.2 b.2) = compareInt a.2 b.2 := by unfold orI; rw [if_neg (by simpa using e0)]
      rw [k, decide_eq_false h]; simp [e, cmp_neg]
    · have e0 : hitO a.1 b.1 ≠ 0 := fun k => e ((hitO_zero _ _).1 k)
      have k : orI (hitO a.1 b.1) (compareInt a.2 b.2) = hitO a.1 b.1 := by unfold orI; rw [if_pos e0]
      rw [k]; simp [e]

set_option maxHeartbeats 1000000 in
theorem cmpU_any (x y : Int) (w : World) : Calls Try.prog 30 #[.int .u64 x, .int .u64 y] w fun e w' => e = .returned (.int .i64 (compareInt x y)) ∧ w = w' := by
  by_cases h1 : x < y
  · have e : compareInt x y = -1 := by unfold compareInt; simp [h1]
    rw [e]
    go_enter Try.func30, Try.ntmps30
    go_wp2
    all_goals go_ret
    all_goals exact ⟨rfl, rfl⟩
  · by_cases h2 : y < x
    · have e : compareInt x y = 1 := by unfold compareInt; simp [h1, h2]
      rw [e]
      go_enter Try.func30, Try.ntmps30
      go_wp2
      all_goals go_ret
      all_goals exact ⟨rfl, rfl⟩
    · have e : compareInt x y = 0 := by unfold compareInt; simp [h1, h2]
      rw [e]
      go_enter Try.func30, Try.ntmps30
      go_wp2
      all_goals go_ret
      all_goals exact ⟨rfl, rfl⟩
set_option maxHeartbeats 1000000 in
theorem cmpI_any (x y : Int) (w : World) : Calls Try.prog 26 #[.int .i64 x, .int .i64 y] w fun e w' => e = .returned (.int .i64 (compareInt x y)) ∧ w = w' := by
  by_cases h1 : x < y
  · have e : compareInt x y = -1 := by unfold compareInt; simp [h1]
    rw [e]
    go_enter Try.func26, Try.ntmps26
    go_wp2
    all_goals go_ret
    all_goals exact ⟨rfl, rfl⟩
  · by_cases h2 : y < x
    · have e : compareInt x y = 1 := by unfold compareInt; simp [h1, h2]
      rw [e]
      go_enter Try.func26, Try.ntmps26
      go_wp2
      all_goals go_ret
      all_goals exact ⟨rfl, rfl⟩
    · have e : compareInt x y = 0 := by unfold compareInt; simp [h1, h2]
      rw [e]
      go_enter Try.func26, Try.ntmps26
      go_wp2
      all_goals go_ret
      all_goals exact ⟨rfl, rfl⟩
set_option maxHeartbeats 2000000 in
theorem or_any (g : Nat) (x y : Int) (w : World) (h : Blk w g 3 #[.int .i64 x, .int .i64 y]) : Calls Try.prog 24 #[.slice (some ⟨g, 0, none⟩) 2 2] w fun e w' => e = .returned (.int .i64 (orI x y)) ∧ w = w' := by
  have c0 : w.cell? ⟨g, 0, none⟩ = some (.int .i64 x) := h.cell 0
  have c1 : w.cell? ⟨g, 1, none⟩ = some (.int .i64 y) := h.cell 1
  have HO := hide (rfl : orI x y = orI x y)
  have HX := hide (fun h0 : x ≠ 0 => orI_ne (y := y) h0)
  have HY := hide (fun h0 : ¬ x ≠ 0 => orI_eq (y := y) h0)
  generalize orI x y = r at *
  clear h HO
  go_enter Try.func24, Try.ntmps24
  go_wp2
  go_loop [8] (fun j => ∃ i : Nat, i ≤ 2 ∧ j = .int .i64 i ∧ Hid (1 ≤ i → x = 0) ∧ Hid (2 ≤ i → y = 0)) (fun j => 2 - (intOf j).toNat)
  case atStart => exact ⟨0, by omega, rfl, hide (fun h => by omega), hide (fun h => by omega)⟩
  case round =>
    obtain ⟨i, hi, rfl, H0, H1⟩ := hrel
    rcases i with _ | _ | _ | i
    · by_cases e0 : x = 0
      · subst e0
        go_wp2
        go_round
        case rel => exact ⟨1, by omega, by go_num, hide (fun _ => by first | rfl | trivial), hide (fun h => by omega)⟩
        case measure => simp [intOf]
      · go_wp2
        all_goals go_ret
        exact ⟨congrArg (fun z => Ending.returned (Value.int .i64 z)) (HX.out e0).symm, rfl⟩
    · obtain rfl := H0.out (by omega)
      by_cases e1 : y = 0
      · subst e1
        go_wp2
        go_round
        case rel => exact ⟨2, by omega, by go_num, hide (fun _ => by first | rfl | trivial), hide (fun _ => by first | rfl | trivial)⟩
        case measure => simp [intOf]
      · go_wp2
        all_goals go_ret
        exact ⟨congrArg (fun z => Ending.returned (Value.int .i64 z)) (HY.out (by simp)).symm, rfl⟩
    · obtain rfl := H0.out (by omega)
      obtain rfl := H1.out (by omega)
      go_wp2
      all_goals go_ret
      exact ⟨congrArg (fun z => Ending.returned (Value.int .i64 z)) (HY.out (by simp)).symm, rfl⟩
    · omega
end Go.Proofs.Ytphbdffgeeicaad
