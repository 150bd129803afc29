/-
  The package vec, function by function: equal, ahead, right. Conditions: the slices read as lists of int32s.
-/
import Derived.Test.YtlnbeeflifmnjacVecA
namespace Go.Proofs.Ytlnbeeflifmnjac
open Go.RowKit

theorem lens_false {xs ys : List Int} (h : xs.length ≠ ys.length) : decide (xs = ys) = false := decide_eq_false (fun e => h (by rw [e]))
theorem at_false {xs ys : List Int} {k : Nat} {x y : Int} (hx : xs[k]? = some x) (hy : ys[k]? = some y) (h : x ≠ y) : decide (xs = ys) = false :=
  decide_eq_false (fun e => h (by rw [e, hy] at hx; injection hx with hx; exact hx.symm))
def outB (x : Int) : Bool := decide (x < -16777216 ∨ 16777216 < x)
theorem any_take {xs : List Int} {p : Int → Bool} {k : Nat} {x : Int} (h : (xs.take k).any p = false) (hx : xs[k]? = some x) (hp : p x = false) : (xs.take (k + 1)).any p = false := by
  rw [List.take_add_one, hx]; simp only [List.any_append, h, Bool.false_or]; simp [hp]
theorem any_at {xs : List Int} {p : Int → Bool} {k : Nat} {x : Int} (hx : xs[k]? = some x) (hp : p x = true) : xs.any p = true := List.any_eq_true.2 ⟨x, List.mem_of_getElem? hx, hp⟩
def Idx (b : Bool) (r : Int) : Prop := decide (0 ≤ r) = b
/-- the error number of a check -/
def errOf (b : Bool) : Int := if b then 0 else 1
theorem vecOk_out (xs : List Int) (dim : Int) (h : (1 ≤ dim ∧ dim ≤ 4096 ∧ (xs.length : Int) = dim)) : vecOk xs dim = !xs.any outB := by
  unfold vecOk
  rw [decide_eq_true h, Bool.true_and, Bool.eq_iff_iff]
  simp only [List.all_eq_true, decide_eq_true_eq, Bool.not_eq_true', List.any_eq_false, outB]
  exact ⟨fun g x hx e => by have := g x hx; omega, fun g x hx => by have := g x hx; omega⟩
theorem vecOk_no (xs : List Int) (dim : Int) (h : ¬ (1 ≤ dim ∧ dim ≤ 4096 ∧ (xs.length : Int) = dim)) : vecOk xs dim = false := by
  unfold vecOk
  rw [decide_eq_false h, Bool.false_and]
end Go.Proofs.Ytlnbeeflifmnjac
