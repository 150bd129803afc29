/-
  Small facts of lists. No condition.
-/
import Derived.Test.YtgiplahhalgbdaaGreatLib2
namespace Go.Proofs.YtgiplahhalgbdaaGreat

theorem take_snoc {α : Type} {l : List α} {k : Nat} {x : α} (h : l[k]? = some x) : l.take (k + 1) = l.take k ++ [x] := by
  rw [List.take_add_one, h]; rfl
theorem lens_falseG {α : Type} [DecidableEq α] {xs ys : List α} (h : xs.length ≠ ys.length) : decide (xs = ys) = false := decide_eq_false (fun e => h (by rw [e]))
theorem at_falseG {α : Type} [DecidableEq α] {xs ys : List α} {k : Nat} {x y : α} (hx : xs[k]? = some x) (hy : ys[k]? = some y) (h : x ≠ y) : decide (xs = ys) = false :=
  decide_eq_false (fun e => h (by rw [e, hy] at hx; injection hx with hx; exact hx.symm))
end Go.Proofs.YtgiplahhalgbdaaGreat
