/-
  The package vec, function by function: squares, distances, products. Conditions: the slices read as lists of int32s.
-/
import Derived.Test.YtlnbeeflifmnjacChecked
import Derived.Test.YtlnbeeflifmnjacVecP
import Derived.Test.YtlnbeeflifmnjacLib2
import Derived.Laws.Externs
import Derived.IntWalk
namespace Go.Proofs.Ytlnbeeflifmnjac
open Go.RowKit

abbrev I32s (w : World) (B : Nat) (A : Option Addr) (xs : List Int) : Prop := Rd (Sh.int .i32) w B A xs

theorem mul_bound {x y : Int} (hx : -2147483648 ≤ x ∧ x ≤ 2147483647) (hy : -2147483648 ≤ y ∧ y ≤ 2147483647) : -4611686018427387904 ≤ x * y ∧ x * y ≤ 4611686018427387904 := by
  have a := Int.mul_nonneg (show 0 ≤ 2147483648 - x by omega) (show 0 ≤ 2147483648 + y by omega)
  have b := Int.mul_nonneg (show 0 ≤ 2147483648 + x by omega) (show 0 ≤ 2147483648 - y by omega)
  have c := Int.mul_nonneg (show 0 ≤ 2147483648 - x by omega) (show 0 ≤ 2147483648 - y by omega)
  have d := Int.mul_nonneg (show 0 ≤ 2147483648 + x by omega) (show 0 ≤ 2147483648 + y by omega)
  simp only [Int.sub_mul, Int.add_mul, Int.mul_sub, Int.mul_add] at a b c d
  omega
theorem wrap_mul {x y : Int} (hx : -2147483648 ≤ x ∧ x ≤ 2147483647) (hy : -2147483648 ≤ y ∧ y ≤ 2147483647) : wrap64 (x * y) = x * y := by
  have := mul_bound hx hy
  rw [wrap64_i64]
  exact IntWalk.i64_in (x * y) (by omega)
theorem sq_wrap {x y : Int} (h : sq x y < 18446744073709551616) : IntKind.u64.wrap (IntKind.u64.wrap (x - y) * IntKind.u64.wrap (x - y)) = sq x y := by
  have hn := sq_nonneg x y
  unfold sq at *
  rw [IntKind.wrap_u64, IntKind.wrap_u64, ← Int.mul_emod, Int.emod_eq_of_lt hn h]
end Go.Proofs.Ytlnbeeflifmnjac
