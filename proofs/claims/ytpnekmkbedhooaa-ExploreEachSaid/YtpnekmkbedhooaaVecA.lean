/-
  The package vec, function by function: squares, distances, products. Conditions: the slices read as lists of int32s.
-/
import Derived.Test.YtpnekmkbedhooaaChecked
import Derived.Test.YtpnekmkbedhooaaVecP
import Derived.Test.YtpnekmkbedhooaaLib2
import Derived.Laws.Externs
import Derived.IntWalk
namespace Go.Proofs.Ytpnekmkbedhooaa
open Go.RowKit

abbrev I32s (w : World) (B : Nat) (A : Option Addr) (xs : List Int) : Prop := Rd (Sh.int .i32) w B A xs

theorem run_add64_small {x y : Int} (hx : 0 ≤ x) (hy : 0 ≤ y) (h : x + y < 18446744073709551616) (w : World) :
    (callFunc 27 #[.int .u64 x, .int .u64 y, .int .u64 0]).run Try.prog w = .ok (.value (.tuple #[.int .u64 (x + y), .int .u64 0])) w := by
  rw [run_callFunc_extern Try.func27 (by kernel_rfl) (by kernel_rfl) (by kernel_rfl) (e := add64Entry) (by kernel_rfl), run_add64 x y 0 hx hy (by omega) (by omega)]
  simp only [Result.andThen]
  rw [show (x + y + 0) % 18446744073709551616 = x + y by omega, show (x + y + 0) / 18446744073709551616 = 0 by omega]
theorem run_add64_great {x y : Int} (hx : 0 ≤ x) (hy : 0 ≤ y) (hx1 : x < 18446744073709551616) (hy1 : y < 18446744073709551616) (h : 18446744073709551616 ≤ x + y) (w : World) :
    (callFunc 27 #[.int .u64 x, .int .u64 y, .int .u64 0]).run Try.prog w = .ok (.value (.tuple #[.int .u64 (x + y - 18446744073709551616), .int .u64 1])) w := by
  rw [run_callFunc_extern Try.func27 (by kernel_rfl) (by kernel_rfl) (by kernel_rfl) (e := add64Entry) (by kernel_rfl), run_add64 x y 0 hx hy (by omega) (by omega)]
  simp only [Result.andThen]
  rw [show (x + y + 0) % 18446744073709551616 = x + y - 18446744073709551616 by omega, show (x + y + 0) / 18446744073709551616 = 1 by omega]

theorem mul_bound {x y : Int} (hx : -2147483648 ≤ x ∧ x ≤ 2147483647) (hy : -2147483648 ≤ y ∧ y ≤ 2147483647) : -4611686018427387904 ≤ x * y ∧ x * y ≤ 4611686018427387904 := by
  have a := Int.mul_nonneg (show 0 ≤ 2147483648 - x by omega) (show 0 ≤ 2147483648 + y by omega)
  have b := Int.mul_nonneg (show 0 ≤ 2147483648 + x by omega) (show 0 ≤ 2147483648 - y by omega)
  have c := Int.mul_nonneg (show 0 ≤ 2147483648 - x by omega) (show 0 ≤ 2147483648 - y by omega)
  have d := Int.mul_nonneg (show 0 ≤ 2147483648 + x by omega) (show 0 ≤ 2147483648 + y by omega)
  simp only [Int.sub_mul, Int.add_mul, Int.mul_sub, Int.mul_add] at a b c d
  omega
theorem wrap_mul {x y : Int} (hx : -2147483648 ≤ x ∧ x ≤ 2147483647) (hy : -2147483648 ≤ y ∧ y ≤ 2147483647) : wrap64 (x * y) = x * y := by
  have := mul_bound hx hy
  rw [wrap64_i64]
  exact IntWalk.i64_in (x * y) (by omega)
theorem sq_wrap {x y : Int} (h : sq x y < 18446744073709551616) : IntKind.u64.wrap (IntKind.u64.wrap (x - y) * IntKind.u64.wrap (x - y)) = sq x y := by
  have hn := sq_nonneg x y
  unfold sq at *
  rw [IntKind.wrap_u64, IntKind.wrap_u64, ← Int.mul_emod, Int.emod_eq_of_lt hn h]
end Go.Proofs.Ytpnekmkbedhooaa
