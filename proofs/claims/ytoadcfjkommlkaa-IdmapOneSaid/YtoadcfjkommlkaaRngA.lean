/-
  The packages rng and the document's: Mix, Below. Conditions: the numbers are unsigned ones of 64 bits.
-/
import Derived.Test.YtoadcfjkommlkaaLib2
import Derived.Test.YtoadcfjkommlkaaIdmM
import Derived.Shelf.Bits.Mul64
import Derived.Laws.Closers25b
namespace Go.Proofs.Ytoadcfjkommlkaa
open Go.RowKit

/-- a step of the mixing -/
def mixS (z m d : Int) : Int := IntKind.u64.wrap (bits .xor .u64 z (z / d) * m)
/-- what is mixed -/
def mixF (x : Int) : Int :=
  bits .xor .u64 (mixS (mixS (IntKind.u64.wrap (x + 11400714819323198485)) 13787848793156543929 1073741824) 10723151780598845931 134217728) (mixS (mixS (IntKind.u64.wrap (x + 11400714819323198485)) 13787848793156543929 1073741824) 10723151780598845931 134217728 / 2147483648)
theorem mixF_range (x : Int) : 0 ≤ mixF x ∧ mixF x < 18446744073709551616 := by
  have h1 := bits_lo_u64 .xor (mixS (mixS (IntKind.u64.wrap (x + 11400714819323198485)) 13787848793156543929 1073741824) 10723151780598845931 134217728) (mixS (mixS (IntKind.u64.wrap (x + 11400714819323198485)) 13787848793156543929 1073741824) 10723151780598845931 134217728 / 2147483648)
  have h2 := bits_hi_u64 .xor (mixS (mixS (IntKind.u64.wrap (x + 11400714819323198485)) 13787848793156543929 1073741824) 10723151780598845931 134217728) (mixS (mixS (IntKind.u64.wrap (x + 11400714819323198485)) 13787848793156543929 1073741824) 10723151780598845931 134217728 / 2147483648)
  unfold mixF
  omega
theorem quo_wrap (y : Int) (d : Nat) (hd : 0 < d) : IntKind.u64.wrap ((IntKind.u64.wrap y).tdiv (d : Int)) = IntKind.u64.wrap y / (d : Int) := by
  have h : IntKind.u64.wrap y = y % 18446744073709551616 := by rw [IntKind.wrap_u64]
  have h0 : 0 ≤ IntKind.u64.wrap y := by omega
  have h1 : IntKind.u64.wrap y < 18446744073709551616 := by omega
  generalize IntKind.u64.wrap y = z at *
  rw [Int.tdiv_eq_ediv_of_nonneg h0, IntKind.wrap_u64]
  have a : 0 ≤ z / (d : Int) := Int.ediv_nonneg h0 (by omega)
  have b : z / (d : Int) ≤ z := Int.ediv_le_self _ h0
  omega
theorem quo1 (y : Int) : IntKind.u64.wrap ((IntKind.u64.wrap y).tdiv 1073741824) = IntKind.u64.wrap y / 1073741824 := quo_wrap y 1073741824 (by omega)
theorem quo2 (y : Int) : IntKind.u64.wrap ((IntKind.u64.wrap y).tdiv 134217728) = IntKind.u64.wrap y / 134217728 := quo_wrap y 134217728 (by omega)
theorem quo3 (y : Int) : IntKind.u64.wrap ((IntKind.u64.wrap y).tdiv 2147483648) = IntKind.u64.wrap y / 2147483648 := quo_wrap y 2147483648 (by omega)
set_option maxHeartbeats 1000000 in
theorem mix_any (x : Int) (w : World) : Calls Try.prog 23 #[.int .u64 x] w fun e w' => e = .returned (.int .u64 (mixF x)) ∧ w = w' := by
  go_enter Try.func23, Try.ntmps23
  go_wp2
  go_ret
  exact ⟨rfl, rfl⟩
set_option maxHeartbeats 1000000 in
theorem refMix_any (x : Int) (w : World) : Calls Try.prog 25 #[.int .u64 x] w fun e w' => e = .returned (.int .u64 (mixF x)) ∧ w = w' := by
  go_enter Try.func25, Try.ntmps25
  go_wp2
  simp only [quo1, quo2, quo3]
  go_ret
  exact ⟨rfl, rfl⟩
theorem below_mul (x y : Nat) (hx : x < 18446744073709551616) (hy : y < 18446744073709551616) (w : World) : Calls Try.prog 29 #[.int .u64 x, .int .u64 y] w fun e w' => e = .returned (.tuple #[.int .u64 ((x * y / 18446744073709551616 : Nat) : Int), .int .u64 ((x * y % 18446744073709551616 : Nat) : Int)]) ∧ w' = w :=
  Go.Proofs.Any.bits_Mul64 mul64 x y hx hy w
set_option maxHeartbeats 1000000 in
theorem below_any (x y : Nat) (hx : x < 18446744073709551616) (hy : y < 18446744073709551616) (w : World) : Calls Try.prog 22 #[.int .u64 x, .int .u64 y] w fun e w' => e = .returned (.int .u64 ((x * y / 18446744073709551616 : Nat) : Int)) ∧ w = w' := by
  have HC := hide (below_mul x y hx hy w)
  go_enter Try.func22, Try.ntmps22
  go_wp2_with (go_at_call 29; refine HC.out.mono ?_; rintro e _ ⟨rfl, rfl⟩)
  go_ret
  exact ⟨rfl, rfl⟩
theorem remN (a : Nat) : (a : Int).tmod 4294967296 = ((a % 4294967296 : Nat) : Int) := by
  rw [Int.tmod_eq_emod_of_nonneg (by omega)]; omega
theorem modN (a : Nat) : (a : Int) % 4294967296 = ((a % 4294967296 : Nat) : Int) := by omega
open Go.Proofs.Mul64 in
set_option maxHeartbeats 2000000 in
theorem refBelow_any (x y : Nat) (hx : x < 18446744073709551616) (hy : y < 18446744073709551616) (w : World) : Calls Try.prog 24 #[.int .u64 x, .int .u64 y] w fun e w' => e = .returned (.int .u64 ((x * y / 18446744073709551616 : Nat) : Int)) ∧ w = w' := by
  obtain ⟨bd, bt, bw, hhi⟩ := Go.Lib.mul64_hi x y hx hy
  have ba := Go.Lib.half_mul_le (a := x / 4294967296) (b := y / 4294967296) (by omega) (by omega)
  have bb := Go.Lib.half_mul_le (a := x / 4294967296) (b := y % 4294967296) (by omega) (by omega)
  have bc := Go.Lib.half_mul_le (a := x % 4294967296) (b := y / 4294967296) (by omega) (by omega)
  have ba' : x / 4294967296 * (y / 4294967296) < 18446744073709551616 := by omega
  have bb' : x / 4294967296 * (y % 4294967296) < 18446744073709551616 := by omega
  have bc' : x % 4294967296 * (y / 4294967296) < 18446744073709551616 := by omega
  have bh1 : x / 4294967296 * (y / 4294967296) + (x / 4294967296 * (y % 4294967296) + x % 4294967296 * (y % 4294967296) / 4294967296) / 4294967296 < 18446744073709551616 := by omega
  have bh : x / 4294967296 * (y / 4294967296) + (x / 4294967296 * (y % 4294967296) + x % 4294967296 * (y % 4294967296) / 4294967296) / 4294967296 + ((x / 4294967296 * (y % 4294967296) + x % 4294967296 * (y % 4294967296) / 4294967296) % 4294967296 + x % 4294967296 * (y / 4294967296)) / 4294967296 < 18446744073709551616 := by
    have : x * y / 18446744073709551616 < 18446744073709551616 := by
      refine Nat.div_lt_of_lt_mul ?_
      exact Nat.mul_lt_mul'' hx hy
    omega
  go_enter Try.func24, Try.ntmps24
  go_wp2
  simp only [remN, modN, divN, mulN, addN, wrapN _ (Nat.lt_of_lt_of_le (Nat.mod_lt x (by omega : 0 < 4294967296)) (by omega)), wrapN _ (Nat.lt_of_lt_of_le (Nat.mod_lt y (by omega : 0 < 4294967296)) (by omega)), wrapN _ bd, wrapN _ bb', wrapN _ bt, wrapN _ bc', wrapN _ bw, wrapN _ ba', wrapN _ bh1, wrapN _ bh]
  rw [hhi]
  go_ret
  exact ⟨rfl, rfl⟩
end Go.Proofs.Ytoadcfjkommlkaa
