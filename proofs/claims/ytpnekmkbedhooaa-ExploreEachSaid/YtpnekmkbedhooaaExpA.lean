/-
  The package explore, function by function: numbers that are held at the greatest.
-/
import Derived.Test.YtpnekmkbedhooaaChecked
import Derived.Test.YtpnekmkbedhooaaExpP
import Derived.Test.YtpnekmkbedhooaaVecA
import Derived.Shelf.Bits.Mul64
namespace Go.Proofs.Ytpnekmkbedhooaa
open Go.RowKit

/-- held at the greatest number -/
def hN (n : Nat) : Nat := min n 18446744073709551615
theorem hN_lt (n : Nat) : hN n < 18446744073709551616 := by unfold hN; omega
theorem hN_small {n : Nat} (h : n < 18446744073709551616) : hN n = n := by unfold hN; omega
theorem hN_great {n : Nat} (h : 18446744073709551615 ≤ n) : hN n = 18446744073709551615 := by unfold hN; omega
theorem hN_add (a b : Nat) : hN (hN a + hN b) = hN (a + b) := by unfold hN; omega
theorem hN_add_left (a b : Nat) : hN (hN a + b) = hN (a + b) := by unfold hN; omega
theorem hN_mul {a b : Nat} (ha : 0 < a) (hb : 0 < b) : hN (hN a * hN b) = hN (a * b) := by
  rcases Nat.lt_or_ge a 18446744073709551616 with h | h
  · rw [hN_small h]
    rcases Nat.lt_or_ge b 18446744073709551616 with k | k
    · rw [hN_small k]
    · have h1 := Nat.le_mul_of_pos_left b ha
      have h2 := Nat.le_mul_of_pos_left 18446744073709551615 ha
      rw [hN_great (n := b) (by omega), hN_great (by omega), hN_great (by omega)]
  · have h1 := Nat.le_mul_of_pos_right a hb
    have hp : 0 < hN b := by unfold hN; omega
    have h2 := Nat.le_mul_of_pos_right 18446744073709551615 hp
    rw [hN_great (n := a) (by omega), hN_great (by omega), hN_great (by omega)]

set_option maxHeartbeats 1000000 in
theorem mul64_any (x y : Nat) (hx : x < 18446744073709551616) (hy : y < 18446744073709551616) (w : World) :
    Calls Try.prog 31 #[.int .u64 x, .int .u64 y] w fun e w' => e = .returned (.tuple #[.int .u64 ((x * y / 18446744073709551616 : Nat) : Int), .int .u64 ((x * y % 18446744073709551616 : Nat) : Int)]) ∧ w = w' := by
  obtain ⟨bd, bt, bw, hhi⟩ := Lib.mul64_hi x y hx hy
  have ba := Lib.half_mul_le (a := x / 4294967296) (b := y / 4294967296) (by omega) (by omega)
  have bb := Lib.half_mul_le (a := x / 4294967296) (b := y % 4294967296) (by omega) (by omega)
  have bc := Lib.half_mul_le (a := x % 4294967296) (b := y / 4294967296) (by omega) (by omega)
  have ba' : x / 4294967296 * (y / 4294967296) < 18446744073709551616 := by omega
  have bb' : x / 4294967296 * (y % 4294967296) < 18446744073709551616 := by omega
  have bc' : x % 4294967296 * (y / 4294967296) < 18446744073709551616 := by omega
  have bh1 : x / 4294967296 * (y / 4294967296) + (x / 4294967296 * (y % 4294967296) + x % 4294967296 * (y % 4294967296) / 4294967296) / 4294967296 < 18446744073709551616 := by omega
  have bh : x / 4294967296 * (y / 4294967296) + (x / 4294967296 * (y % 4294967296) + x % 4294967296 * (y % 4294967296) / 4294967296) / 4294967296 + ((x / 4294967296 * (y % 4294967296) + x % 4294967296 * (y % 4294967296) / 4294967296) % 4294967296 + x % 4294967296 * (y / 4294967296)) / 4294967296 < 18446744073709551616 := by omega
  go_enter Try.func31, Try.ntmps31
  go_wp2
  simp only [Mul64.maskN x hx, Mul64.maskN y hy, Mul64.divN, Mul64.mulN, Mul64.addN, Mul64.wrapN _ bd, Mul64.wrapN _ bb', Mul64.wrapN _ bt, Mul64.maskN _ bt, Mul64.wrapN _ bc', Mul64.wrapN _ bw, Mul64.wrapN _ ba', Mul64.wrapN _ bh1, Mul64.wrapN _ bh, Mul64.wrapM (x * y)]
  rw [hhi]
  go_ret2
  exact ⟨rfl, rfl⟩

set_option maxHeartbeats 1000000 in
theorem sum_any (a b : Nat) (w : World) (ha : a < 18446744073709551616) (hb : b < 18446744073709551616) :
    Calls Try.prog 19 #[.int .u64 a, .int .u64 b] w fun e w' => e = .returned (.int .u64 (hN (a + b) : Nat)) ∧ w = w' := by
  by_cases ho : a + b < 18446744073709551616
  · have hadd := run_add64_small (x := a) (y := b) (by omega) (by omega) (by omega)
    have HS := hide (show hN (a + b) = a + b from hN_small ho)
    go_enter Try.func19, Try.ntmps19
    go_wp2
    go_ret
    exact ⟨by rw [HS.out]; rfl, rfl⟩
  · have hadd := run_add64_great (x := a) (y := b) (by omega) (by omega) (by omega) (by omega) (by omega)
    have HS := hide (show hN (a + b) = 18446744073709551615 from hN_great (by omega))
    go_enter Try.func19, Try.ntmps19
    go_wp2
    go_ret
    exact ⟨by rw [HS.out]; rfl, rfl⟩

set_option maxHeartbeats 1000000 in
theorem product_any (a b : Nat) (w : World) (ha : a < 18446744073709551616) (hb : b < 18446744073709551616) :
    Calls Try.prog 26 #[.int .u64 a, .int .u64 b] w fun e w' => e = .returned (.int .u64 (hN (a * b) : Nat)) ∧ w = w' := by
  have cm := fun W => mul64_any a b ha hb W
  by_cases ho : a * b < 18446744073709551616
  · have HS := hide (show hN (a * b) = a * b from hN_small ho)
    have H0 := hide (show a * b / 18446744073709551616 = 0 by omega)
    have H1 := hide (show a * b % 18446744073709551616 = a * b by omega)
    clear ho
    go_enter Try.func26, Try.ntmps26
    go_wp2_with (go_at_call 31; refine (cm _).mono ?_; rintro e w' ⟨rfl, rfl⟩; rw [H0.out, H1.out])
    go_ret
    exact ⟨by rw [HS.out, Int.natCast_mul]; rfl, rfl⟩
  · have HS := hide (show hN (a * b) = 18446744073709551615 from hN_great (by omega))
    have hp : decide ((0 : Int) < (a : Int) * (b : Int) / 18446744073709551616) = true := by
      rw [← Int.natCast_mul]; simp only [decide_eq_true_eq]; omega
    clear ho
    go_enter Try.func26, Try.ntmps26
    go_wp2_with (go_at_call 31; refine (cm _).mono ?_; rintro e w' ⟨rfl, rfl⟩)
    all_goals go_ret
    exact ⟨by rw [HS.out]; rfl, rfl⟩

set_option maxHeartbeats 1000000 in
theorem radd_any (a b : Nat) (w : World) (ha : a < 18446744073709551616) (hb : b < 18446744073709551616) :
    Calls Try.prog 24 #[.int .u64 a, .int .u64 b] w fun e w' => e = .returned (.int .u64 (hN (a + b) : Nat)) ∧ w = w' := by
  have hs : IntKind.u64.wrap (18446744073709551615 - (b : Int)) = 18446744073709551615 - b := by rw [IntKind.wrap_u64]; omega
  by_cases ho : a + b < 18446744073709551616
  · have HS := hide (show hN (a + b) = a + b from hN_small ho)
    have hw : IntKind.u64.wrap ((a : Int) + b) = ((a + b : Nat) : Int) := by rw [IntKind.wrap_u64]; omega
    have hd : decide (18446744073709551615 - (b : Int) < a) = false := by simp; omega
    clear ho
    go_enter Try.func24, Try.ntmps24
    go_wp2
    all_goals go_ret
    all_goals exact ⟨by rw [HS.out, Int.natCast_add]; rfl, rfl⟩
  · have HS := hide (show hN (a + b) = 18446744073709551615 from hN_great (by omega))
    have hd : decide (18446744073709551615 - (b : Int) < a) = true := by simp; omega
    clear ho
    go_enter Try.func24, Try.ntmps24
    go_wp2
    all_goals go_ret
    all_goals exact ⟨by rw [HS.out]; rfl, rfl⟩

set_option maxHeartbeats 1000000 in
theorem times_any (a b : Nat) (w : World) (ha : a < 18446744073709551616) (hb : b < 18446744073709551616) :
    Calls Try.prog 28 #[.int .u64 a, .int .u64 b] w fun e w' => e = .returned (.int .u64 (hN (a * b) : Nat)) ∧ w = w' := by
  rcases Nat.eq_zero_or_pos b with rfl | hb0
  · have HS := hide (show hN (a * 0) = 0 from hN_small (by simp))
    have hw : IntKind.u64.wrap (0 : Int) = 0 := by rw [IntKind.wrap_u64]; rfl
    go_enter Try.func28, Try.ntmps28
    go_wp2
    all_goals go_ret
    all_goals exact ⟨by rw [HS.out]; rfl, rfl⟩
  · have hb1 : decide ((0 : Int) < (b : Int)) = true := by simpa using hb0
    have hq : IntKind.u64.wrap ((18446744073709551615 : Int) / (b : Int)) = 18446744073709551615 / b := by
      rw [IntKind.wrap_u64]
      have := Int.ediv_nonneg (show (0 : Int) ≤ 18446744073709551615 by omega) (show (0 : Int) ≤ b by omega)
      have := Int.ediv_le_self (a := 18446744073709551615) (b : Int) (by omega)
      omega
    have hz : ¬ ((b : Int) = 0) := by omega
    have key : 18446744073709551615 / (b : Int) < a ↔ ¬ a * b < 18446744073709551616 := by
      rw [Int.ediv_lt_iff_lt_mul (by omega), ← Int.natCast_mul]
      omega
    by_cases ho : a * b < 18446744073709551616
    · have HS := hide (show hN (a * b) = a * b from hN_small ho)
      have hd : decide (18446744073709551615 / (b : Int) < a) = false := by simp only [decide_eq_false_iff_not]; omega
      have hw : IntKind.u64.wrap ((a : Int) * b) = (a : Int) * b := by rw [IntKind.wrap_u64, ← Int.natCast_mul]; omega
      clear ho key
      go_enter Try.func28, Try.ntmps28
      go_wp2
      all_goals go_ret
      all_goals exact ⟨by rw [HS.out, Int.natCast_mul]; rfl, rfl⟩
    · have HS := hide (show hN (a * b) = 18446744073709551615 from hN_great (by omega))
      have hd : decide (18446744073709551615 / (b : Int) < a) = true := by simp only [decide_eq_true_eq]; omega
      clear ho key
      go_enter Try.func28, Try.ntmps28
      go_wp2
      all_goals go_ret
      all_goals exact ⟨by rw [HS.out]; rfl, rfl⟩
end Go.Proofs.Ytpnekmkbedhooaa
