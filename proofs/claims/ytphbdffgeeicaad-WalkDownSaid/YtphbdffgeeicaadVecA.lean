/-
  The package vec, function by function: squares, distances, products. Conditions: the slices read as lists of int32s.
-/
import Derived.Test.YtphbdffgeeicaadChecked
import Derived.Test.YtphbdffgeeicaadVecP
import Derived.Test.YtphbdffgeeicaadLib2
import Derived.Laws.Externs
import Derived.IntWalk
namespace Go.Proofs.Ytphbdffgeeicaad
open Go.RowKit

abbrev I32s (w : World) (B : Nat) (A : Option Addr) (xs : List Int) : Prop := Rd (Sh.int .i32) w B A xs

theorem run_add64_small {x y : Int} (hx : 0 ≤ x) (hy : 0 ≤ y) (h : x + y < 18446744073709551616) (w : World) :
    (callFunc 27 #[.int .u64 x, .int .u64 y, .int .u64 0]).run Try.prog w = .ok (.value (.tuple #[.int .u64 (x + y), .int .u64 0])) w := by
  rw [run_callFunc_extern Try.func27 (by kernel_rfl) (by kernel_rfl) (by kernel_rfl) (e := add64Entry) (by kernel_rfl), run_add64 x y 0 hx hy (by omega) (by omega)]
  simp only [Result.andThen]
  rw [show (x + y + 0) % 18446744073709551616 = x + y by omega, show (x + y + 0) / 18446744073709551616 = 0 by omega]
theorem run_add64_great {x y : Int} (hx : 0 ≤ x) (hy : 0 ≤ y) (hx1 : x < 18446744073709551616) (hy1 : y < 18446744073709551616) (h : 18446744073709551616 ≤ x + y) (w : World) :
    (callFunc 27 #[.int .u64 x, .int .u64 y, .int .u64 0]).run Try.prog w = .ok (.value (.tuple #[.int .u64 (x + y - 18446744073709551616), .int .u64 1])) w := by
  rw [run_callFunc_extern Try.func27 (by kernel_rfl) (by kernel_rfl) (by kernel_rfl) (e := add64Entry) (by kernel_rfl), run_add64 x y 0 hx hy (by omega) (by omega)]
  simp only [Result.andThen]
  rw [show (x + y + 0) % 18446744073709551616 = x + y - 18446744073709551616 by omega, show (x + y + 0) / 18446744073709551616 = 1 by omega]

theorem mul_bound {x y : Int} (hx : -2147483648 ≤ x ∧ x ≤ 2147483647) (hy : -2147483648 ≤ y ∧ y ≤ 2147483647) : -4611686018427387904 ≤ x * y ∧ x * y ≤ 4611686018427387904 := by
  have a := Int.mul_nonneg (show 0 ≤ 2147483648 - x by omega) (show 0 ≤ 2147483648 + y by omega)
  have b := Int.mul_nonneg (show 0 ≤ 2147483648 + x by omega) (show 0 ≤ 2147483648 - y by omega)
  have c := Int.mul_nonneg (show 0 ≤ 2147483648 - x by omega) (show 0 ≤ 2147483648 - y by omega)
  have d := Int.mul_nonneg (show 0 ≤ 2147483648 + x by omega) (show 0 ≤ 2147483648 + y by omega)
  simp only [Int.sub_mul, Int.add_mul, Int.mul_sub, Int.mul_add] at a b c d
  omega
theorem wrap_mul {x y : Int} (hx : -2147483648 ≤ x ∧ x ≤ 2147483647) (hy : -2147483648 ≤ y ∧ y ≤ 2147483647) : wrap64 (x * y) = x * y := by
  have := mul_bound hx hy
  rw [wrap64_i64]
  exact IntWalk.i64_in (x * y) (by omega)
theorem sq_wrap {x y : Int} (h : sq x y < 18446744073709551616) : IntKind.u64.wrap (IntKind.u64.wrap (x - y) * IntKind.u64.wrap (x - y)) = sq x y := by
  have hn := sq_nonneg x y
  unfold sq at *
  rw [IntKind.wrap_u64, IntKind.wrap_u64, ← Int.mul_emod, Int.emod_eq_of_lt hn h]
set_option maxHeartbeats 1000000 in
theorem square_any (x y : Int) (w : World) (hx : -2147483648 ≤ x ∧ x ≤ 2147483647) (hy : -2147483648 ≤ y ∧ y ≤ 2147483647) :
    Calls Try.prog 28 #[.int .i32 x, .int .i32 y] w fun e w' => e = .returned (.int .u64 (sq x y)) ∧ w = w' := by
  obtain ⟨h1, h2⟩ := hx
  obtain ⟨h3, h4⟩ := hy
  have HW := hide (sq_wrap (sq_lt ⟨h1, h2⟩ ⟨h3, h4⟩))
  go_enter Try.func28, Try.ntmps28
  go_wp2
  go_ret
  refine ⟨?_, rfl⟩
  rw [← HW.out]
  rfl

set_option maxHeartbeats 2000000 in
theorem dist_core (args : Array Value) (A B : Option Addr) (n c m d : Nat) (xs ys : List Int) (w : World) (hx : I32s w w.heap.size A xs) (hn : xs.length = n) (hxi : I32 xs) (hc : n ≤ c) (hm : c ≤ 9223372036854775807)
    (hy : I32s w w.heap.size B ys) (hn' : ys.length = m) (hyi : I32 ys)
    (ha : args = #[.slice A n c, .slice B m d] ∧ m ≤ n ∨ args = #[.slice B m d, .slice A n c] ∧ m < n) :
    Calls Try.prog 20 args w fun e w' => e = .returned (.int .u64 (distOf xs ys)) ∧ w = w' := by
  have Hn := hide hn
  have Hm := hide hn'
  clear hn hn'
  have HX := hide hxi
  have HY := hide hyi
  clear hxi hyi
  have hmn : m ≤ n := by omega
  have HE := hide (show distOf xs ys = held (sqTo xs ys n) by unfold distOf; rw [Hn.out, Hm.out, Nat.max_eq_left hmn])
  rcases ha with ⟨rfl, hle⟩ | ⟨rfl, hle⟩
  · have hdec : decide (n < m) = false := decide_eq_false (by omega)
    skip
    go_enter Try.func20, Try.ntmps20
    go_wp2
    go_loopw [5, 19] (fun s i wr => ∃ k : Nat, k ≤ n ∧ i = .int .i64 k ∧ s = .int .u64 (sqTo xs ys k) ∧ sqTo xs ys k < 18446744073709551616 ∧ w = wr) (fun _ i _ => n - (intOf i).toNat)
    case atStart => exact ⟨0, by omega, rfl, rfl, by simp [sqTo], by first | rfl | trivial⟩
    case round =>
      obtain ⟨k, hk, rfl, rfl, hs, rfl⟩ := hrel
      have hs0 := sqTo_nonneg xs ys k
      by_cases hlt : k < n
      · obtain ⟨ad, x, rfl, _, hx1, c1⟩ := hx.icell (k := k) (by have := Hn.out; omega)
        have bx := cmpAt_le HX.out k
        have ex := cmpAt_of hx1
        have bq := sq_nonneg (cmpAt xs k) (cmpAt ys k)
        have bl := sq_lt bx (cmpAt_le HY.out k)
        have by_ := cmpAt_le HY.out k
        have HS := hide (show sqTo xs ys (k + 1) = sqTo xs ys k + sq (cmpAt xs k) (cmpAt ys k) from rfl)
        have HG := hide (sqTo_mono xs ys (show k + 1 ≤ n by omega))
        rw [ex] at bq bl HS bx
        clear ex hx1
        by_cases hkm : k < m
        · obtain ⟨ad2, y, rfl, _, hy1, c2⟩ := hy.icell (k := k) (by have := Hm.out; omega)
          have ey := cmpAt_of hy1
          rw [ey] at bq bl HS by_
          clear ey hy1 hx hy
          have HB := hide bx
          have HBY := hide by_
          by_cases ho : sqTo xs ys k + sq x y < 18446744073709551616
          · have hadd := run_add64_small hs0 bq ho
            go_wp2_with (first | (go_at_call 28; refine (square_any x y _ HB.out HBY.out).mono ?_; rintro e w' ⟨rfl, rfl⟩))
            go_roundw
            case rel => exact ⟨k + 1, by omega, by go_num, by rw [HS.out], by rw [HS.out]; exact ho, by first | rfl | trivial⟩
            case measure => simp [intOf]; omega
          · have hadd := run_add64_great hs0 bq hs bl (by omega)
            go_wp2_with (first | (go_at_call 28; refine (square_any x y _ HB.out HBY.out).mono ?_; rintro e w' ⟨rfl, rfl⟩))
            go_ret
            exact ⟨by rw [HE.out, held_great (by have := HS.out; have := HG.out; omega)]; rfl, rfl⟩
        · have ey := cmpAt_out (xs := ys) (i := k) (by have := Hm.out; omega)
          rw [ey] at bq bl HS by_
          clear ey hx hy
          have HB := hide bx
          have HBY := hide by_
          by_cases ho : sqTo xs ys k + sq x 0 < 18446744073709551616
          · have hadd := run_add64_small hs0 bq ho
            go_wp2_with (first | (go_at_call 28; refine (square_any x 0 _ HB.out HBY.out).mono ?_; rintro e w' ⟨rfl, rfl⟩))
            go_roundw
            case rel => exact ⟨k + 1, by omega, by go_num, by rw [HS.out], by rw [HS.out]; exact ho, by first | rfl | trivial⟩
            case measure => simp [intOf]; omega
          · have hadd := run_add64_great hs0 bq hs bl (by omega)
            go_wp2_with (first | (go_at_call 28; refine (square_any x 0 _ HB.out HBY.out).mono ?_; rintro e w' ⟨rfl, rfl⟩))
            go_ret
            exact ⟨by rw [HE.out, held_great (by have := HS.out; have := HG.out; omega)]; rfl, rfl⟩
      · obtain rfl : k = n := by omega
        clear hx hy
        have HF := hide (held_small hs)
        go_wp2
        go_ret
        exact ⟨by rw [HE.out, HF.out]; rfl, rfl⟩
  · have hdec : decide (m < n) = true := decide_eq_true hle
    skip
    go_enter Try.func20, Try.ntmps20
    go_wp2
    go_loopw [5, 19] (fun s i wr => ∃ k : Nat, k ≤ n ∧ i = .int .i64 k ∧ s = .int .u64 (sqTo xs ys k) ∧ sqTo xs ys k < 18446744073709551616 ∧ w = wr) (fun _ i _ => n - (intOf i).toNat)
    case atStart => exact ⟨0, by omega, rfl, rfl, by simp [sqTo], by first | rfl | trivial⟩
    case round =>
      obtain ⟨k, hk, rfl, rfl, hs, rfl⟩ := hrel
      have hs0 := sqTo_nonneg xs ys k
      by_cases hlt : k < n
      · obtain ⟨ad, x, rfl, _, hx1, c1⟩ := hx.icell (k := k) (by have := Hn.out; omega)
        have bx := cmpAt_le HX.out k
        have ex := cmpAt_of hx1
        have bq := sq_nonneg (cmpAt xs k) (cmpAt ys k)
        have bl := sq_lt bx (cmpAt_le HY.out k)
        have by_ := cmpAt_le HY.out k
        have HS := hide (show sqTo xs ys (k + 1) = sqTo xs ys k + sq (cmpAt xs k) (cmpAt ys k) from rfl)
        have HG := hide (sqTo_mono xs ys (show k + 1 ≤ n by omega))
        rw [ex] at bq bl HS bx
        clear ex hx1
        by_cases hkm : k < m
        · obtain ⟨ad2, y, rfl, _, hy1, c2⟩ := hy.icell (k := k) (by have := Hm.out; omega)
          have ey := cmpAt_of hy1
          rw [ey] at bq bl HS by_
          clear ey hy1 hx hy
          have HB := hide bx
          have HBY := hide by_
          by_cases ho : sqTo xs ys k + sq x y < 18446744073709551616
          · have hadd := run_add64_small hs0 bq ho
            go_wp2_with (first | (go_at_call 28; refine (square_any x y _ HB.out HBY.out).mono ?_; rintro e w' ⟨rfl, rfl⟩))
            go_roundw
            case rel => exact ⟨k + 1, by omega, by go_num, by rw [HS.out], by rw [HS.out]; exact ho, by first | rfl | trivial⟩
            case measure => simp [intOf]; omega
          · have hadd := run_add64_great hs0 bq hs bl (by omega)
            go_wp2_with (first | (go_at_call 28; refine (square_any x y _ HB.out HBY.out).mono ?_; rintro e w' ⟨rfl, rfl⟩))
            go_ret
            exact ⟨by rw [HE.out, held_great (by have := HS.out; have := HG.out; omega)]; rfl, rfl⟩
        · have ey := cmpAt_out (xs := ys) (i := k) (by have := Hm.out; omega)
          rw [ey] at bq bl HS by_
          clear ey hx hy
          have HB := hide bx
          have HBY := hide by_
          by_cases ho : sqTo xs ys k + sq x 0 < 18446744073709551616
          · have hadd := run_add64_small hs0 bq ho
            go_wp2_with (first | (go_at_call 28; refine (square_any x 0 _ HB.out HBY.out).mono ?_; rintro e w' ⟨rfl, rfl⟩))
            go_roundw
            case rel => exact ⟨k + 1, by omega, by go_num, by rw [HS.out], by rw [HS.out]; exact ho, by first | rfl | trivial⟩
            case measure => simp [intOf]; omega
          · have hadd := run_add64_great hs0 bq hs bl (by omega)
            go_wp2_with (first | (go_at_call 28; refine (square_any x 0 _ HB.out HBY.out).mono ?_; rintro e w' ⟨rfl, rfl⟩))
            go_ret
            exact ⟨by rw [HE.out, held_great (by have := HS.out; have := HG.out; omega)]; rfl, rfl⟩
      · obtain rfl : k = n := by omega
        clear hx hy
        have HF := hide (held_small hs)
        go_wp2
        go_ret
        exact ⟨by rw [HE.out, HF.out]; rfl, rfl⟩
theorem dist_any (A B : Option Addr) (n c m d : Nat) (xs ys : List Int) (w : World) (hx : I32s w w.heap.size A xs) (hn : xs.length = n) (hxi : I32 xs) (hc : n ≤ c) (hm : c ≤ 9223372036854775807)
    (hy : I32s w w.heap.size B ys) (hn' : ys.length = m) (hyi : I32 ys) (hd : m ≤ d) (hm' : d ≤ 9223372036854775807) :
    Calls Try.prog 20 #[.slice A n c, .slice B m d] w fun e w' => e = .returned (.int .u64 (distOf xs ys)) ∧ w = w' := by
  by_cases h : m ≤ n
  · exact dist_core _ A B n c m d xs ys w hx hn hxi hc hm hy hn' hyi (.inl ⟨rfl, h⟩)
  · rw [distOf_comm]
    exact dist_core _ B A m d n c ys xs w hy hn' hyi hd hm' hx hn hxi (.inr ⟨rfl, by omega⟩)
end Go.Proofs.Ytphbdffgeeicaad
