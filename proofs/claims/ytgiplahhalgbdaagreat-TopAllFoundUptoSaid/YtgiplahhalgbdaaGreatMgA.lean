/-
  Texts of one part, put together. No condition.
-/
import Derived.Test.YtgiplahhalgbdaaGreatChecked
import Derived.Test.YtgiplahhalgbdaaGreatVecP
import Derived.Test.YtgiplahhalgbdaaGreatLib2
import Derived.Laws.Externs
import Derived.IntWalk
/-
  The package vec, function by function: squares, distances, products. Conditions: the slices read as lists of int32s.
-/
namespace Go.Proofs.YtgiplahhalgbdaaGreat
open Go.RowKit

abbrev I32s (w : World) (B : Nat) (A : Option Addr) (xs : List Int) : Prop := Rd (Sh.int .i32) w B A xs

theorem run_add64_small {x y : Int} (hx : 0 ≤ x) (hy : 0 ≤ y) (h : x + y < 18446744073709551616) (w : World) :
    (callFunc 27 #[.int .u64 x, .int .u64 y, .int .u64 0]).run Tryz.prog w = .ok (.value (.tuple #[.int .u64 (x + y), .int .u64 0])) w := by
  rw [run_callFunc_extern Tryz.func27 (by kernel_rfl) (by kernel_rfl) (by kernel_rfl) (e := add64Entry) (by kernel_rfl), run_add64 x y 0 hx hy (by omega) (by omega)]
  simp only [Result.andThen]
  rw [show (x + y + 0) % 18446744073709551616 = x + y by omega, show (x + y + 0) / 18446744073709551616 = 0 by omega]
theorem run_add64_great {x y : Int} (hx : 0 ≤ x) (hy : 0 ≤ y) (hx1 : x < 18446744073709551616) (hy1 : y < 18446744073709551616) (h : 18446744073709551616 ≤ x + y) (w : World) :
    (callFunc 27 #[.int .u64 x, .int .u64 y, .int .u64 0]).run Tryz.prog w = .ok (.value (.tuple #[.int .u64 (x + y - 18446744073709551616), .int .u64 1])) w := by
  rw [run_callFunc_extern Tryz.func27 (by kernel_rfl) (by kernel_rfl) (by kernel_rfl) (e := add64Entry) (by kernel_rfl), run_add64 x y 0 hx hy (by omega) (by omega)]
  simp only [Result.andThen]
  rw [show (x + y + 0) % 18446744073709551616 = x + y - 18446744073709551616 by omega, show (x + y + 0) / 18446744073709551616 = 1 by omega]

theorem mul_bound {x y : Int} (hx : -2147483648 ≤ x ∧ x ≤ 2147483647) (hy : -2147483648 ≤ y ∧ y ≤ 2147483647) : -4611686018427387904 ≤ x * y ∧ x * y ≤ 4611686018427387904 := by
  have a := Int.mul_nonneg (show 0 ≤ 2147483648 - x by omega) (show 0 ≤ 2147483648 + y by omega)
  have b := Int.mul_nonneg (show 0 ≤ 2147483648 + x by omega) (show 0 ≤ 2147483648 - y by omega)
  have c := Int.mul_nonneg (show 0 ≤ 2147483648 - x by omega) (show 0 ≤ 2147483648 - y by omega)
  have d := Int.mul_nonneg (show 0 ≤ 2147483648 + x by omega) (show 0 ≤ 2147483648 + y by omega)
  simp only [Int.sub_mul, Int.add_mul, Int.mul_sub, Int.mul_add] at a b c d
  omega
theorem wrap_mul {x y : Int} (hx : -2147483648 ≤ x ∧ x ≤ 2147483647) (hy : -2147483648 ≤ y ∧ y ≤ 2147483647) : wrap64 (x * y) = x * y := by
  have := mul_bound hx hy
  rw [wrap64_i64]
  exact IntWalk.i64_in (x * y) (by omega)
theorem sq_wrap {x y : Int} (h : sq x y < 18446744073709551616) : IntKind.u64.wrap (IntKind.u64.wrap (x - y) * IntKind.u64.wrap (x - y)) = sq x y := by
  have hn := sq_nonneg x y
  unfold sq at *
  rw [IntKind.wrap_u64, IntKind.wrap_u64, ← Int.mul_emod, Int.emod_eq_of_lt hn h]
set_option maxHeartbeats 1000000 in
theorem square_any (x y : Int) (w : World) (hx : -2147483648 ≤ x ∧ x ≤ 2147483647) (hy : -2147483648 ≤ y ∧ y ≤ 2147483647) :
    Calls Tryz.prog 52 #[.int .i32 x, .int .i32 y] w fun e w' => e = .returned (.int .u64 (sq x y)) ∧ w = w' := by
  obtain ⟨h1, h2⟩ := hx
  obtain ⟨h3, h4⟩ := hy
  have HW := hide (sq_wrap (sq_lt ⟨h1, h2⟩ ⟨h3, h4⟩))
  go_enter Tryz.func52, Tryz.ntmps52
  go_wp2
  go_ret
  refine ⟨?_, rfl⟩
  rw [← HW.out]
  rfl

set_option maxHeartbeats 2000000 in
theorem dist_core (args : Array Value) (A B : Option Addr) (n c m d : Nat) (xs ys : List Int) (w : World) (hx : I32s w w.heap.size A xs) (hn : xs.length = n) (hxi : I32 xs) (hc : n ≤ c) (hm : c ≤ 9223372036854775807)
    (hy : I32s w w.heap.size B ys) (hn' : ys.length = m) (hyi : I32 ys)
    (ha : args = #[.slice A n c, .slice B m d] ∧ m ≤ n ∨ args = #[.slice B m d, .slice A n c] ∧ m < n) :
    Calls Tryz.prog 39 args w fun e w' => e = .returned (.int .u64 (distOf xs ys)) ∧ w = w' := by
  have Hn := hide hn
  have Hm := hide hn'
  clear hn hn'
  have HX := hide hxi
  have HY := hide hyi
  clear hxi hyi
  have hmn : m ≤ n := by omega
  have HE := hide (show distOf xs ys = held (sqTo xs ys n) by unfold distOf; rw [Hn.out, Hm.out, Nat.max_eq_left hmn])
  rcases ha with ⟨rfl, hle⟩ | ⟨rfl, hle⟩
  · have hdec : decide (n < m) = false := decide_eq_false (by omega)
    skip
    go_enter Tryz.func39, Tryz.ntmps39
    go_wp2
    go_loopw [5, 19] (fun s i wr => ∃ k : Nat, k ≤ n ∧ i = .int .i64 k ∧ s = .int .u64 (sqTo xs ys k) ∧ sqTo xs ys k < 18446744073709551616 ∧ w = wr) (fun _ i _ => n - (intOf i).toNat)
    case atStart => exact ⟨0, by omega, rfl, rfl, by simp [sqTo], by first | rfl | trivial⟩
    case round =>
      obtain ⟨k, hk, rfl, rfl, hs, rfl⟩ := hrel
      have hs0 := sqTo_nonneg xs ys k
      by_cases hlt : k < n
      · obtain ⟨ad, x, rfl, _, hx1, c1⟩ := hx.icell (k := k) (by have := Hn.out; omega)
        have bx := cmpAt_le HX.out k
        have ex := cmpAt_of hx1
        have bq := sq_nonneg (cmpAt xs k) (cmpAt ys k)
        have bl := sq_lt bx (cmpAt_le HY.out k)
        have by_ := cmpAt_le HY.out k
        have HS := hide (show sqTo xs ys (k + 1) = sqTo xs ys k + sq (cmpAt xs k) (cmpAt ys k) from rfl)
        have HG := hide (sqTo_mono xs ys (show k + 1 ≤ n by omega))
        rw [ex] at bq bl HS bx
        clear ex hx1
        by_cases hkm : k < m
        · obtain ⟨ad2, y, rfl, _, hy1, c2⟩ := hy.icell (k := k) (by have := Hm.out; omega)
          have ey := cmpAt_of hy1
          rw [ey] at bq bl HS by_
          clear ey hy1 hx hy
          have HB := hide bx
          have HBY := hide by_
          by_cases ho : sqTo xs ys k + sq x y < 18446744073709551616
          · have hadd := run_add64_small hs0 bq ho
            go_wp2_with (first | (go_at_call 52; refine (square_any x y _ HB.out HBY.out).mono ?_; rintro e w' ⟨rfl, rfl⟩))
            go_roundw
            case rel => exact ⟨k + 1, by omega, by go_num, by rw [HS.out], by rw [HS.out]; exact ho, by first | rfl | trivial⟩
            case measure => simp [intOf]; omega
          · have hadd := run_add64_great hs0 bq hs bl (by omega)
            go_wp2_with (first | (go_at_call 52; refine (square_any x y _ HB.out HBY.out).mono ?_; rintro e w' ⟨rfl, rfl⟩))
            go_ret
            exact ⟨by rw [HE.out, held_great (by have := HS.out; have := HG.out; omega)]; rfl, rfl⟩
        · have ey := cmpAt_out (xs := ys) (i := k) (by have := Hm.out; omega)
          rw [ey] at bq bl HS by_
          clear ey hx hy
          have HB := hide bx
          have HBY := hide by_
          by_cases ho : sqTo xs ys k + sq x 0 < 18446744073709551616
          · have hadd := run_add64_small hs0 bq ho
            go_wp2_with (first | (go_at_call 52; refine (square_any x 0 _ HB.out HBY.out).mono ?_; rintro e w' ⟨rfl, rfl⟩))
            go_roundw
            case rel => exact ⟨k + 1, by omega, by go_num, by rw [HS.out], by rw [HS.out]; exact ho, by first | rfl | trivial⟩
            case measure => simp [intOf]; omega
          · have hadd := run_add64_great hs0 bq hs bl (by omega)
            go_wp2_with (first | (go_at_call 52; refine (square_any x 0 _ HB.out HBY.out).mono ?_; rintro e w' ⟨rfl, rfl⟩))
            go_ret
            exact ⟨by rw [HE.out, held_great (by have := HS.out; have := HG.out; omega)]; rfl, rfl⟩
      · obtain rfl : k = n := by omega
        clear hx hy
        have HF := hide (held_small hs)
        go_wp2
        go_ret
        exact ⟨by rw [HE.out, HF.out]; rfl, rfl⟩
  · have hdec : decide (m < n) = true := decide_eq_true hle
    skip
    go_enter Tryz.func39, Tryz.ntmps39
    go_wp2
    go_loopw [5, 19] (fun s i wr => ∃ k : Nat, k ≤ n ∧ i = .int .i64 k ∧ s = .int .u64 (sqTo xs ys k) ∧ sqTo xs ys k < 18446744073709551616 ∧ w = wr) (fun _ i _ => n - (intOf i).toNat)
    case atStart => exact ⟨0, by omega, rfl, rfl, by simp [sqTo], by first | rfl | trivial⟩
    case round =>
      obtain ⟨k, hk, rfl, rfl, hs, rfl⟩ := hrel
      have hs0 := sqTo_nonneg xs ys k
      by_cases hlt : k < n
      · obtain ⟨ad, x, rfl, _, hx1, c1⟩ := hx.icell (k := k) (by have := Hn.out; omega)
        have bx := cmpAt_le HX.out k
        have ex := cmpAt_of hx1
        have bq := sq_nonneg (cmpAt xs k) (cmpAt ys k)
        have bl := sq_lt bx (cmpAt_le HY.out k)
        have by_ := cmpAt_le HY.out k
        have HS := hide (show sqTo xs ys (k + 1) = sqTo xs ys k + sq (cmpAt xs k) (cmpAt ys k) from rfl)
        have HG := hide (sqTo_mono xs ys (show k + 1 ≤ n by omega))
        rw [ex] at bq bl HS bx
        clear ex hx1
        by_cases hkm : k < m
        · obtain ⟨ad2, y, rfl, _, hy1, c2⟩ := hy.icell (k := k) (by have := Hm.out; omega)
          have ey := cmpAt_of hy1
          rw [ey] at bq bl HS by_
          clear ey hy1 hx hy
          have HB := hide bx
          have HBY := hide by_
          by_cases ho : sqTo xs ys k + sq x y < 18446744073709551616
          · have hadd := run_add64_small hs0 bq ho
            go_wp2_with (first | (go_at_call 52; refine (square_any x y _ HB.out HBY.out).mono ?_; rintro e w' ⟨rfl, rfl⟩))
            go_roundw
            case rel => exact ⟨k + 1, by omega, by go_num, by rw [HS.out], by rw [HS.out]; exact ho, by first | rfl | trivial⟩
            case measure => simp [intOf]; omega
          · have hadd := run_add64_great hs0 bq hs bl (by omega)
            go_wp2_with (first | (go_at_call 52; refine (square_any x y _ HB.out HBY.out).mono ?_; rintro e w' ⟨rfl, rfl⟩))
            go_ret
            exact ⟨by rw [HE.out, held_great (by have := HS.out; have := HG.out; omega)]; rfl, rfl⟩
        · have ey := cmpAt_out (xs := ys) (i := k) (by have := Hm.out; omega)
          rw [ey] at bq bl HS by_
          clear ey hx hy
          have HB := hide bx
          have HBY := hide by_
          by_cases ho : sqTo xs ys k + sq x 0 < 18446744073709551616
          · have hadd := run_add64_small hs0 bq ho
            go_wp2_with (first | (go_at_call 52; refine (square_any x 0 _ HB.out HBY.out).mono ?_; rintro e w' ⟨rfl, rfl⟩))
            go_roundw
            case rel => exact ⟨k + 1, by omega, by go_num, by rw [HS.out], by rw [HS.out]; exact ho, by first | rfl | trivial⟩
            case measure => simp [intOf]; omega
          · have hadd := run_add64_great hs0 bq hs bl (by omega)
            go_wp2_with (first | (go_at_call 52; refine (square_any x 0 _ HB.out HBY.out).mono ?_; rintro e w' ⟨rfl, rfl⟩))
            go_ret
            exact ⟨by rw [HE.out, held_great (by have := HS.out; have := HG.out; omega)]; rfl, rfl⟩
      · obtain rfl : k = n := by omega
        clear hx hy
        have HF := hide (held_small hs)
        go_wp2
        go_ret
        exact ⟨by rw [HE.out, HF.out]; rfl, rfl⟩
theorem dist_any (A B : Option Addr) (n c m d : Nat) (xs ys : List Int) (w : World) (hx : I32s w w.heap.size A xs) (hn : xs.length = n) (hxi : I32 xs) (hc : n ≤ c) (hm : c ≤ 9223372036854775807)
    (hy : I32s w w.heap.size B ys) (hn' : ys.length = m) (hyi : I32 ys) (hd : m ≤ d) (hm' : d ≤ 9223372036854775807) :
    Calls Tryz.prog 39 #[.slice A n c, .slice B m d] w fun e w' => e = .returned (.int .u64 (distOf xs ys)) ∧ w = w' := by
  by_cases h : m ≤ n
  · exact dist_core _ A B n c m d xs ys w hx hn hxi hc hm hy hn' hyi (.inl ⟨rfl, h⟩)
  · rw [distOf_comm]
    exact dist_core _ B A m d n c ys xs w hy hn' hyi hd hm' hx hn hxi (.inr ⟨rfl, by omega⟩)
end Go.Proofs.YtgiplahhalgbdaaGreat

/-
  The package vec, function by function: equal, ahead, right. Conditions: the slices read as lists of int32s.
-/
namespace Go.Proofs.YtgiplahhalgbdaaGreat
open Go.RowKit

theorem lens_false {xs ys : List Int} (h : xs.length ≠ ys.length) : decide (xs = ys) = false := decide_eq_false (fun e => h (by rw [e]))
theorem at_false {xs ys : List Int} {k : Nat} {x y : Int} (hx : xs[k]? = some x) (hy : ys[k]? = some y) (h : x ≠ y) : decide (xs = ys) = false :=
  decide_eq_false (fun e => h (by rw [e, hy] at hx; injection hx with hx; exact hx.symm))
def outB (x : Int) : Bool := decide (x < -16777216 ∨ 16777216 < x)
theorem any_take {xs : List Int} {p : Int → Bool} {k : Nat} {x : Int} (h : (xs.take k).any p = false) (hx : xs[k]? = some x) (hp : p x = false) : (xs.take (k + 1)).any p = false := by
  rw [List.take_add_one, hx]; simp only [List.any_append, h, Bool.false_or]; simp [hp]
theorem any_at {xs : List Int} {p : Int → Bool} {k : Nat} {x : Int} (hx : xs[k]? = some x) (hp : p x = true) : xs.any p = true := List.any_eq_true.2 ⟨x, List.mem_of_getElem? hx, hp⟩
def Idx (b : Bool) (r : Int) : Prop := decide (0 ≤ r) = b
/-- the error number of a check -/
def errOf (b : Bool) : Int := if b then 0 else 1
theorem vecOk_out (xs : List Int) (dim : Int) (h : (1 ≤ dim ∧ dim ≤ 4096 ∧ (xs.length : Int) = dim)) : vecOk xs dim = !xs.any outB := by
  unfold vecOk
  rw [decide_eq_true h, Bool.true_and, Bool.eq_iff_iff]
  simp only [List.all_eq_true, decide_eq_true_eq, Bool.not_eq_true', List.any_eq_false, outB]
  exact ⟨fun g x hx e => by have := g x hx; omega, fun g x hx => by have := g x hx; omega⟩
theorem vecOk_no (xs : List Int) (dim : Int) (h : ¬ (1 ≤ dim ∧ dim ≤ 4096 ∧ (xs.length : Int) = dim)) : vecOk xs dim = false := by
  unfold vecOk
  rw [decide_eq_false h, Bool.false_and]
end Go.Proofs.YtgiplahhalgbdaaGreat

/-
  The package vec: the middle of some vectors. Conditions: the slices read as lists of int32s, not too many.
-/
namespace Go.Proofs.YtgiplahhalgbdaaGreat
open Go.RowKit

abbrev LL (w : World) (B : Nat) (A : Option Addr) (l : List (List Int)) : Prop := Rd (Sh.list (Sh.int .i32)) w B A l
/-- the sums of the columns, behind k rows and j more components -/
def sumsAt (l : List (List Int)) (k j : Nat) : Nat → Int := stp (fun i => colTo l i k) (fun i => colTo l i (k + 1)) j
def mids (l : List (List Int)) (i : Nat) : Int := colTo l i l.length / (l.length : Int)
theorem meanR_yes {l : List (List Int)} (h : meanB l = true) : meanR l = (List.range (l.getD 0 []).length).map (mids l) := by unfold meanR; rw [if_pos h]; rfl
def MeanGives (w : World) (l : List (List Int)) (e : Ending) (w' : World) : Prop := ∃ v, e = .returned (.tuple #[v, .int .i64 (meanE l)]) ∧ NewInts .i32 w (meanR l) v w'
theorem meanGives_no {w w' : World} {l : List (List Int)} (h : meanB l = false) (hb : Below w.heap.size w w') : MeanGives w l (.returned (.tuple #[.slice none 0 0, .int .i64 7])) w' :=
  ⟨.slice none 0 0, by simp [meanE, h], by rw [show meanR l = [] by simp [meanR, h]]; exact NewInts.nil hb⟩
theorem i32_get {l : List (List Int)} (h : ∀ v ∈ l, I32 v) {k : Nat} {v : List Int} (hv : l[k]? = some v) : I32 v := h v (List.mem_of_getElem? hv)
theorem colTo_next {l : List (List Int)} {k : Nat} {v : List Int} (hv : l[k]? = some v) (i : Nat) : colTo l i (k + 1) = colTo l i k + cmpAt v i := by
  simp [colTo, List.getD_eq_getElem?_getD, hv]

end Go.Proofs.YtgiplahhalgbdaaGreat

/-
  The document's answer for vec: equal lists, the middle. Conditions: the slices read as lists of int32s, not too many.
-/
namespace Go.Proofs.YtgiplahhalgbdaaGreat
open Go.RowKit

end Go.Proofs.YtgiplahhalgbdaaGreat

/-
  The document's distance. Conditions: the slices read as lists of int32s.
-/
namespace Go.Proofs.YtgiplahhalgbdaaGreat
open Go.RowKit

end Go.Proofs.YtgiplahhalgbdaaGreat
