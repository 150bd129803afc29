/-
  The package recall: parts of a thousand, of one pair. Conditions: the numbers are those of int.
-/
import Derived.Test.YtggbokgacffamabRecA
namespace Go.Proofs.Ytggbokgacffamab
open Go.RowKit

def perF (x y : Int) : Int := if y < 1 then 1000 else (1000 * x).tdiv y
theorem perF_le {x y : Int} (hx : 0 ≤ x) (hxy : x ≤ y) (hx2 : x ≤ 2147483647) : 0 ≤ perF x y ∧ perF x y ≤ 1000 * 2147483647 := by
  unfold perF
  split
  · omega
  · rw [Int.tdiv_eq_ediv_of_nonneg (by omega)]
    have h1 : 0 ≤ (1000 * x) / y := Int.ediv_nonneg (by omega) (by omega)
    have h2 : (1000 * x) / y ≤ 1000 * x := Int.ediv_le_self _ (by omega)
    omega
set_option maxHeartbeats 1000000 in
theorem permille_any (x y : Int) (w : World) (hx : 0 ≤ x) (hx2 : x ≤ 2147483647) (hy2 : y ≤ 2147483647) : Calls Try.prog 17 #[.agg #[.int .i64 x, .int .i64 y]] w fun e w' => e = .returned (.int .i64 (perF x y)) ∧ Below w.heap.size w w' := by
  by_cases h : y < 1
  · have e : perF x y = 1000 := by unfold perF; rw [if_pos h]
    rw [e]
    go_enter Try.func17, Try.ntmps17
    go_wp2
    go_ret
    exact ⟨rfl, below1 _ _⟩
  · have e : perF x y = (1000 * x).tdiv y := by unfold perF; rw [if_neg h]
    have h1 : wrap64 (1000 * x) = 1000 * x := by rw [wrap64_i64, IntKind.wrap_i64]; omega
    have h2 : IntKind.i64.wrap (1000 * x) = 1000 * x := by rw [← wrap64_i64]; exact h1
    have h3 : (y == 0) = false := by rw [beq_eq_false_iff_ne]; omega
    have h5 : 0 ≤ (1000 * x) / y := Int.ediv_nonneg (by omega) (by omega)
    have h6 : (1000 * x) / y ≤ 1000 * x := Int.ediv_le_self _ (by omega)
    rw [Int.tdiv_eq_ediv_of_nonneg (by omega)] at e
    go_enter Try.func17, Try.ntmps17
    go_wp2
    go_ret
    exact ⟨by first | rfl | (rw [e]; rfl), below1 _ _⟩
set_option maxHeartbeats 1000000 in
theorem ePermille_any (a b : Int) (w : World) : Calls Try.prog 7 #[.int .i64 a, .int .i64 b] w fun e w' => e = .returned (.int .i64 (perF (hA a b) (hB b))) ∧ Below w.heap.size w w' := by
  go_enter Try.func7, Try.ntmps7
  go_wp2_with (first
    | (go_at_call 16; refine (held_any a b _).mono ?_; rintro e w1 ⟨rfl, hb⟩; have HB1 := hide hb; clear hb)
    | (go_at_call 17; refine (permille_any (hA a b) (hB b) _ (hA_le a b).1 (hA_le a b).2 (hB_le b)).mono ?_; rintro e w2 ⟨rfl, hb⟩; have HB2 := hide (Below.step HB1.out hb); clear hb))
  go_ret
  exact ⟨rfl, HB2.out⟩
end Go.Proofs.Ytggbokgacffamab
