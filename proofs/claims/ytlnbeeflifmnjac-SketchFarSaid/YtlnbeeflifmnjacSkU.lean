/-
  cmp.Or of two ints. Condition: the slice reads as a list of two.
-/
import Derived.Test.YtlnbeeflifmnjacRowN
namespace Go.Proofs.Ytlnbeeflifmnjac
set_option linter.unusedSimpArgs false
set_option linter.unusedVariables false
open Go.RowKit

set_option maxHeartbeats 1000000 in
theorem or2_any {A : Option Addr} {c : Nat} {x y : Int} {w : World} (hx : Rd (Sh.int .i64) w w.heap.size A [x, y]) :
    Calls Try.prog 29 #[.slice A 2 c] w fun e w' => e = .returned (.int .i64 (if x = 0 then y else x)) ∧ w = w' := by
  have HX := hide hx
  obtain ⟨r, hr⟩ : ∃ r, (if x = 0 then y else x) = r := ⟨_, rfl⟩
  rw [hr]
  have Hr := hide hr
  clear hx hr
  go_enter Try.func29, Try.ntmps29
  go_wp2
  go_loopw [8] (fun i wr => ∃ k : Nat, k ≤ 2 ∧ i = .int .i64 k ∧ Hid (∀ j z, j < k → [x, y][j]? = some z → z = 0) ∧ w = wr) (fun i _ => 2 - (intOf i).toNat)
  case atStart => exact ⟨0, by omega, rfl, hide fun j z h => by omega, rfl⟩
  case round =>
    obtain ⟨k, hk, rfl, HZ, rfl⟩ := hrel
    by_cases hlt : k < 2
    · obtain ⟨ad, z, rfl, _, hv, q0⟩ := Rd.icell HX.out (k := k) (by simp only [List.length_cons, List.length_nil]; omega)
      have g0 : (0 : Int) ≤ k := by omega
      have g1 : (k : Int) < 2 := by omega
      by_cases hz : z = 0
      · have e0 : (z != 0) = false := by rw [hz]; rfl
        have HZ2 := hide (show ∀ j t, j < k + 1 → [x, y][j]? = some t → t = 0 from fun j t hj ht => by
          by_cases e : j = k
          · rw [e, hv] at ht; injection ht with ht; rw [← ht, hz]
          · exact HZ.out j t (by omega) ht)
        clear hv hz
        go_wp2
        go_roundw
        case rel => exact ⟨k + 1, by omega, by go_num, HZ2, by first | rfl | trivial⟩
        case measure => simp [intOf]; omega
      · have e0 : (z != 0) = true := bne_iff_ne.2 hz
        have HF := hide (show z = r by
          rw [← Hr.out]
          have hk2 : k = 0 ∨ k = 1 := by omega
          rcases hk2 with rfl | rfl
          · have : x = z := by simpa using hv
            rw [this, if_neg hz]
          · have h1 : x = 0 := HZ.out 0 x (by omega) rfl
            have : y = z := by simpa using hv
            rw [if_pos h1, this])
        clear hv hz
        go_wp2
        go_ret
        exact ⟨by rw [← HF.out]; rfl, by first | rfl | trivial⟩
    · obtain rfl : k = 2 := by omega
      have HF := hide (show r = 0 by
        rw [← Hr.out]
        rw [if_pos (HZ.out 0 x (by omega) rfl)]
        exact HZ.out 1 y (by omega) rfl)
      go_wp2
      go_ret
      exact ⟨by rw [HF.out]; rfl, by first | rfl | trivial⟩
end Go.Proofs.Ytlnbeeflifmnjac
