/-
  sketch.Near's order. Conditions: at most 4096 apart, places below 64.
-/
import Derived.Test.YtlnbeeflifmnjacSkU
import Derived.Test.YtlnbeeflifmnjacSort
import Derived.Test.YtlnbeeflifmnjacSrt
namespace Go.Proofs.Ytlnbeeflifmnjac
set_option linter.unusedSimpArgs false
set_option linter.unusedVariables false
open Go.RowKit

abbrev Far := Fin 4097 × Fin 64
def encFr (x : Far) : List Value := [.int .i64 (x.1.val : Nat), .int .i64 (x.2.val : Nat)]
def farO (a b : Far) : Int := if (a.1.val : Int) - b.1.val = 0 then (a.2.val : Int) - b.2.val else (a.1.val : Int) - b.1.val
def farLt (a b : Far) : Bool := decide (a.1.val < b.1.val ∨ a.1.val = b.1.val ∧ a.2.val < b.2.val)
theorem farO_neg (a b : Far) : decide (farO a b < 0) = farLt a b := by
  unfold farO farLt
  rw [decide_eq_decide]
  split <;> omega
theorem farLt_iff (a b : Far) : farLt a b = true ↔ a.1.val < b.1.val ∨ a.1.val = b.1.val ∧ a.2.val < b.2.val := by simp only [farLt, decide_eq_true_eq]
theorem not_far (a b : Far) : farLt a b = false ↔ ¬ (a.1.val < b.1.val ∨ a.1.val = b.1.val ∧ a.2.val < b.2.val) := by rw [← farLt_iff]; simp
theorem swoFr : Go.Sort.SWO farLt where
  irrefl x := by rw [not_far]; omega
  trans x y z h1 h2 := by rw [farLt_iff] at *; omega
  ntrans x y z h1 h2 := by rw [not_far] at *; omega
theorem totFr (x y : Far) (h1 : farLt x y = false) (h2 : farLt y x = false) : x = y := by
  rw [not_far] at h1 h2
  obtain ⟨a1, a2⟩ := x
  obtain ⟨b1, b2⟩ := y
  simp only at h1 h2
  obtain rfl : a1 = b1 := Fin.ext (by omega)
  obtain rfl : a2 = b2 := Fin.ext (by omega)
  rfl
end Go.Proofs.Ytlnbeeflifmnjac
