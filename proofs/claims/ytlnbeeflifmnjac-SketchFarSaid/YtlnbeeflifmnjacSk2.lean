/-
  sketch.Near, plainly: the far ones of a list. No program in sight.
-/
import Derived.Test.YtlnbeeflifmnjacSk1
import Derived.Test.YtlnbeeflifmnjacSkE
namespace Go.Proofs.Ytlnbeeflifmnjac
set_option linter.unusedSimpArgs false
set_option linter.unusedVariables false

theorem apartW_le (a b : List Int) : apartW a b < 4097 := by
  unfold apartW
  have h := List.countP_le_length (p := fun n => mw a n != mw b n) (l := List.range 4096)
  rw [List.length_range] at h
  exact Nat.lt_succ_of_le h
/-- how far the k-th is from q, and its place -/
def farA (l : List (List Int)) (q : List Int) (k : Nat) : Far := (⟨apartW (l.getD k []) q, apartW_le _ _⟩, ⟨k % 64, Nat.mod_lt _ (by decide)⟩)
/-- the row, as far as it is made -/
def farK (l : List (List Int)) (q : List Int) (n k : Nat) : List Far := (List.range n).map fun i => if i < k then farA l q i else far0
theorem farK_zero (l : List (List Int)) (q : List Int) (n : Nat) : farK l q n 0 = List.replicate n far0 := by
  unfold farK
  rw [List.map_congr_left (g := fun _ => far0) fun i _ => by simp]
  exact List.map_const' ..|>.trans (by simp)
theorem farK_get {l : List (List Int)} {q : List Int} {n k : Nat} (h : k < n) : (farK l q n k)[k]? = some far0 := by
  unfold farK
  rw [List.getElem?_map, List.getElem?_range h]
  simp
theorem farK_set (l : List (List Int)) (q : List Int) (n k : Nat) : (farK l q n k).set k (farA l q k) = farK l q n (k + 1) := by
  apply List.ext_getElem?
  intro i
  rcases Nat.lt_or_ge i n with hi | hi
  · by_cases e : i = k
    · subst e
      rw [List.getElem?_set_self (by simp [farK]; exact hi)]
      unfold farK
      rw [List.getElem?_map, List.getElem?_range hi]
      simp
    · rw [List.getElem?_set_ne (Ne.symm e)]
      unfold farK
      rw [List.getElem?_map, List.getElem?_map, List.getElem?_range hi]
      simp only [Option.map_some]
      congr 1
      by_cases h : i < k
      · rw [if_pos h, if_pos (by omega)]
      · rw [if_neg h, if_neg (by omega)]
  · rw [List.getElem?_eq_none (by simp [farK]; exact hi), List.getElem?_eq_none (by simp [farK]; exact hi)]
theorem farK_end (l : List (List Int)) (q : List Int) (n : Nat) : farK l q n n = (List.range n).map (farA l q) := by
  unfold farK
  exact List.map_congr_left fun i hi => by rw [if_pos (List.mem_range.1 hi)]
end Go.Proofs.Ytlnbeeflifmnjac
