/-
  The document's Near, plainly: places put in, one by one. No program in sight.
-/
import Derived.Test.YtlnbeeflifmnjacSk2
namespace Go.Proofs.Ytlnbeeflifmnjac
set_option linter.unusedSimpArgs false
set_option linter.unusedVariables false

/-- s with x put in at k -/
def Mg {α : Type} (s : List α) (x : α) (k : Nat) : List α := s.take k ++ x :: s.drop k
section
variable {α : Type} {s : List α} {x y z : α} {k : Nat}
theorem Mg_start : Mg s x s.length = s ++ [x] := by simp [Mg]
theorem Mg_len (h : k ≤ s.length) : (Mg s x k).length = s.length + 1 := by simp [Mg]; omega
theorem Mg_set (h : k ≤ s.length) : (Mg s z k).set k x = Mg s x k := by
  unfold Mg
  have ht : (s.take k).length = k := by simp; omega
  rw [List.set_append_right _ _ (by omega), ht]
  simp
theorem Mg_prev (h : s[k]? = some y) : (Mg s z (k + 1))[k]? = some y := by
  have hl := (List.getElem?_eq_some_iff.1 h).1
  unfold Mg
  rw [List.getElem?_append_left (by simp; omega), List.getElem?_take, if_pos (by omega), h]
theorem Mg_back (h : s[k]? = some y) : (Mg s z (k + 1)).set (k + 1) y = Mg s y k := by
  obtain ⟨hl, e⟩ := List.getElem?_eq_some_iff.1 h
  rw [Mg_set (by omega)]
  unfold Mg
  rw [List.take_add_one, h, List.drop_eq_getElem_cons hl, e]
  simp
theorem Mg_map {β : Type} (f : α → β) : (Mg s x k).map f = Mg (s.map f) (f x) k := by simp [Mg]
end
/-- the first i, in order -/
def fars (l : List (List Int)) (q : List Int) (i : Nat) : List Far := srtFr ((List.range i).map (farA l q))
theorem fars_len (l : List (List Int)) (q : List Int) (i : Nat) : (fars l q i).length = i := by unfold fars; rw [srtFr_len]; simp
theorem fars_zero (l : List (List Int)) (q : List Int) : fars l q 0 = [] := List.eq_nil_of_length_eq_zero (fars_len l q 0)
theorem fars_mem {l : List (List Int)} {q : List Int} {i : Nat} {y : Far} (h : y ∈ fars l q i) : ∃ j, j < i ∧ y = farA l q j := by
  unfold fars srtFr at h
  rw [srt_mem] at h
  obtain ⟨j, hj, rfl⟩ := List.mem_map.1 h
  exact ⟨j, List.mem_range.1 hj, rfl⟩
theorem fars_lt {l : List (List Int)} {q : List Int} {i j : Nat} (hj : j < i) (hi : i < 64) : farLt (farA l q i) (farA l q j) = decide (apartW (l.getD i []) q < apartW (l.getD j []) q) := by
  unfold farLt farA
  simp only [Nat.mod_eq_of_lt hi, Nat.mod_eq_of_lt (Nat.lt_trans hj hi)]
  rw [decide_eq_decide]
  omega
theorem fars_snoc (l : List (List Int)) (q : List Int) (i : Nat) {k : Nat} (h1 : ∀ y ∈ (fars l q i).drop k, farLt (farA l q i) y = true) (h2 : k = 0 ∨ ∃ y, (fars l q i)[k - 1]? = some y ∧ farLt (farA l q i) y = false) :
    Mg (fars l q i) (farA l q i) k = fars l q (i + 1) := by
  have := srt_insert swoFr totFr (x := farA l q i) (k := k) (l := (List.range i).map (farA l q)) h1 h2
  unfold Mg fars srtFr
  rw [this, List.range_succ, List.map_append]
  rfl
/-- places -/
def plcF (s : List Far) : List Int := s.map fun x => (x.2.val : Int)
theorem plcF_len (s : List Far) : (plcF s).length = s.length := by simp [plcF]
theorem plcF_farA (l : List (List Int)) (q : List Int) {i : Nat} (hi : i < 64) : ((farA l q i).2.val : Int) = i := by
  show ((i % 64 : Nat) : Int) = i
  rw [Nat.mod_eq_of_lt hi]
theorem plcF_at {s : List Far} {k : Nat} {y : Far} (h : s[k]? = some y) : (plcF s)[k]? = some (y.2.val : Int) := by unfold plcF; rw [List.getElem?_map, h]; rfl
end Go.Proofs.Ytlnbeeflifmnjac
