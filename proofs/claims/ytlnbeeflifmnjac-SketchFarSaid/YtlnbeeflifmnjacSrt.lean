/-
  Lists in order, by a strict order that parts whatever two are not one. No condition.
-/
import Derived.Test.YtlnbeeflifmnjacProg
import Derived.Sort.LotA
namespace Go.Proofs.Ytlnbeeflifmnjac
set_option linter.unusedSimpArgs false
set_option linter.unusedVariables false

/-- in order -/
def srt {α : Type} (lt : α → α → Bool) (l : List α) : List α := l.mergeSort fun x y => !lt y x
section
variable {α : Type} {lt : α → α → Bool} {l m : List α}
theorem srt_len : (srt lt l).length = l.length := by simp [srt]
theorem srt_perm : (srt lt l).Perm l := List.mergeSort_perm _ _
theorem srt_mem {x : α} : x ∈ srt lt l ↔ x ∈ l := srt_perm.mem_iff
variable (hS : Go.Sort.SWO lt) (hT : ∀ x y, lt x y = false → lt y x = false → x = y)
include hS
theorem lt_asymm {x y : α} (h : lt x y = true) : lt y x = false := by
  cases k : lt y x with
  | false => rfl
  | true => have := hS.trans x y x h k; rw [hS.irrefl] at this; cases this
theorem srt_pw (l : List α) : (srt lt l).Pairwise fun a b => lt b a = false := by
  have h := List.pairwise_mergeSort (le := fun x y => !lt y x) (fun a b c h1 h2 => by
    simp only [Bool.not_eq_true'] at h1 h2 ⊢
    exact hS.ntrans c b a h2 h1) (fun a b => by
    simp only [Bool.or_eq_true, Bool.not_eq_true']
    cases k : lt b a with
    | false => exact .inl rfl
    | true => exact .inr (lt_asymm hS k)) l
  exact h.imp fun h => by simpa using h
include hT
theorem srt_eq (h : m.Perm l) (hp : m.Pairwise fun a b => lt b a = false) : m = srt lt l :=
  List.Perm.eq_of_pairwise (le := fun a b => lt b a = false) (fun a b _ _ h1 h2 => (hT a b h2 h1)) hp (srt_pw hS l) (h.trans srt_perm.symm)
theorem srt_congr (h : m.Perm l) : srt lt m = srt lt l := srt_eq hS hT (srt_perm.trans h) (srt_pw hS m)
theorem srt_insert {x : α} {k : Nat} (h1 : ∀ y ∈ (srt lt l).drop k, lt x y = true) (h2 : k = 0 ∨ ∃ y, (srt lt l)[k - 1]? = some y ∧ lt x y = false) :
    (srt lt l).take k ++ x :: (srt lt l).drop k = srt lt (l ++ [x]) := by
  have hpw := srt_pw hS l
  have hpm : (srt lt l).Perm l := srt_perm
  generalize srt lt l = s at *
  refine srt_eq hS hT ?_ ?_
  · refine List.perm_middle.trans ?_
    rw [List.take_append_drop]
    exact (List.Perm.cons x hpm).trans (List.perm_append_singleton x l).symm
  · rw [← List.take_append_drop k s, List.pairwise_append] at hpw
    obtain ⟨p1, p2, p3⟩ := hpw
    rw [List.pairwise_append]
    refine ⟨p1, List.pairwise_cons.2 ⟨fun y hy => lt_asymm hS (h1 y hy), p2⟩, fun a ha b hb => ?_⟩
    rcases List.mem_cons.1 hb with rfl | hb
    · rcases h2 with rfl | ⟨y, hy, hl⟩
      · simp at ha
      · -- a is y, or ahead of it
        have hk : 0 < k := by
          rcases Nat.eq_zero_or_pos k with e | e
          · subst e; simp at ha
          · exact e
        have hy' : (s.take k)[k - 1]? = some y := by rw [List.getElem?_take, if_pos (by omega)]; exact hy
        obtain ⟨i, hi, e⟩ := List.getElem_of_mem ha
        have hlt : k - 1 < (s.take k).length := (List.getElem?_eq_some_iff.1 hy').1
        have ey : (s.take k)[k - 1] = y := (List.getElem?_eq_some_iff.1 hy').2
        by_cases hik : i = k - 1
        · subst hik
          rw [← e, ey]; exact hl
        · have hlen : (s.take k).length ≤ k := List.length_take_le k s
          have := (List.pairwise_iff_getElem.1 p1) i (k - 1) hi hlt (by omega)
          rw [e, ey] at this
          exact hS.ntrans b y a hl this
    · exact p3 a ha b hb
end
end Go.Proofs.Ytlnbeeflifmnjac
