/-
  The package edges, plainly: the last of a list in order is the one that none is behind. No program in sight.
-/
import Derived.Test.YtggbokgacffamaaRnkO
namespace Go.Proofs.Ytggbokgacffamaa
open Go.RowKit

/-- the one that none is behind, as a walk finds it -/
def farK (l : List Spt) : Option Spt := l.foldl (fun o s => match o with | none => some s | some x => if sptLt x s = true then some s else some x) none
theorem farK_snoc (l : List Spt) (s : Spt) : farK (l ++ [s]) = match farK l with | none => some s | some x => if sptLt x s = true then some s else some x := by
  unfold farK; rw [List.foldl_append]; rfl
theorem farK_most (l : List Spt) : (l = [] ∧ farK l = none) ∨ ∃ x, farK l = some x ∧ x ∈ l ∧ ∀ y ∈ l, sptLt x y = false := by
  have h : ∀ m : List Spt, (m.reverse = [] ∧ farK m.reverse = none) ∨ ∃ x, farK m.reverse = some x ∧ x ∈ m.reverse ∧ ∀ y ∈ m.reverse, sptLt x y = false := fun m => by
    induction m with
    | nil => exact .inl ⟨rfl, rfl⟩
    | cons s m ih =>
      rw [List.reverse_cons, farK_snoc]
      rcases ih with ⟨h1, h2⟩ | ⟨x, h1, h2, h3⟩
      · rw [h2, h1]
        exact .inr ⟨s, rfl, by simp, fun y hy => by simp at hy; subst hy; exact swoS.irrefl y⟩
      · rw [h1]
        refine .inr ?_
        by_cases e : sptLt x s = true
        · refine ⟨s, by simp [e], by simp, fun y hy => ?_⟩
          rcases List.mem_append.1 hy with hy | hy
          · cases k : sptLt s y with
            | false => rfl
            | true => have := swoS.trans x s y e k; rw [h3 y hy] at this; cases this
          · rw [List.mem_singleton] at hy; subst hy; exact swoS.irrefl y
        · have e' : sptLt x s = false := by simpa using e
          refine ⟨x, by simp [e'], List.mem_append_left _ h2, fun y hy => ?_⟩
          rcases List.mem_append.1 hy with hy | hy
          · exact h3 y hy
          · rw [List.mem_singleton] at hy; subst hy; exact e'
  have := h l.reverse
  rwa [List.reverse_reverse] at this
theorem far_last (l : List Spt) : (srtS l).getLast? = farK l := by
  rcases farK_most l with ⟨h1, h2⟩ | ⟨x, h1, h2, h3⟩
  · subst h1; rw [h2]; simp [srtS, srt]
  · rw [h1]
    have hp : (srtS l).Pairwise fun a b => sptLt b a = false := srt_pw swoS l
    have hmem : ∀ y, y ∈ srtS l ↔ y ∈ l := fun y => srt_mem
    generalize srtS l = s at *
    cases hl : s.getLast? with
    | none => rw [List.getLast?_eq_none_iff] at hl; subst hl; have := (hmem x).2 h2; simp at this
    | some z =>
      obtain ⟨s', rfl⟩ : ∃ s', s = s' ++ [z] := by rw [List.getLast?_eq_some_iff] at hl; exact hl
      have hzl : z ∈ l := (hmem z).1 (by simp)
      have hx : x ∈ s' ++ [z] := (hmem x).2 h2
      rcases List.mem_append.1 hx with hx | hx
      · have h4 := (List.pairwise_append.1 hp).2.2 x hx z (by simp)
        rw [totS x z (h3 z hzl) h4]
      · rw [List.mem_singleton] at hx; rw [hx]
end Go.Proofs.Ytggbokgacffamaa
