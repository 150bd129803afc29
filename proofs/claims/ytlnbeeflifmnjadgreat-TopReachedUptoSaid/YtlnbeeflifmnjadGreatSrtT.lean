/-
  Lists in order: the first of a list together with another are told by the first of the one. No condition.
-/
import Derived.Test.YtlnbeeflifmnjadGreatMgX
namespace Go.Proofs.YtlnbeeflifmnjadGreat
set_option linter.unusedSimpArgs false
set_option linter.unusedVariables false
open Go.RowKit

section
variable {α : Type} {lt : α → α → Bool}
theorem countP_perm {p : α → Bool} {l m : List α} (h : l.Perm m) : l.countP p = m.countP p := h.countP_eq p
variable (hS : Go.Sort.SWO lt) (hT : ∀ x y, lt x y = false → lt y x = false → x = y)
include hS
/-- in a list in order: if K of it are not behind y, the first K are not -/
theorem first_below {s : List α} (hs : s.Pairwise fun a b => lt b a = false) {K : Nat} {y : α} (h : K ≤ s.countP fun x => !lt y x) : ∀ x ∈ s.take K, lt y x = false := by
  intro x hx
  cases e : lt y x with
  | false => rfl
  | true =>
    exfalso
    obtain ⟨i, hi, ei⟩ := List.getElem_of_mem hx
    have hiK : i < K := by have := List.length_take_le K s; omega
    have his : i < s.length := by rw [List.length_take] at hi; omega
    have exi : s[i] = x := by rw [← ei, List.getElem_take]
    have hd : (s.drop i).countP (fun x => !lt y x) = 0 := by
      rw [List.countP_eq_zero]
      intro z hz
      rw [List.drop_eq_getElem_cons his, exi] at hz
      have hz' : z = x ∨ lt z x = false := by
        rcases List.mem_cons.1 hz with rfl | hz
        · exact .inl rfl
        · have hp := hs
          rw [← List.take_append_drop i s, List.pairwise_append] at hp
          have hp2 := hp.2.1
          rw [List.drop_eq_getElem_cons his, List.pairwise_cons, exi] at hp2
          exact .inr (hp2.1 z hz)
      have : lt y z = true := by
        rcases hz' with rfl | hz'
        · exact e
        · cases k : lt y z with
          | true => rfl
          | false =>
            have := hS.ntrans y z x k hz'
            rw [e] at this; cases this
      simp [this]
    have ht : s.countP (fun x => !lt y x) = (s.take i).countP (fun x => !lt y x) + (s.drop i).countP (fun x => !lt y x) := by
      rw [← List.countP_append, List.take_append_drop]
    have := List.countP_le_length (p := fun x => !lt y x) (l := s.take i)
    have := List.length_take_le i s
    omega
include hT
theorem srt_take (l m : List α) (K : Nat) : (srt lt (l ++ m)).take K = (srt lt ((srt lt l).take K ++ m)).take K := by
  rcases Nat.lt_or_ge K l.length with hK | hK
  · have hlen : ((srt lt l).take K).length = K := by rw [List.length_take, srt_len]; omega
    have hsp := srt_pw hS l
    have hperm0 : (srt lt l).Perm l := srt_perm
    have hs := srt_pw hS ((srt lt l).take K ++ m)
    have hsperm : (srt lt ((srt lt l).take K ++ m)).Perm ((srt lt l).take K ++ m) := srt_perm
    generalize srt lt l = u at *
    generalize srt lt (u.take K ++ m) = s at *
    have hslen : K ≤ s.length := by rw [hsperm.length_eq, List.length_append]; omega
    have hup := hsp
    rw [← List.take_append_drop K u, List.pairwise_append] at hup
    have key : ∀ x ∈ s.take K, ∀ y ∈ u.drop K, lt y x = false := fun x hx y hy => by
      refine first_below hS hs ?_ x hx
      rw [countP_perm hsperm, List.countP_append]
      have : (u.take K).countP (fun x => !lt y x) = K := by
        rw [List.countP_eq_length.2 (fun z hz => by simpa using hup.2.2 z hz y hy), hlen]
      omega
    have he : s.take K ++ srt lt (s.drop K ++ u.drop K) = srt lt (l ++ m) := by
      refine srt_eq hS hT ?_ ?_
      · refine (List.Perm.append_left _ srt_perm).trans ?_
        rw [← List.append_assoc, List.take_append_drop]
        refine (List.Perm.append_right _ hsperm).trans ?_
        rw [List.append_assoc]
        refine (List.Perm.append_left _ List.perm_append_comm).trans ?_
        rw [← List.append_assoc, List.take_append_drop]
        exact List.Perm.append_right _ hperm0
      · have hsq := hs
        rw [← List.take_append_drop K s, List.pairwise_append] at hsq
        rw [List.pairwise_append]
        refine ⟨hsq.1, srt_pw hS _, fun a ha b hb => ?_⟩
        rw [srt_mem, List.mem_append] at hb
        rcases hb with hb | hb
        · exact hsq.2.2 a ha b hb
        · exact key a ha b hb
    rw [← he, List.take_append_of_le_length (by rw [List.length_take]; omega), List.take_take, Nat.min_self]
  · rw [List.take_of_length_le (l := srt lt l) (by rw [srt_len]; exact hK)]
    congr 1
    exact srt_congr hS hT (List.Perm.append_right _ srt_perm.symm)
theorem srt_parts (l m : List α) (K : Nat) : (srt lt (l ++ m)).take K = (srt lt ((srt lt l).take K ++ (srt lt m).take K)).take K := by
  rw [srt_take hS hT l m K, srt_congr hS hT (List.perm_append_comm (l₁ := (srt lt l).take K) (l₂ := m)), srt_take hS hT m _ K]
  congr 1
  exact srt_congr hS hT List.perm_append_comm
end
theorem take_lst {α : Type} (k : Int) {l : List α} {n : Nat} (h : l.length = n) : l.take (lstN k n) = l.take k.toNat := by
  unfold lstN
  rw [← h, ← List.take_take, List.take_length]
end Go.Proofs.YtlnbeeflifmnjadGreat
