/-
  Texts of one part, put together. No condition.
-/
import Derived.Test.YtgiplahhalgbdaaGreatMgX
import Derived.Test.YtgiplahhalgbdaaGreatMgB
/-
  Lists in order: the first of a list together with another are told by the first of the one. No condition.
-/
namespace Go.Proofs.YtgiplahhalgbdaaGreat
set_option linter.unusedSimpArgs false
set_option linter.unusedVariables false
open Go.RowKit

section
variable {α : Type} {lt : α → α → Bool}
theorem countP_perm {p : α → Bool} {l m : List α} (h : l.Perm m) : l.countP p = m.countP p := h.countP_eq p
variable (hS : Go.Sort.SWO lt) (hT : ∀ x y, lt x y = false → lt y x = false → x = y)
include hS
/-- in a list in order: if K of it are not behind y, the first K are not -/
theorem first_below {s : List α} (hs : s.Pairwise fun a b => lt b a = false) {K : Nat} {y : α} (h : K ≤ s.countP fun x => !lt y x) : ∀ x ∈ s.take K, lt y x = false := by
  intro x hx
  cases e : lt y x with
  | false => rfl
  | true =>
    exfalso
    obtain ⟨i, hi, ei⟩ := List.getElem_of_mem hx
    have hiK : i < K := by have := List.length_take_le K s; omega
    have his : i < s.length := by rw [List.length_take] at hi; omega
    have exi : s[i] = x := by rw [← ei, List.getElem_take]
    have hd : (s.drop i).countP (fun x => !lt y x) = 0 := by
      rw [List.countP_eq_zero]
      intro z hz
      rw [List.drop_eq_getElem_cons his, exi] at hz
      have hz' : z = x ∨ lt z x = false := by
        rcases List.mem_cons.1 hz with rfl | hz
        · exact .inl rfl
        · have hp := hs
          rw [← List.take_append_drop i s, List.pairwise_append] at hp
          have hp2 := hp.2.1
          rw [List.drop_eq_getElem_cons his, List.pairwise_cons, exi] at hp2
          exact .inr (hp2.1 z hz)
      have : lt y z = true := by
        rcases hz' with rfl | hz'
        · exact e
        · cases k : lt y z with
          | true => rfl
          | false =>
            have := hS.ntrans y z x k hz'
            rw [e] at this; cases this
      simp [this]
    have ht : s.countP (fun x => !lt y x) = (s.take i).countP (fun x => !lt y x) + (s.drop i).countP (fun x => !lt y x) := by
      rw [← List.countP_append, List.take_append_drop]
    have := List.countP_le_length (p := fun x => !lt y x) (l := s.take i)
    have := List.length_take_le i s
    omega
include hT
theorem srt_take (l m : List α) (K : Nat) : (srt lt (l ++ m)).take K = (srt lt ((srt lt l).take K ++ m)).take K := by
  rcases Nat.lt_or_ge K l.length with hK | hK
  · have hlen : ((srt lt l).take K).length = K := by rw [List.length_take, srt_len]; omega
    have hsp := srt_pw hS l
    have hperm0 : (srt lt l).Perm l := srt_perm
    have hs := srt_pw hS ((srt lt l).take K ++ m)
    have hsperm : (srt lt ((srt lt l).take K ++ m)).Perm ((srt lt l).take K ++ m) := srt_perm
    generalize srt lt l = u at *
    generalize srt lt (u.take K ++ m) = s at *
    have hslen : K ≤ s.length := by rw [hsperm.length_eq, List.length_append]; omega
    have hup := hsp
    rw [← List.take_append_drop K u, List.pairwise_append] at hup
    have key : ∀ x ∈ s.take K, ∀ y ∈ u.drop K, lt y x = false := fun x hx y hy => by
      refine first_below hS hs ?_ x hx
      rw [countP_perm hsperm, List.countP_append]
      have : (u.take K).countP (fun x => !lt y x) = K := by
        rw [List.countP_eq_length.2 (fun z hz => by simpa using hup.2.2 z hz y hy), hlen]
      omega
    have he : s.take K ++ srt lt (s.drop K ++ u.drop K) = srt lt (l ++ m) := by
      refine srt_eq hS hT ?_ ?_
      · refine (List.Perm.append_left _ srt_perm).trans ?_
        rw [← List.append_assoc, List.take_append_drop]
        refine (List.Perm.append_right _ hsperm).trans ?_
        rw [List.append_assoc]
        refine (List.Perm.append_left _ List.perm_append_comm).trans ?_
        rw [← List.append_assoc, List.take_append_drop]
        exact List.Perm.append_right _ hperm0
      · have hsq := hs
        rw [← List.take_append_drop K s, List.pairwise_append] at hsq
        rw [List.pairwise_append]
        refine ⟨hsq.1, srt_pw hS _, fun a ha b hb => ?_⟩
        rw [srt_mem, List.mem_append] at hb
        rcases hb with hb | hb
        · exact hsq.2.2 a ha b hb
        · exact key a ha b hb
    rw [← he, List.take_append_of_le_length (by rw [List.length_take]; omega), List.take_take, Nat.min_self]
  · rw [List.take_of_length_le (l := srt lt l) (by rw [srt_len]; exact hK)]
    congr 1
    exact srt_congr hS hT (List.Perm.append_right _ srt_perm.symm)
theorem srt_parts (l m : List α) (K : Nat) : (srt lt (l ++ m)).take K = (srt lt ((srt lt l).take K ++ (srt lt m).take K)).take K := by
  rw [srt_take hS hT l m K, srt_congr hS hT (List.perm_append_comm (l₁ := (srt lt l).take K) (l₂ := m)), srt_take hS hT m _ K]
  congr 1
  exact srt_congr hS hT List.perm_append_comm
end
theorem take_lst {α : Type} (k : Int) {l : List α} {n : Nat} (h : l.length = n) : l.take (lstN k n) = l.take k.toNat := by
  unfold lstN
  rw [← h, ← List.take_take, List.take_length]
end Go.Proofs.YtgiplahhalgbdaaGreat

/-
  A best list has the least of all that was offered: plain law. No condition.
-/
namespace Go.Proofs.YtgiplahhalgbdaaGreat
set_option linter.unusedSimpArgs false
set_option linter.unusedVariables false

theorem lst_last {T : List Spt} (hT : T.Pairwise fun a b => sptLt b a = false) {s : Spt} (h0 : 0 < T.length) (h : sptLt s (lstS T) = false) : ∀ a ∈ T, sptLt s a = false := by
  obtain ⟨T', z, rfl⟩ : ∃ T' z, T = T' ++ [z] := ⟨T.dropLast, T.getLast (by rintro rfl; simp at h0), (List.dropLast_concat_getLast _).symm⟩
  rw [lstS_app] at h
  rw [List.pairwise_append] at hT
  intro a ha
  rcases List.mem_append.1 ha with ha | ha
  · exact swoS.ntrans s z a h (hT.2.2 a ha z (List.mem_singleton.2 rfl))
  · rw [List.mem_singleton.1 ha]; exact h
/-- one more is offered -/
theorem off_best {k : Nat} (S : List Spt) (s : Spt) : (offR k ((srtS S).take k) s).1 = (srtS (S ++ [s])).take k := by
  rw [show (srtS (S ++ [s])).take k = (srtS ((srtS S).take k ++ [s])).take k from srt_take swoS totS S [s] k]
  obtain ⟨T, hT⟩ : ∃ T, (srtS S).take k = T := ⟨_, rfl⟩
  have hlen : T.length ≤ k := by rw [← hT]; exact List.length_take_le _ _
  have hpw : T.Pairwise fun a b => sptLt b a = false := by rw [← hT]; exact (srtS_pw S).sublist (List.take_sublist _ _)
  rw [hT]
  clear hT
  unfold offR
  split
  · rename_i h
    simp only
    rcases Nat.eq_zero_or_pos k with e | e
    · subst e; simp at hlen; subst hlen; simp
    · have h2 : sptLt s (lstS T) = false := h.2.resolve_left (by omega)
      have hall := lst_last hpw (by omega) h2
      rw [← srtS_eq (List.Perm.refl (T ++ [s])) (List.pairwise_append.2 ⟨hpw, by simp, fun a ha b hb => by rw [List.mem_singleton.1 hb]; exact hall a ha⟩)]
      rw [List.take_append_of_le_length (by omega), List.take_of_length_le hlen]
  · rw [take_lst k (by rw [srtS_len, List.length_append]; rfl)]
    simp
/-- what a best list has behind an offer -/
theorem off_seen {k : Nat} {l m S : List Spt} {s : Spt} {r : Bool} (hh : Heap sptGt l) (hk : l.length ≤ k) (ho : Off k l s r m) (h : srtS l = (srtS S).take k) : srtS m = (srtS (S ++ [s])).take k ∧ m.length ≤ k := by
  obtain ⟨h1, h2⟩ := off_eq hh hk ho
  rw [h] at h1
  refine ⟨?_, h2⟩
  rw [← off_best S s, h1]
theorem srtS_rev (l : List Spt) : srtS l.reverse = srtS l := srtS_congr (List.reverse_perm l)
end Go.Proofs.YtgiplahhalgbdaaGreat
