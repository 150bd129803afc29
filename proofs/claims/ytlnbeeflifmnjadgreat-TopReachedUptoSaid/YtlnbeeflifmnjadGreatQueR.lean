/-
  A best list has the least of all that was offered: plain law. No condition.
-/
import Derived.Test.YtlnbeeflifmnjadGreatMgB
import Derived.Test.YtlnbeeflifmnjadGreatSrtT
namespace Go.Proofs.YtlnbeeflifmnjadGreat
set_option linter.unusedSimpArgs false
set_option linter.unusedVariables false

theorem lst_last {T : List Spt} (hT : T.Pairwise fun a b => sptLt b a = false) {s : Spt} (h0 : 0 < T.length) (h : sptLt s (lstS T) = false) : ∀ a ∈ T, sptLt s a = false := by
  obtain ⟨T', z, rfl⟩ : ∃ T' z, T = T' ++ [z] := ⟨T.dropLast, T.getLast (by rintro rfl; simp at h0), (List.dropLast_concat_getLast _).symm⟩
  rw [lstS_app] at h
  rw [List.pairwise_append] at hT
  intro a ha
  rcases List.mem_append.1 ha with ha | ha
  · exact swoS.ntrans s z a h (hT.2.2 a ha z (List.mem_singleton.2 rfl))
  · rw [List.mem_singleton.1 ha]; exact h
/-- one more is offered -/
theorem off_best {k : Nat} (S : List Spt) (s : Spt) : (offR k ((srtS S).take k) s).1 = (srtS (S ++ [s])).take k := by
  rw [show (srtS (S ++ [s])).take k = (srtS ((srtS S).take k ++ [s])).take k from srt_take swoS totS S [s] k]
  obtain ⟨T, hT⟩ : ∃ T, (srtS S).take k = T := ⟨_, rfl⟩
  have hlen : T.length ≤ k := by rw [← hT]; exact List.length_take_le _ _
  have hpw : T.Pairwise fun a b => sptLt b a = false := by rw [← hT]; exact (srtS_pw S).sublist (List.take_sublist _ _)
  rw [hT]
  clear hT
  unfold offR
  split
  · rename_i h
    simp only
    rcases Nat.eq_zero_or_pos k with e | e
    · subst e; simp at hlen; subst hlen; simp
    · have h2 : sptLt s (lstS T) = false := h.2.resolve_left (by omega)
      have hall := lst_last hpw (by omega) h2
      rw [← srtS_eq (List.Perm.refl (T ++ [s])) (List.pairwise_append.2 ⟨hpw, by simp, fun a ha b hb => by rw [List.mem_singleton.1 hb]; exact hall a ha⟩)]
      rw [List.take_append_of_le_length (by omega), List.take_of_length_le hlen]
  · rw [take_lst k (by rw [srtS_len, List.length_append]; rfl)]
    simp
/-- what a best list has behind an offer -/
theorem off_seen {k : Nat} {l m S : List Spt} {s : Spt} {r : Bool} (hh : Heap sptGt l) (hk : l.length ≤ k) (ho : Off k l s r m) (h : srtS l = (srtS S).take k) : srtS m = (srtS (S ++ [s])).take k ∧ m.length ≤ k := by
  obtain ⟨h1, h2⟩ := off_eq hh hk ho
  rw [h] at h1
  refine ⟨?_, h2⟩
  rw [← off_best S s, h1]
theorem srtS_rev (l : List Spt) : srtS l.reverse = srtS l := srtS_congr (List.reverse_perm l)
end Go.Proofs.YtlnbeeflifmnjadGreat
