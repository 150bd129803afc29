/-
  The package rank: the least of two lists together are the least of the least of each; hits put together rise. No condition.
-/
import Derived.Test.YtohccblecgmdbaaRnkQ
namespace Go.Proofs.Ytohccblecgmdbaa
open Go.RowKit

section
variable {α : Type} {lt : α → α → Bool}
theorem countP_perm {p : α → Bool} {l m : List α} (h : l.Perm m) : l.countP p = m.countP p := h.countP_eq p
variable (hS : Go.Sort.SWO lt) (hT : ∀ x y, lt x y = false → lt y x = false → x = y)
include hS
/-- in a list in order: if K of it are not behind y, the first K are not -/
theorem first_below {s : List α} (hs : s.Pairwise fun a b => lt b a = false) {K : Nat} {y : α} (h : K ≤ s.countP fun x => !lt y x) : ∀ x ∈ s.take K, lt y x = false := by
  intro x hx
  cases e : lt y x with
  | false => rfl
  | true =>
    exfalso
    obtain ⟨i, hi, ei⟩ := List.getElem_of_mem hx
    have hiK : i < K := by have := List.length_take_le K s; omega
    have his : i < s.length := by rw [List.length_take] at hi; omega
    have exi : s[i] = x := by rw [← ei, List.getElem_take]
    have hd : (s.drop i).countP (fun x => !lt y x) = 0 := by
      rw [List.countP_eq_zero]
      intro z hz
      rw [List.drop_eq_getElem_cons his, exi] at hz
      have hz' : z = x ∨ lt z x = false := by
        rcases List.mem_cons.1 hz with rfl | hz
        · exact .inl rfl
        · have hp := hs
          rw [← List.take_append_drop i s, List.pairwise_append] at hp
          have hp2 := hp.2.1
          rw [List.drop_eq_getElem_cons his, List.pairwise_cons, exi] at hp2
          exact .inr (hp2.1 z hz)
      have : lt y z = true := by
        rcases hz' with rfl | hz'
        · exact e
        · cases k : lt y z with
          | true => rfl
          | false =>
            have := hS.ntrans y z x k hz'
            rw [e] at this; cases this
      simp [this]
    have ht : s.countP (fun x => !lt y x) = (s.take i).countP (fun x => !lt y x) + (s.drop i).countP (fun x => !lt y x) := by
      rw [← List.countP_append, List.take_append_drop]
    have := List.countP_le_length (p := fun x => !lt y x) (l := s.take i)
    have := List.length_take_le i s
    omega
include hT
theorem srt_take (l m : List α) (K : Nat) : (srt lt (l ++ m)).take K = (srt lt ((srt lt l).take K ++ m)).take K := by
  rcases Nat.lt_or_ge K l.length with hK | hK
  · have hlen : ((srt lt l).take K).length = K := by rw [List.length_take, srt_len]; omega
    have hsp := srt_pw hS l
    have hperm0 : (srt lt l).Perm l := srt_perm
    have hs := srt_pw hS ((srt lt l).take K ++ m)
    have hsperm : (srt lt ((srt lt l).take K ++ m)).Perm ((srt lt l).take K ++ m) := srt_perm
    generalize srt lt l = u at *
    generalize srt lt (u.take K ++ m) = s at *
    have hslen : K ≤ s.length := by rw [hsperm.length_eq, List.length_append]; omega
    have hup := hsp
    rw [← List.take_append_drop K u, List.pairwise_append] at hup
    have key : ∀ x ∈ s.take K, ∀ y ∈ u.drop K, lt y x = false := fun x hx y hy => by
      refine first_below hS hs ?_ x hx
      rw [countP_perm hsperm, List.countP_append]
      have : (u.take K).countP (fun x => !lt y x) = K := by
        rw [List.countP_eq_length.2 (fun z hz => by simpa using hup.2.2 z hz y hy), hlen]
      omega
    have he : s.take K ++ srt lt (s.drop K ++ u.drop K) = srt lt (l ++ m) := by
      refine srt_eq hS hT ?_ ?_
      · refine (List.Perm.append_left _ srt_perm).trans ?_
        rw [← List.append_assoc, List.take_append_drop]
        refine (List.Perm.append_right _ hsperm).trans ?_
        rw [List.append_assoc]
        refine (List.Perm.append_left _ List.perm_append_comm).trans ?_
        rw [← List.append_assoc, List.take_append_drop]
        exact List.Perm.append_right _ hperm0
      · have hsq := hs
        rw [← List.take_append_drop K s, List.pairwise_append] at hsq
        rw [List.pairwise_append]
        refine ⟨hsq.1, srt_pw hS _, fun a ha b hb => ?_⟩
        rw [srt_mem, List.mem_append] at hb
        rcases hb with hb | hb
        · exact hsq.2.2 a ha b hb
        · exact key a ha b hb
    rw [← he, List.take_append_of_le_length (by rw [List.length_take]; omega), List.take_take, Nat.min_self]
  · rw [List.take_of_length_le (l := srt lt l) (by rw [srt_len]; exact hK)]
    congr 1
    exact srt_congr hS hT (List.Perm.append_right _ srt_perm.symm)
theorem srt_parts (l m : List α) (K : Nat) : (srt lt (l ++ m)).take K = (srt lt ((srt lt l).take K ++ (srt lt m).take K)).take K := by
  rw [srt_take hS hT l m K, srt_congr hS hT (List.perm_append_comm (l₁ := (srt lt l).take K) (l₂ := m)), srt_take hS hT m _ K]
  congr 1
  exact srt_congr hS hT List.perm_append_comm
end
theorem take_lst {α : Type} (k : Int) {l : List α} {n : Nat} (h : l.length = n) : l.take (lstN k n) = l.take k.toNat := by
  unfold lstN
  rw [← h, ← List.take_take, List.take_length]
theorem least_parts (a b : List Spt) (k : Int) {n m p : Nat} (hn : a.length = n) (hm : b.length = m) (hp : ((srtS a).take (lstN k n) ++ (srtS b).take (lstN k m)).length = p) :
    (srtS (a ++ b)).take (lstN k (n + m)) = (srtS ((srtS a).take (lstN k n) ++ (srtS b).take (lstN k m))).take (lstN k p) := by
  rw [take_lst k (by rw [srtS_len, List.length_append, hn, hm]), take_lst k (by rw [srtS_len]; exact hp), take_lst k (by rw [srtS_len]; exact hn), take_lst k (by rw [srtS_len]; exact hm)]
  exact srt_parts swoS totS a b k.toNat
theorem dd_strict {l : List Hit} (h : l.Pairwise fun a b => hitLt b a = false) : (dd l).Pairwise fun a b => hitLt a b = true := by
  revert h
  refine snoc_ind (P := fun l => (l.Pairwise fun a b => hitLt b a = false) → (dd l).Pairwise fun a b => hitLt a b = true) ?_ ?_ l
  · intro _; simp [dd]
  · intro l x ih h
    rw [List.pairwise_append] at h
    have h1 := ih h.1
    rw [dd_snoc]
    split
    · exact h1
    · rename_i hne
      rw [dd_last] at hne
      rw [List.pairwise_append]
      refine ⟨h1, List.pairwise_singleton _ _, fun a ha b hb => ?_⟩
      rw [List.mem_singleton] at hb
      subst hb
      have hal : a ∈ l := (dd_mem l a).1 ha
      have hab : hitLt b a = false := h.2.2 a hal b (List.mem_singleton.2 rfl)
      cases e : hitLt a b with
      | true => rfl
      | false =>
        exfalso
        obtain rfl : a = b := totH a b e hab
        obtain ⟨z, hz⟩ : ∃ z, l.getLast? = some z := by
          cases hl : l.getLast? with
          | some z => exact ⟨z, rfl⟩
          | none => rw [List.getLast?_eq_none_iff] at hl; subst hl; simp at hal
        have hzl : z ∈ l := List.mem_of_getLast? hz
        have hz1 : hitLt a z = false := h.2.2 z hzl a (List.mem_singleton.2 rfl)
        have hz2 : hitLt z a = false := by
          obtain ⟨l', rfl⟩ : ∃ l', l = l' ++ [z] := by
            rw [List.getLast?_eq_some_iff] at hz; exact hz
          rcases List.mem_append.1 hal with hal | hal
          · exact (List.pairwise_append.1 h.1).2.2 a hal z (List.mem_singleton.2 rfl)
          · rw [List.mem_singleton] at hal; subst hal; exact swoH.irrefl a
        exact hne (by rw [hz, totH a z hz1 hz2])
theorem ris_dd (l : List Hit) : ris (dd (srtH l)) = true := by
  rw [ris_iff]
  intro k x y hx hy
  unfold srtH at *
  have h := List.pairwise_iff_getElem.1 (dd_strict (srt_pw swoH l))
  obtain ⟨h1, e1⟩ := List.getElem?_eq_some_iff.1 hx
  obtain ⟨h2, e2⟩ := List.getElem?_eq_some_iff.1 hy
  have := h k (k + 1) h1 h2 (by omega)
  rw [e1, e2] at this
  exact this
theorem dd_srt_mem (l : List Hit) (x : Hit) : x ∈ dd (srtH l) ↔ x ∈ l := by rw [dd_mem]; exact srt_mem
theorem srtH_comm (a b : List Hit) : srtH (a ++ b) = srtH (b ++ a) := srt_congr swoH totH List.perm_append_comm
end Go.Proofs.Ytohccblecgmdbaa
