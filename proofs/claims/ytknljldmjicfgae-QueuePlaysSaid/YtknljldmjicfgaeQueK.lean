/-
  Queues and best lists: plain laws. No condition.
-/
import Derived.Test.YtknljldmjicfgaeQueJ
namespace Go.Proofs.Ytknljldmjicfgae
set_option linter.unusedSimpArgs false
set_option linter.unusedVariables false

theorem srtS_eq {l m : List Spt} (h : m.Perm l) (hp : m.Pairwise fun a b => sptLt b a = false) : m = srtS l := srt_eq swoS totS h hp
theorem srtS_pw (l : List Spt) : (srtS l).Pairwise fun a b => sptLt b a = false := srt_pw swoS l
theorem srtS_perm (l : List Spt) : (srtS l).Perm l := srt_perm
theorem srtS_congr {l m : List Spt} (h : m.Perm l) : srtS m = srtS l := srt_congr swoS totS h
/-- what was put in behind what is in order -/
theorem srtS_push {l m : List Spt} {s : Spt} (h : m.Perm (l ++ [s])) : srtS m = srtS (srtS l ++ [s]) := srtS_congr (h.trans ((srtS_perm l).symm.append_right [s]))
theorem fstS_mem {l : List Spt} {lt : Spt → Spt → Bool} (hS : Go.Sort.SWO lt) (hh : Heap lt l) (a : Spt) (ha : a ∈ l) : lt a (fstS l) = false := by
  obtain ⟨j, hj⟩ := List.getElem?_of_mem ha
  have h0 : 0 < l.length := List.length_pos_of_mem ha
  have hx : l[0]? = some (fstS l) := by unfold fstS; rw [List.getElem?_eq_getElem h0]; rfl
  exact hh.first hS hx j a hj
/-- the first of a queue, and the rest of it -/
theorem srtS_pop {l m : List Spt} (hh : Heap sptLt l) (h : (fstS l :: m).Perm l) : srtS l = fstS l :: srtS m := by
  refine (srtS_eq ((List.Perm.cons _ (srtS_perm m)).trans h) (List.pairwise_cons.2 ⟨fun b hb => ?_, srtS_pw m⟩)).symm
  exact fstS_mem swoS hh b (h.mem_iff.1 (List.mem_cons_of_mem _ ((srtS_perm m).mem_iff.1 hb)))
/-- the last of a best list in order is the worst of its heap -/
theorem srtS_worst {l m : List Spt} (hh : Heap sptGt l) (h : (fstS l :: m).Perm l) : srtS l = srtS m ++ [fstS l] := by
  refine (srtS_eq ((List.perm_append_comm.trans (List.Perm.cons _ (srtS_perm m))).trans h) (List.pairwise_append.2 ⟨srtS_pw m, by simp, fun a ha b hb => ?_⟩)).symm
  rw [List.mem_singleton.1 hb]
  exact fstS_mem swoG hh a (h.mem_iff.1 (List.mem_cons_of_mem _ ((srtS_perm m).mem_iff.1 ha)))
theorem fst_split {l : List Spt} (h : 0 < l.length) : ∃ m, l = fstS l :: m := by
  rcases l with _ | ⟨a, l⟩
  · simp at h
  · exact ⟨l, rfl⟩
theorem lstS_app (l : List Spt) (x : Spt) : lstS (l ++ [x]) = x := by unfold lstS; simp
theorem lstS_worst {l : List Spt} (hh : Heap sptGt l) (h : 0 < l.length) : lstS (srtS l) = fstS l := by
  obtain ⟨m, hm⟩ := fst_split h
  rw [srtS_worst hh (m := m) (by rw [← hm]), lstS_app]
/-- an offer, told from the lists in order -/
theorem off_eq {k : Nat} {l m : List Spt} {s : Spt} {r : Bool} (hh : Heap sptGt l) (hk : l.length ≤ k) (ho : Off k l s r m) : offR k (srtS l) s = (srtS m, r) ∧ m.length ≤ k := by
  unfold offR
  rcases ho with ⟨rfl, rfl, h⟩ | ⟨rfl, hk0, ⟨hl, hp⟩ | ⟨hl, hs, m', hp', hp⟩⟩
  · refine ⟨?_, hk⟩
    rw [if_pos]
    rw [srtS_len]
    rcases h with h | ⟨h1, h2⟩
    · exact ⟨by omega, .inl h⟩
    · refine ⟨h1, ?_⟩
      rcases Nat.eq_zero_or_pos k with e | e
      · exact .inl e
      · exact .inr (by rw [lstS_worst hh (by omega)]; exact h2)
  · have hml := hp.length_eq
    simp only [List.length_append, List.length_cons, List.length_nil] at hml
    refine ⟨?_, by omega⟩
    rw [if_neg (by rw [srtS_len]; omega), srtS_len, List.take_of_length_le (by rw [srtS_len, List.length_append, srtS_len]; unfold lstN; simp; omega), srtS_push hp]
  · have hml := hp.length_eq
    have hml' := hp'.length_eq
    simp only [List.length_append, List.length_cons, List.length_nil] at hml hml'
    refine ⟨?_, by omega⟩
    have hno : ¬ (k ≤ (srtS l).length ∧ (k = 0 ∨ sptLt s (lstS (srtS l)) = false)) := by
      rintro ⟨_, h | h⟩
      · exact hk0 h
      · rw [lstS_worst hh (by omega), hs] at h; cases h
    rw [if_neg hno, srtS_len]
    have e : srtS (srtS l ++ [s]) = srtS m ++ [fstS l] := by
      refine (srtS_eq ?_ (List.pairwise_append.2 ⟨srtS_pw m, by simp, fun a ha b hb => ?_⟩)).symm
      · refine (List.perm_append_comm.trans (List.Perm.cons _ ((srtS_perm m).trans hp))).trans ?_
        exact (hp'.append_right [s]).trans ((srtS_perm l).symm.append_right [s])
      · rw [List.mem_singleton.1 hb]
        rcases List.mem_append.1 (hp.mem_iff.1 ((srtS_perm m).mem_iff.1 ha)) with h | h
        · exact fstS_mem swoG hh a (hp'.mem_iff.1 (List.mem_cons_of_mem _ h))
        · rw [List.mem_singleton.1 h]; exact lt_asymm swoS hs
    rw [e, List.take_append_of_le_length (by rw [srtS_len]; unfold lstN; omega), List.take_of_length_le (by rw [srtS_len]; unfold lstN; omega)]
end Go.Proofs.Ytknljldmjicfgae
