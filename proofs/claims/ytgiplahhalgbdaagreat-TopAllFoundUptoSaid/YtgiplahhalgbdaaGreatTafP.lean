/-
  The law TopAllFound, plainly: what a search finds is the best of some of what is there. No program in sight.
-/
import Derived.Test.YtgiplahhalgbdaaGreatMgR
import Derived.Test.YtgiplahhalgbdaaGreatRaP
namespace Go.Proofs.YtgiplahhalgbdaaGreat
set_option linter.unusedSimpArgs false
set_option linter.unusedVariables false

section
variable {ns : List NodeP} {q : List Int} {mask : Int} {K : Nat}
/-- all that is there -/
def allI (ns : List NodeP) : List ItemP := (liveF ns).map (itemF ns)
/-- a search finds the best of some of what is there -/
theorem some_of {l : List Int} {t : PrS} {c : Nat} (h : LookR ns q mask K 0 (offL ns q mask K ([], [], []) l) t c) : ∃ a : List ItemP, a.Sublist (allI ns) ∧ t.2.2.map (·.1) = (hitsM q mask a).take K := by
  obtain ⟨dn, h1⟩ := h.ends (BmI.nil.offs l)
  have hi := h1.i
  refine ⟨((liveF ns).filter fun x => decide (x ∈ t.1)).map (itemF ns), List.filter_sublist.map _, ?_⟩
  have hnd : ((liveF ns).filter fun x => decide (x ∈ t.1)).Nodup := (liveK_nodup ns _ : (liveF ns).Nodup).filter _
  have hp : t.1.Perm ((liveF ns).filter fun x => decide (x ∈ t.1)) :=
    sub_permI hi.nd hnd (fun x hx => List.mem_filter.2 ⟨live_mem.2 (hi.th x hx), by simpa using hx⟩) (sub_lenI hnd fun x hx => by simpa using (List.mem_filter.1 hx).2)
  rw [hi.bs, List.map_take, srt_fst]
  unfold hitsM
  rw [cnt_tg]
  congr 1
  exact srt_congr swoH totH (((hp.filter _).map _).map _)
theorem ids_cnt (l : List ItemP) : ((cntM q mask l).map (·.2)).Sublist (l.map (·.1)) := by
  unfold cntM
  rw [List.map_map]
  exact List.filter_sublist.map _
theorem hits_nodup {l : List ItemP} (h : (l.map (·.1)).Nodup) : (hitsM q mask l).Nodup := by
  have h1 : (cntM q mask l).Nodup := List.Pairwise.of_map (·.2) (fun a b k e => k (by rw [e])) (h.sublist (ids_cnt l))
  exact (srt_perm (l := cntM q mask l)).nodup_iff.2 h1
theorem all_ids {en top links : Int} (hc : CheckP ns en top links) : ((allI ns).map (·.1)).Nodup := by
  have h := hc.ids
  unfold allI
  rw [List.map_map]
  refine (List.map_congr_left fun x hx => ?_) ▸ h
  exact idF_item (live_mem.1 hx)
theorem hits_mem {a b : List ItemP} (h : a.Sublist b) {x : Hit} (hx : x ∈ hitsM q mask a) : x ∈ hitsM q mask b :=
  (srt_perm (l := cntM q mask b)).mem_iff.2 ((cnt_sub h).subset ((srt_perm (l := cntM q mask a)).mem_iff.1 hx))
/-- nothing that is found is missing among all -/
theorem miss_none {a b : List ItemP} (h : a.Sublist b) (m : Nat) : missR (hitsM q mask b) ((hitsM q mask a).take m) = [] := by
  unfold missR
  rw [List.filter_eq_nil_iff]
  intro x hx
  simpa using hits_mem h (List.mem_of_mem_take hx)
/-- as many are missing as were not found -/
theorem miss_rest {a b : List ItemP} (h : a.Sublist b) (hb : (b.map (·.1)).Nodup) (m : Nat) : (missR ((hitsM q mask a).take m) (hitsM q mask b)).length + ((hitsM q mask a).take m).length = (hitsM q mask b).length := by
  have h1 := miss_cnt ((hitsM q mask a).take m) (hitsM q mask b)
  have hS : ((hitsM q mask a).take m).Nodup := (hits_nodup (hb.sublist (h.map _))).sublist (List.take_sublist _ _)
  have h2 : cntR ((hitsM q mask a).take m) (hitsM q mask b) = ((hitsM q mask a).take m).length := by
    unfold cntR
    refine Nat.le_antisymm ?_ ?_
    · exact List.Nodup.length_le_of_subset ((hits_nodup hb).filter _) fun x hx => by simpa using (List.mem_filter.1 hx).2
    · exact List.Nodup.length_le_of_subset hS fun x hx => List.mem_filter.2 ⟨hits_mem h (List.mem_of_mem_take hx), by simpa using hx⟩
  omega
/-- .. and is never ahead -/
theorem beh_some {a b : List ItemP} (h : a.Sublist b) (k m n : Nat) (h1 : n ≤ ((hitsM q mask b).take k).length) (h2 : n ≤ ((hitsM q mask a).take m).length) : behK ((hitsM q mask b).take k) ((hitsM q mask a).take m) n = 0 := by
  refine beh_zero (fun i x y hx hy => ?_) n h1 h2
  rw [List.getElem?_take] at hx hy
  split at hx
  · split at hy
    · have := hits_order h hy hx
      unfold hitLt at this
      simp at this
      omega
    · cases hy
  · cases hx
theorem cnt_self (l : List Hit) : cntR l l = l.length := by
  unfold cntR
  rw [List.filter_eq_self.2 fun x hx => by simpa using hx]
theorem miss_self (l : List Hit) : missR l l = [] := by
  unfold missR
  rw [List.filter_eq_nil_iff]
  intro x hx
  simpa using hx
end
end Go.Proofs.YtgiplahhalgbdaaGreat
