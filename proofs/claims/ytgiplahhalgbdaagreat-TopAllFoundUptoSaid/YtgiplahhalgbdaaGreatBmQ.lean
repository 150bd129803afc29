/-
  The package beam, plainly: what a search keeps; a search that may find all finds all. No program in sight.
-/
import Derived.Test.YtgiplahhalgbdaaGreatBmP
import Derived.Test.YtgiplahhalgbdaaGreatMgM
import Derived.Test.YtgiplahhalgbdaaGreatMgc
namespace Go.Proofs.YtgiplahhalgbdaaGreat
set_option linter.unusedSimpArgs false
set_option linter.unusedVariables false

theorem sub_lenI : ∀ {l m : List Int}, l.Nodup → (∀ x ∈ l, x ∈ m) → l.length ≤ m.length
  | [], _, _, _ => by simp
  | x :: l, m, hn, hs => by
    obtain ⟨h1, h2⟩ := List.nodup_cons.1 hn
    have hx := hs x (by simp)
    have h3 := sub_lenI (l := l) (m := m.erase x) h2 fun y hy => (List.mem_erase_of_ne (fun e => h1 (by rw [← e]; exact hy))).2 (hs y (List.mem_cons_of_mem _ hy))
    rw [List.length_erase_of_mem hx] at h3
    have := List.length_pos_of_mem hx
    simp only [List.length_cons]
    omega
theorem sub_permI {l m : List Int} (hl : l.Nodup) (hm : m.Nodup) (hs : ∀ x ∈ l, x ∈ m) (hlen : m.length ≤ l.length) : l.Perm m := by
  have hms : ∀ x ∈ m, x ∈ l := fun x hx => by
    refine Classical.byContradiction fun hn => ?_
    have h3 := sub_lenI (l := x :: l) (m := m) (List.nodup_cons.2 ⟨hn, hl⟩) fun y hy => by
      rcases List.mem_cons.1 hy with rfl | hy
      · exact hx
      · exact hs y hy
    simp only [List.length_cons] at h3
    omega
  refine List.perm_iff_count.2 fun a => ?_
  rw [hl.count, hm.count]
  by_cases h : a ∈ l
  · rw [if_pos h, if_pos (hs a h)]
  · rw [if_neg h, if_neg fun e => h (hms a e)]
section
variable {ns : List NodeP} {q : List Int} {mask : Int} {K : Nat} {level : Int}
/-- a slot has the tags -/
def tagF (ns : List NodeP) (mask n : Int) : Bool := hasB mask (itemF ns n).2.2
/-- the spots of slots that have the tags -/
def tgS (ns : List NodeP) (q : List Int) (mask : Int) (l : List Int) : List Spt := (l.filter (tagF ns mask)).map (spotF ns q)
theorem tgS_snoc (l : List Int) (n : Int) : tgS ns q mask (l ++ [n]) = if tagF ns mask n = true then tgS ns q mask l ++ [spotF ns q n] else tgS ns q mask l := by
  unfold tgS
  rw [List.filter_append]
  by_cases h : tagF ns mask n = true
  · rw [if_pos h, List.filter_cons_of_pos h]; simp
  · rw [if_neg h, List.filter_cons_of_neg h]; simp
theorem tgS_len (l : List Int) : (tgS ns q mask l).length ≤ l.length := by
  unfold tgS; rw [List.length_map]; exact List.length_filter_le _ _
/-- what a look keeps: dn are those that were looked at -/
structure BmI (ns : List NodeP) (q : List Int) (mask : Int) (K : Nat) (s : PrS) (dn : List Int) : Prop where
  nd : s.1.Nodup
  th : ∀ x ∈ s.1, thereF ns x = true
  so : srtS s.2.1 = s.2.1
  sp : ∀ x ∈ s.2.1, x = spotF ns q x.2
  pm : (dn ++ s.2.1.map (·.2)).Perm s.1
  bs : s.2.2 = (srtS (tgS ns q mask s.1)).take K
theorem BmI.nil : BmI ns q mask K ([], [], []) [] := ⟨by simp, by simp, srtS_nilP, by simp, by simp, by rw [show tgS ns q mask ([] : List Int) = [] from rfl, srtS_nilP]; simp⟩
theorem spotF_slot (n : Int) : (spotF ns q n).2 = n := rfl
theorem BmI.off {s : PrS} {dn : List Int} (h : BmI ns q mask K s dn) (n : Int) : BmI ns q mask K (offS ns q mask K s n) dn := by
  unfold offS
  split
  · rename_i ht
    by_cases hn : n ∈ s.1
    · have e1 : offKn s.1 n = s.1 := by unfold offKn; rw [if_pos hn]
      have e2 : offWt s.1 s.2.1 (spotF ns q n) = s.2.1 := by unfold offWt; rw [spotF_slot, if_pos hn]
      have e3 : offBs K (hasB mask (itemF ns n).2.2) s.1 s.2.2 (spotF ns q n) = s.2.2 := by unfold offBs; rw [spotF_slot, if_pos hn]
      rw [e1, e2, e3]
      exact h
    · have e1 : offKn s.1 n = s.1 ++ [n] := by unfold offKn; rw [if_neg hn]
      have e2 : offWt s.1 s.2.1 (spotF ns q n) = srtS (s.2.1 ++ [spotF ns q n]) := by unfold offWt; rw [spotF_slot, if_neg hn]
      have e3 : offBs K (hasB mask (itemF ns n).2.2) s.1 s.2.2 (spotF ns q n) = if tagF ns mask n = true then (offR K s.2.2 (spotF ns q n)).1 else s.2.2 := by unfold offBs; rw [spotF_slot, if_neg hn]; rfl
      rw [e1, e2, e3]
      have hp : (srtS (s.2.1 ++ [spotF ns q n])).Perm (s.2.1 ++ [spotF ns q n]) := srtS_perm _
      refine ⟨?_, ?_, srtS_idem _, ?_, ?_, ?_⟩
      · refine List.nodup_append.2 ⟨h.nd, by simp, fun x hx y hy e => hn ?_⟩
        rw [List.mem_singleton.1 hy] at e
        exact e ▸ hx
      · intro x hx
        rcases List.mem_append.1 hx with hx | hx
        · exact h.th x hx
        · rw [List.mem_singleton.1 hx]; exact ht
      · intro x hx
        rcases List.mem_append.1 (hp.mem_iff.1 hx) with hx | hx
        · exact h.sp x hx
        · rw [List.mem_singleton.1 hx]; rfl
      · have h2 := (hp.map (·.2)).append_left dn
        rw [List.map_append] at h2
        refine h2.trans ?_
        rw [← List.append_assoc]
        exact h.pm.append_right _
      · show (if tagF ns mask n = true then (offR K s.2.2 (spotF ns q n)).1 else s.2.2) = (srtS (tgS ns q mask (s.1 ++ [n]))).take K
        rw [tgS_snoc]
        split
        · rw [h.bs, off_best]
        · exact h.bs
  · exact h
theorem BmI.offs {dn : List Int} : ∀ (l : List Int) {s : PrS}, BmI ns q mask K s dn → BmI ns q mask K (offL ns q mask K s l) dn
  | [], _, h => h
  | n :: l, _, h => BmI.offs l (h.off n)
theorem offS_sub (s : PrS) (n x : Int) (h : x ∈ s.1) : x ∈ (offS ns q mask K s n).1 := by
  unfold offS
  split
  · show x ∈ offKn s.1 n
    unfold offKn
    split
    · exact h
    · exact List.mem_append_left _ h
  · exact h
theorem offL_sub {x : Int} : ∀ (l : List Int) {s : PrS}, x ∈ s.1 → x ∈ (offL ns q mask K s l).1
  | [], _, h => h
  | n :: l, s, h => offL_sub l (s := offS ns q mask K s n) (offS_sub s n x h)
theorem offL_mem {x : Int} (ht : thereF ns x = true) : ∀ (l : List Int) {s : PrS}, x ∈ l → x ∈ (offL ns q mask K s l).1
  | n :: l, s, h => by
    rcases List.mem_cons.1 h with rfl | h
    · refine offL_sub l (s := offS ns q mask K s x) ?_
      unfold offS
      rw [if_pos ht]
      show x ∈ offKn s.1 x
      unfold offKn
      split
      · assumption
      · simp
    · exact offL_mem ht l (s := offS ns q mask K s n) h
/-- the first that waits is looked at -/
theorem BmI.pop {s : PrS} {dn : List Int} (h : BmI ns q mask K s dn) (hl : 0 < s.2.1.length) : BmI ns q mask K (s.1, s.2.1.drop 1, s.2.2) (dn ++ [(fstS s.2.1).2]) := by
  obtain ⟨m, hm⟩ := fst_split hl
  have hd : s.2.1.drop 1 = m := by rw [hm]; rfl
  have hpw := srtS_pw s.2.1
  rw [h.so, hm] at hpw
  refine ⟨h.nd, h.th, ?_, fun x hx => h.sp x (by rw [hm]; rw [hd] at hx; exact List.mem_cons_of_mem _ hx), ?_, h.bs⟩
  · rw [hd]
    exact (srtS_eq (List.Perm.refl _) (List.pairwise_cons.1 hpw).2).symm
  · show ((dn ++ [(fstS s.2.1).2]) ++ (s.2.1.drop 1).map (·.2)).Perm s.1
    rw [hd]
    have h2 := h.pm
    rw [hm] at h2
    rw [List.append_assoc]
    simpa [fstS] using h2
theorem not_done_len {s : PrS} (h : doneR K s.2.1 s.2.2 = false) : 0 < s.2.1.length := by
  rcases Nat.eq_zero_or_pos s.2.1.length with e | e
  · rw [show doneR K s.2.1 s.2.2 = true by unfold doneR; rw [decide_eq_true e]; rfl] at h; cases h
  · exact e
/-- what a look around ends at -/
structure LookE (ns : List NodeP) (q : List Int) (mask : Int) (K : Nat) (level : Int) (s : PrS) (dn : List Int) (t : PrS) (c : Nat) (dn' : List Int) : Prop where
  i : BmI ns q mask K t dn'
  c : dn'.length = dn.length + c
  sub : ∀ x ∈ s.1, x ∈ t.1
  don : doneR K t.2.1 t.2.2 = true
  near : (∀ x ∈ dn, ∀ y ∈ nearF ns x level, y ∈ s.1) → ∀ x ∈ dn', ∀ y ∈ nearF ns x level, y ∈ t.1
theorem LookR.ends {s t : PrS} {c : Nat} (h : LookR ns q mask K level s t c) : ∀ {dn : List Int}, BmI ns q mask K s dn → ∃ dn', LookE ns q mask K level s dn t c dn' := by
  induction h with
  | stop s h => exact fun {dn} hi => ⟨dn, hi, rfl, fun x hx => hx, h, fun hn => hn⟩
  | more s t c h _ ih =>
    intro dn hi
    have hl := not_done_len h
    obtain ⟨dn', h1⟩ := ih ((hi.pop hl).offs (nearF ns (fstS s.2.1).2 level))
    refine ⟨dn', h1.i, by rw [h1.c, List.length_append]; simp; omega, fun x hx => h1.sub x (offL_sub _ (s := (s.1, s.2.1.drop 1, s.2.2)) hx), h1.don, fun hn => h1.near fun x hx y hy => ?_⟩
    rcases List.mem_append.1 hx with hx | hx
    · exact offL_sub _ (s := (s.1, s.2.1.drop 1, s.2.2)) (hn x hx y hy)
    · rw [List.mem_singleton.1 hx] at hy
      exact offL_mem (near_there hy) _ hy
/-- known are at most those that are there -/
theorem BmI.le {s : PrS} {dn : List Int} (h : BmI ns q mask K s dn) : s.1.length ≤ (liveF ns).length := by
  exact sub_lenI h.nd fun x hx => live_mem.2 (h.th x hx)
theorem BmI.dn_le {s : PrS} {dn : List Int} (h : BmI ns q mask K s dn) : dn.length ≤ (liveF ns).length := by
  have h1 := h.pm.length_eq
  rw [List.length_append] at h1
  have := h.le
  omega
/-- with room for all nothing waits at the end -/
theorem BmI.room {s : PrS} {dn : List Int} (h : BmI ns q mask K s dn) (hK : (liveF ns).length ≤ K) (hd : doneR K s.2.1 s.2.2 = true) : s.2.1 = [] := by
  rcases Nat.eq_zero_or_pos s.2.1.length with e | e
  · exact List.eq_nil_of_length_eq_zero e
  exfalso
  have hle := h.le
  have hpl := h.pm.length_eq
  rw [List.length_append, List.length_map] at hpl
  unfold doneR at hd
  rw [decide_eq_false (show ¬ s.2.1.length = 0 by omega), decide_eq_false (show ¬ K = 0 by omega), Bool.false_or, Bool.false_or, Bool.and_eq_true, decide_eq_true_eq] at hd
  obtain ⟨h1, h2⟩ := hd
  rw [h.bs, List.length_take, srtS_len] at h1
  have h3 := tgS_len (ns := ns) (q := q) (mask := mask) s.1
  have h4 : (tgS ns q mask s.1).length = s.1.length := by omega
  have h5 : s.1.filter (tagF ns mask) = s.1 := by
    unfold tgS at h4
    rw [List.length_map] at h4
    exact List.filter_eq_self.2 (List.length_filter_eq_length_iff.1 h4)
  have hb : s.2.2 = srtS (tgS ns q mask s.1) := by rw [h.bs, List.take_of_length_le (by rw [srtS_len]; omega)]
  obtain ⟨m, hm⟩ := fst_split e
  have hf : fstS s.2.1 ∈ s.2.1 := by rw [hm]; simp [fstS]
  have hk : (fstS s.2.1).2 ∈ s.1 := h.pm.mem_iff.1 (List.mem_append_right _ (List.mem_map.2 ⟨_, hf, rfl⟩))
  have hin : fstS s.2.1 ∈ s.2.2 := by
    rw [hb, (srtS_perm _).mem_iff]
    unfold tgS
    rw [h5]
    exact List.mem_map.2 ⟨_, hk, (h.sp _ hf).symm⟩
  have hpw := srtS_pw (tgS ns q mask s.1)
  rw [← hb] at hpw
  have h0 : 0 < s.2.2.length := List.length_pos_of_mem hin
  have hlast : lstS s.2.2 = s.2.2.getLast (fun e => by rw [e] at h0; simp at h0) := by
    unfold lstS
    rw [List.getLast_eq_getElem, List.getElem?_eq_getElem (by omega)]; rfl
  have : ∀ a ∈ s.2.2, sptLt (lstS s.2.2) a = false := by
    intro a ha
    have hsplit := List.dropLast_concat_getLast (l := s.2.2) (fun e => by rw [e] at h0; simp at h0)
    rw [← hlast] at hsplit
    rw [← hsplit] at hpw ha
    rcases List.mem_append.1 ha with ha | ha
    · exact (List.pairwise_append.1 hpw).2.2 a ha _ (by simp)
    · rw [List.mem_singleton.1 ha]; exact swoS.irrefl _
  rw [this _ hin] at h2
  cases h2
/-- a slot near that is there is among the near -/
theorem kept_all {l : List Int} {x : Int} (ht : thereF ns x = true) : ∀ {k : Nat}, x ∈ l.take k → x ∈ kept ns l k
  | 0, h => by simp at h
  | k + 1, h => by
    by_cases hk : x ∈ l.take k
    · unfold kept; exact List.mem_append_left _ (kept_all ht hk)
    · rw [List.take_add_one] at h
      rcases List.mem_append.1 h with h | h
      · exact absurd h hk
      · cases e : l[k]? with
        | none => rw [e] at h; simp at h
        | some y =>
          rw [e] at h
          have hy : x = y := by simpa using h
          subst hy
          rw [kept_succ e, if_pos (by unfold stayF; rw [ht, decide_eq_true hk]; rfl)]
          simp
theorem near_next {n : Nat} {x : NodeP} (hx : ns[n]? = some x) (ht : thereF ns x.2.2.2.1 = true) : x.2.2.2.1 ∈ nearF ns (n : Int) 0 := by
  have hlt := (List.getElem?_eq_some_iff.1 hx).1
  unfold nearF
  rw [if_neg (by omega), show ((n : Int)).toNat = n by omega, hx]
  refine kept_all ht ?_
  rw [List.take_length]
  unfold rawF
  rw [if_pos (show (0 : Int) = 0 from rfl)]
  exact List.mem_append_right _ (by simp)
theorem near_nextF {s : Int} (h0 : 0 ≤ s) (hs : s < ns.length) (ht : thereF ns (nextF ns s) = true) : nextF ns s ∈ nearF ns s 0 := by
  obtain ⟨n, rfl⟩ : ∃ n : Nat, s = n := ⟨s.toNat, by omega⟩
  obtain ⟨x, hx⟩ : ∃ x, ns[n]? = some x := ⟨_, List.getElem?_eq_getElem (by omega)⟩
  rw [nextF_at hx] at ht ⊢
  exact near_next hx ht
/-- the ring stays within what is closed under the next -/
theorem runN_in {T : List Int} (hT : ∀ x ∈ T, thereF ns x = true → ∀ y ∈ nearF ns x 0, y ∈ T) : ∀ (k : Nat) (out : List Int) (a : Int), (∀ x ∈ out, x ∈ T) → (thereF ns a = true → a ∈ T) → ∀ x ∈ runN ns k out a, x ∈ T
  | 0, _, _, h, _, x, hx => h x hx
  | k + 1, out, a, h, ha, x, hx => by
    by_cases e : thereF ns a = true ∧ a ∉ out
    · rw [runN_go e] at hx
      refine runN_in hT k (out ++ [a]) (nextF ns a) (fun y hy => ?_) (fun ht => ?_) x hx
      · rcases List.mem_append.1 hy with hy | hy
        · exact h y hy
        · rw [List.mem_singleton.1 hy]; exact ha e.1
      · obtain ⟨h1, h2⟩ := there_lt e.1
        exact hT a (ha e.1) e.1 _ (near_nextF (by omega) h2 ht)
    · rw [runN_stop e] at hx
      exact h x hx
theorem runN_met : ∀ (k : Nat) (out : List Int) (a : Int), MetN ns out → MetN ns (runN ns k out a)
  | 0, _, _, h => h
  | k + 1, out, a, h => by
    by_cases e : thereF ns a = true ∧ a ∉ out
    · rw [runN_go e]; exact runN_met k _ _ (h.snoc e.1 e.2)
    · rw [runN_stop e]; exact h
/-- in a right plane the ring has all that are there -/
theorem ring_all {en top links : Int} (h : CheckP ns en top links) : (ringF ns).Perm (liveF ns) := by
  have hm : MetN ns (ringF ns) := runN_met _ _ _ MetN.nil
  exact sub_permI hm.nd (liveK_nodup ns _) (fun x hx => live_mem.2 (hm.th x hx)) (by rw [h.rg.2]; exact Nat.le_refl _)
/-- a search that may find all knows all -/
theorem know_all {en top links : Int} (hc : CheckP ns en top links) {l : List Int} (hl : ∀ x ∈ nearF ns 0 0, x ∈ l) (hK : (liveF ns).length ≤ K) {t : PrS} {c : Nat} (h : LookR ns q mask K 0 (offL ns q mask K ([], [], []) l) t c) :
    ∃ dn, BmI ns q mask K t dn ∧ t.2.1 = [] ∧ dn.length = c ∧ t.1.Perm (liveF ns) ∧ dn.Perm t.1 := by
  obtain ⟨dn, h1⟩ := h.ends (BmI.nil.offs l)
  have hw := h1.i.room hK h1.don
  have hpm : dn.Perm t.1 := by
    have := h1.i.pm
    rw [hw] at this
    simpa using this
  refine ⟨dn, h1.i, hw, by rw [h1.c]; simp, ?_, hpm⟩
  have hcl : ∀ x ∈ t.1, thereF ns x = true → ∀ y ∈ nearF ns x 0, y ∈ t.1 := fun x hx _ y hy => h1.near (by simp) x (hpm.mem_iff.2 hx) y hy
  have hsub : ∀ x ∈ ringF ns, x ∈ t.1 := by
    refine runN_in hcl _ _ _ (by simp) fun ht => h1.sub _ (offL_mem ht l (hl _ ?_))
    exact near_nextF (by omega) (by have := hc.pos; omega) ht
  refine sub_permI h1.i.nd (liveK_nodup ns _) (fun x hx => live_mem.2 (h1.i.th x hx)) ?_
  have hp := ring_all hc
  have hm : MetN ns (ringF ns) := runN_met _ _ _ MetN.nil
  have := sub_lenI hm.nd hsub
  rw [hp.length_eq] at this
  exact this
/-- spots in order are hits in order -/
theorem srt_fst {l : List Spt} : (srtS l).map (·.1) = srtH (l.map (·.1)) := by
  refine srt_eq swoH totH ((srtS_perm l).map _) ?_
  refine List.pairwise_map.2 ((srtS_pw l).imp fun {a b} h => ?_)
  rw [not_spt] at h
  rw [not_hit]
  omega
/-- the items of slots -/
theorem cnt_tg (l : List Int) : cntM q mask (l.map (itemF ns)) = (tgS ns q mask l).map (·.1) := by
  unfold cntM tgS
  rw [List.filter_map, List.map_map, List.map_map]
  rfl
/-- what is found with room for all are all hits of what is there -/
theorem found_all {t : PrS} {dn : List Int} (hi : BmI ns q mask K t dn) (hp : t.1.Perm (liveF ns)) (hK : (liveF ns).length ≤ K) (k : Nat) : (t.2.2.take k).map (·.1) = (hitsM q mask ((liveF ns).map (itemF ns))).take k := by
  have hb : t.2.2 = srtS (tgS ns q mask t.1) := by
    rw [hi.bs, List.take_of_length_le]
    rw [srtS_len]
    have := tgS_len (ns := ns) (q := q) (mask := mask) t.1
    have := hp.length_eq
    omega
  rw [List.map_take, hb, srt_fst]
  unfold hitsM
  rw [cnt_tg]
  congr 1
  exact srt_congr swoH totH (((hp.filter _).map _).map _)
/-- all that is found is there, has the tags, and rises -/
theorem found_ok {s : PrS} {dn : List Int} (h : BmI ns q mask K s dn) {i : Nat} {x : Spt} (hx : s.2.2[i]? = some x) : thereF ns x.2 = true ∧ x = spotF ns q x.2 ∧ tagF ns mask x.2 = true := by
  have hm : x ∈ tgS ns q mask s.1 := by
    have := List.mem_of_getElem? hx
    rw [h.bs] at this
    exact (srtS_perm _).mem_iff.1 (List.mem_of_mem_take this)
  unfold tgS at hm
  obtain ⟨n, hn, rfl⟩ := List.mem_map.1 hm
  obtain ⟨h1, h2⟩ := List.mem_filter.1 hn
  exact ⟨h.th n h1, rfl, h2⟩
theorem found_rise {s : PrS} {dn : List Int} (h : BmI ns q mask K s dn) {i : Nat} {x y : Spt} (hx : s.2.2[i]? = some x) (hy : s.2.2[i + 1]? = some y) : sptLt x y = true := by
  have hnd : (srtS (tgS ns q mask s.1)).Nodup := by
    refine (srtS_perm _).nodup_iff.2 ?_
    unfold tgS
    refine List.Pairwise.map _ (fun a b hab e => hab ?_) (h.nd.filter _)
    exact congrArg (·.2) e
  have hpw := srtS_pw (tgS ns q mask s.1)
  have hlt := (List.getElem?_eq_some_iff.1 hy).1
  rw [h.bs, List.getElem?_take] at hx hy
  rw [h.bs, List.length_take] at hlt
  rw [if_pos (by omega)] at hx hy
  obtain ⟨i1, rfl⟩ := List.getElem?_eq_some_iff.1 hx
  obtain ⟨i2, rfl⟩ := List.getElem?_eq_some_iff.1 hy
  have h1 := List.pairwise_iff_getElem.1 hpw i (i + 1) i1 i2 (by omega)
  rcases e : sptLt (srtS (tgS ns q mask s.1))[i] (srtS (tgS ns q mask s.1))[i + 1] with _ | _
  · have := totS _ _ e h1
    have h2 := List.pairwise_iff_getElem.1 hnd i (i + 1) i1 i2 (by omega)
    exact absurd this h2
  · rfl
theorem found_len {s : PrS} {dn : List Int} (h : BmI ns q mask K s dn) : s.2.2.length ≤ K := by rw [h.bs, List.length_take]; omega
end
end Go.Proofs.YtgiplahhalgbdaaGreat
