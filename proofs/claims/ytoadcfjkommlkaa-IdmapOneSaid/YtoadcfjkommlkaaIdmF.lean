/-
  The package idmap: Drop. Conditions: the blocks lie as said.
-/
import Derived.Test.YtoadcfjkommlkaaIdmD
namespace Go.Proofs.Ytoadcfjkommlkaa
open Go.RowKit

/-- what a drop leaves -/
def DropI (n : Nat) (ms : List (List (Int × RefV))) (ver : Int) (id : Int) : List (List (Int × RefV)) × Int :=
  if (getF n ms id).isSome then (ms.set (shardF n id) (dropF (ms[shardF n id]?.getD []) id), ver + 1) else (ms, ver)
section
variable {w w' w0 : World} {B M g : Nat} {hs : List Nat} {ms : List (List (Int × RefV))} {ver : Int}
theorem IdAt.far (h : IdAt w B M g hs ms ver) {r : Nat} {cs : Array Value} (hr : Blk w r 35 cs) (s t : Value) : IdAt ((w.setCell ⟨r, 0, none⟩ s).setCell ⟨r, 1, none⟩ t) B M g hs ms ver := by
  have k : ∀ d, d ≠ r → ((w.setCell ⟨r, 0, none⟩ s).setCell ⟨r, 1, none⟩ t).heap[d]? = w.heap[d]? := fun d hd => by
    rw [Below.heap_setCell _ _ _ _ hd, Below.heap_setCell _ _ _ _ hd]
  refine ⟨(k _ (h.m.ne_ hr (by decide))).trans h.m, (k _ (h.row.ne_ hr (by decide))).trans h.row, h.len, fun i hh l h1 h2 => (h.maps i hh l h1 h2).block (k _ fun e => h.ne_map h1 hr e.symm), h.nd, h.loM, h.log, h.loh, h.n0, h.n1, h.home⟩
theorem TurnI.far (h : TurnI w0 w M hs) {r : Nat} (hr : w0.heap.size ≤ r) (s t : Value) : TurnI w0 ((w.setCell ⟨r, 0, none⟩ s).setCell ⟨r, 1, none⟩ t) M hs :=
  ⟨h.os, h.tape, h.output, by have := h.size; simp; omega, fun k hk a b => by
    rw [Below.heap_setCell _ _ _ _ (by show k ≠ r; omega), Below.heap_setCell _ _ _ _ (by show k ≠ r; omega)]
    exact h.block k hk a b⟩
theorem dropF_mem {β : Type} {m : List (Int × β)} {k : Int} : ∀ p ∈ dropF m k, p ∈ m := fun p hp => (List.mem_filter.1 hp).1
set_option maxHeartbeats 4000000 in
theorem drop_any (h : IdAt w B M g hs ms ver) {id : Int} (hw : (Lit.int .u64 id).wf = true) (hv : 0 ≤ ver ∧ ver ≤ 1000000) :
    Calls Try.prog 11 #[.pointer (some ⟨M, 0, none⟩), .int .u64 id] w fun e w' => e = .returned (.tuple #[encR ((getF hs.length ms id).getD zR), .bool (getF hs.length ms id).isSome]) ∧ IdAt w' B M g hs (DropI hs.length ms ver id).1 (DropI hs.length ms ver id).2 ∧ TurnI w w' M hs := by
  have HB1 := hide (below1 w (.cells #[.int .i64 0, .int .i64 0] 35))
  have HN1 := hide (Blk.new w 35 #[.int .i64 0, .int .i64 0])
  have H1 := hide (h.below HB1.out)
  have HG := hide (fun W (hS : IdAt W B M g hs ms ver) => get_any hS hw)
  obtain ⟨⟨q1, q2⟩, hq⟩ : ∃ q, (getF hs.length ms id).getD zR = q := ⟨_, rfl⟩
  rw [hq] at HG ⊢
  unfold DropI
  rcases hb : (getF hs.length ms id).isSome with _ | _
  · rw [hb] at HG
    simp only [Bool.false_eq_true, if_false]
    unfold encR at HG ⊢
    clear h hq hb hw
    go_enter Try.func11, Try.ntmps11
    go_upto_region 5 with (go_at_call 12; refine (HG.out _ H1.out).mono ?_; rintro e w2 ⟨rfl, hb2⟩; have H2 := hide (H1.out.below hb2); have HN2 := hide (HN1.out.below hb2 HN1.out.lt); have HB2 := hide (Below.step HB1.out hb2); clear hb2)
    have hb3 := below1 w2 (.cells #[.int .i64 q1, .int .i64 q2] 35)
    have HX := hide (Blk.new w2 35 #[.int .i64 q1, .int .i64 q2])
    replace HN2 := hide (HN2.out.below hb3 HN2.out.lt)
    replace H2 := hide (H2.out.below hb3)
    replace HB2 := hide (Below.step HB2.out hb3)
    clear hb3
    generalize World.alloc w2 _ = w4 at *
    generalize w2.heap.size = b6 at *
    obtain ⟨x0, x1⟩ := cell2s HX.out
    obtain ⟨z0, z1⟩ := cell2s HN2.out
    have f0 := HN2.out.frozen 0
    have f1 := HN2.out.frozen 1
    go_wp2
    have q := (HN2.out.set_ 0 (.int .i64 q1)).set_ 1 (.int .i64 q2)
    have k0 := q.cell 0
    have k1 := q.cell 1
    simp at k0 k1
    exact bodyPost_ret (v := .tuple #[.agg #[.int .i64 q1, .int .i64 q2], .bool false]) (by simp [results, Try.results11, go_sem, k0, k1]) rfl ⟨rfl, H2.out.far HN2.out _ _, (TurnI.of_below HB2.out).far (Nat.le_refl _) _ _⟩
  · rw [hb] at HG
    simp only [if_true]
    obtain ⟨hh, hi⟩ : ∃ hh, hs[shardF hs.length id]? = some hh := by
      obtain ⟨hh, l, hi, _⟩ := h.at_ id
      exact ⟨hh, hi⟩
    have hlt := shardF_lt h.n0 id
    have hn1 := h.n1
    have HSh := hide (fun W (hS : IdAt W B M g hs ms ver) => shard_any hS id)
    have HPt := hide (show ∀ W, IdAt W B M g hs ms ver → ∃ W', (∀ ty, (Builtin.delete_ #[60, 33] ty #[.map (some hh), .int .u64 id]).run Try.prog W = .ok (.tuple #[]) W') ∧ IdAt W' B M g hs (ms.set (shardF hs.length id) (dropF (ms[shardF hs.length id]?.getD []) id)) ver ∧ MapPut W W' hh from fun W hS => by
      obtain ⟨l', hl', hm'⟩ := hS.map_at hi
      obtain ⟨W', k1, k2, k3⟩ := MapA.drop (P := Try.prog) hm' Try.underlying33 Try.underlying60 hw
      refine ⟨W', k1, hS.put_ hi (by rw [hl']; exact k2) k3 fun p hp => ?_, k3⟩
      rw [hl'] at hp
      exact hS.home _ _ hl' p (dropF_mem p hp))
    have Hne := hide (show ∀ W, IdAt W B M g hs ms ver → M ≠ hh ∧ g ≠ hh from fun W hS => ⟨hS.ne_map hi hS.m, hS.ne_map hi hS.row⟩)
    have Hbx := hide (show ∀ W q cs, IdAt W B M g hs ms ver → Blk W q 35 cs → q ≠ hh ∧ q ≠ M from fun W q cs hS hq => ⟨hS.ne_map hi hq, hq.ne_ hS.m (by decide)⟩)
    have Hhm := hide (List.mem_of_getElem? hi)
    have Hrow := hide hi
    generalize ms.set (shardF hs.length id) (dropF (ms[shardF hs.length id]?.getD []) id) = ms' at *
    generalize shardF hs.length id = s at *
    have s0 : (0 : Int) ≤ s := by omega
    obtain ⟨n, hn⟩ : ∃ n, hs.length = n := ⟨_, rfl⟩
    have s1 : (s : Int) < n := by omega
    have hv1 : IntKind.i64.wrap (ver + 1) = ver + 1 := IntWalk.i64_in _ (by omega)
    have hv2 : IntKind.i64.wrap ver = ver := IntWalk.i64_in _ (by omega)
    have Hn := hide hn
    unfold encR at HG ⊢
    clear h hi hq hb hw hlt hn hn1
    go_enter Try.func11, Try.ntmps11
    go_upto_region 3 with (go_at_call 12; refine (HG.out _ H1.out).mono ?_; rintro e w2 ⟨rfl, hb2⟩; have H2 := hide (H1.out.below hb2); have HN2 := hide (HN1.out.below hb2 HN1.out.lt); have HB2 := hide (Below.step HB1.out hb2); clear hb2)
    have hb3 := below1 w2 (.cells #[.int .i64 q1, .int .i64 q2] 35)
    have HX := hide (Blk.new w2 35 #[.int .i64 q1, .int .i64 q2])
    replace HN2 := hide (HN2.out.below hb3 HN2.out.lt)
    replace H2 := hide (H2.out.below hb3)
    replace HB2 := hide (Below.step HB2.out hb3)
    clear hb3
    generalize World.alloc w2 _ = w2b at *
    generalize w2.heap.size = b6 at *
    have HSR := hide (show SR M g n ver (hs.map fun h => Value.map (some h)).toArray b6 q1 q2 w2b ∧ Blk w2b w.heap.size 35 #[.int .i64 0, .int .i64 0] from ⟨⟨by have := H2.out.m; rw [Hn.out] at this; exact this, H2.out.row, HX.out⟩, HN2.out⟩)
    have Hgc := hide (show (hs.map fun h => Value.map (some h)).toArray[s]? = some (Value.map (some hh)) by simp [Hrow.out])
    generalize (hs.map fun h => Value.map (some h)).toArray = row at *
    refine wp_region_held_drew (S := fun W => SR M g n ver row b6 q1 q2 W ∧ Blk W w.heap.size 35 #[.int .i64 0, .int .i64 0]) (by as_aux_lemma => kernel_rfl) ⟨HSR.out.1.step (Below.refl _ _).drew, HSR.out.2.drew⟩ (fun hHeld => ?_)
    replace H2 := hide (H2.out.below (Below.refl _ _).drew)
    replace HB2 := hide (show Below w.heap.size w w2b.drew from HB2.out.drew)
    clear HSR HN2 HX
    generalize World.drew _ = wl1 at *
    refine wpAnyH_take (i := 0) (v := .pointer (some ⟨M, 0, none⟩)) rfl (by as_aux_lemma => kernel_rfl) (by as_aux_lemma => kernel_rfl) (by as_aux_lemma => kernel_rfl) (fun _ _ _ h => h) (Or.inl ⟨by as_aux_lemma => kernel_rfl, fun W hS => by clear hS hHeld; as_aux_lemma => go_simp⟩) hHeld ?_
    try simp only [Act.put, List.setIfInBounds_toArray, List.set_cons_zero, List.set_cons_succ]
    refine wpAnyH_take (i := 1) (v := .pointer (some ⟨M, 0, none⟩)) rfl (by as_aux_lemma => kernel_rfl) (by as_aux_lemma => kernel_rfl) (by as_aux_lemma => kernel_rfl) (fun _ _ _ h => h) (Or.inl ⟨by as_aux_lemma => kernel_rfl, fun W hS => by clear hS hHeld; as_aux_lemma => go_simp⟩) hHeld ?_
    try simp only [Act.put, List.setIfInBounds_toArray, List.set_cons_zero, List.set_cons_succ]
    refine wpAnyH_take (i := 2) (v := .pointer (some ⟨M, 0, none⟩)) rfl (by as_aux_lemma => kernel_rfl) (by as_aux_lemma => kernel_rfl) (by as_aux_lemma => kernel_rfl) (fun _ _ _ h => h) (Or.inl ⟨by as_aux_lemma => kernel_rfl, fun W hS => by clear hS hHeld; as_aux_lemma => go_simp⟩) hHeld ?_
    try simp only [Act.put, List.setIfInBounds_toArray, List.set_cons_zero, List.set_cons_succ]
    refine wpAnyH_take (i := 3) (v := .slice (some ⟨g, 0, none⟩) n n) rfl (by as_aux_lemma => kernel_rfl) (by as_aux_lemma => kernel_rfl) (by as_aux_lemma => kernel_rfl) (fun _ _ _ h => h) (Or.inl ⟨by as_aux_lemma => kernel_rfl, fun W hS => by have z0 := hS.1.1.cell 0; simp at z0; clear hS hHeld; as_aux_lemma => go_simp⟩) hHeld ?_
    try simp only [Act.put, List.setIfInBounds_toArray, List.set_cons_zero, List.set_cons_succ]
    refine wpAnyH_take (i := 4) (v := .pointer (some ⟨M, 0, none⟩)) rfl (by as_aux_lemma => kernel_rfl) (by as_aux_lemma => kernel_rfl) (by as_aux_lemma => kernel_rfl) (fun _ _ _ h => h) (Or.inl ⟨by as_aux_lemma => kernel_rfl, fun W hS => by clear hS hHeld; as_aux_lemma => go_simp⟩) hHeld ?_
    try simp only [Act.put, List.setIfInBounds_toArray, List.set_cons_zero, List.set_cons_succ]
    refine wpAnyH_take (i := 5) (v := .int .u64 id) rfl (by as_aux_lemma => kernel_rfl) (by as_aux_lemma => kernel_rfl) (by as_aux_lemma => kernel_rfl) (fun _ _ _ h => h) (Or.inl ⟨by as_aux_lemma => kernel_rfl, fun W hS => by clear hS hHeld; as_aux_lemma => go_simp⟩) hHeld ?_
    try simp only [Act.put, List.setIfInBounds_toArray, List.set_cons_zero, List.set_cons_succ]
    refine wpAnyH_take (i := 9) (v := .int .u64 id) rfl (by as_aux_lemma => kernel_rfl) (by as_aux_lemma => kernel_rfl) (by as_aux_lemma => kernel_rfl) (fun _ _ _ h => h) (Or.inl ⟨by as_aux_lemma => kernel_rfl, fun W hS => by clear hS hHeld; as_aux_lemma => go_simp⟩) hHeld ?_
    try simp only [Act.put, List.setIfInBounds_toArray, List.set_cons_zero, List.set_cons_succ]
    refine wpAnyH_ready (rs := [6]) (by as_aux_lemma => kernel_rfl) (by simp) ?_
    refine AllReadyH.cons rfl (fun K hK => ?_) AllReadyH.nil
    try simp only [Act.put, List.setIfInBounds_toArray, List.set_cons_zero, List.set_cons_succ]
    go_simp
    go_at_call 16
    refine (HSh.out _ H2.out).mono ?_
    rintro e wl2 ⟨rfl, hbl⟩
    replace H2 := hide (H2.out.below hbl)
    replace HB2 := hide (Below.step HB2.out hbl)
    refine hK.out _ _ ⟨hHeld.1.step hbl, hHeld.2.below hbl hHeld.2.lt⟩ (fun hHeld2 => ?_)
    clear hK K hHeld
    have hHeld := hHeld2
    clear hHeld2
    try simp only [Act.put, List.setIfInBounds_toArray, List.set_cons_zero, List.set_cons_succ]
    clear hbl
    refine wpAnyH_take (i := 7) (v := .pointer (some ⟨g, s, none⟩)) rfl (by as_aux_lemma => kernel_rfl) (by as_aux_lemma => kernel_rfl) (by as_aux_lemma => kernel_rfl) (fun _ _ _ h => h) (Or.inl ⟨by as_aux_lemma => kernel_rfl, fun W hS => by clear hS hHeld; as_aux_lemma => go_simp⟩) hHeld ?_
    try simp only [Act.put, List.setIfInBounds_toArray, List.set_cons_zero, List.set_cons_succ]
    refine wpAnyH_take (i := 8) (v := .map (some hh)) rfl (by as_aux_lemma => kernel_rfl) (by as_aux_lemma => kernel_rfl) (by as_aux_lemma => kernel_rfl) (fun _ _ _ h => h) (Or.inl ⟨by as_aux_lemma => kernel_rfl, fun W hS => by have z0 := (hS.1.2.1.cell s).trans Hgc.out; clear hS hHeld; as_aux_lemma => go_simp⟩) hHeld ?_
    try simp only [Act.put, List.setIfInBounds_toArray, List.set_cons_zero, List.set_cons_succ]
    refine wpAnyH_ready (rs := [10]) (by as_aux_lemma => kernel_rfl) (by simp) ?_
    refine AllReadyH.cons rfl (fun K hK => ?_) AllReadyH.nil
    obtain ⟨w3, L, h3, hP⟩ := HPt.out _ H2.out
    have hne := Hne.out _ H2.out
    have hn6 := Hbx.out _ _ _ H2.out hHeld.1.2.2
    have hnr := Hbx.out _ _ _ H2.out hHeld.2
    have HT3 := hide (TurnI.of_put (M := M) hP Hhm.out)
    try simp only [Act.put, List.setIfInBounds_toArray, List.set_cons_zero, List.set_cons_succ]
    go_simp
    refine hK.out _ _ ⟨hHeld.1.put hP hne.1 hne.2 hn6.1, (hP.2.2.2.2 _ hnr.1).trans hHeld.2⟩ (fun hHeld2 => ?_)
    clear hK K hHeld
    have hHeld := hHeld2
    clear hHeld2
    have H3 := hide h3
    have Hn6 := hide hn6.2
    have Hnr := hide hnr.2
    clear h3 hP L hne hn6 hnr
    try simp only [Act.put, List.setIfInBounds_toArray, List.set_cons_zero, List.set_cons_succ]
    refine wpAnyH_done (by as_aux_lemma => kernel_rfl) ?_ _
    obtain ⟨z0, z1⟩ := cell2s hHeld.1.1
    have f1 := hHeld.1.1.frozen 1
    have HX3 := hide hHeld.1.2.2
    have HN3 := hide hHeld.2
    clear hHeld
    go_upto_region 5 with fail
    have H4 := hide (H3.out.ver_ (ver + 1))
    have HT4 := hide (((TurnI.of_below HB2.out).trans HT3.out).trans (TurnI.of_ver (.int .i64 (ver + 1))))
    have HX4 := hide (HX3.out.far (p := ⟨M, 1, none⟩) (fun e => Hn6.out e) (.int .i64 (ver + 1)))
    have HN4 := hide (HN3.out.far (p := ⟨M, 1, none⟩) (fun e => Hnr.out e) (.int .i64 (ver + 1)))
    clear z0 z1 f1 HX3 HN3 H3 HT3
    generalize World.setCell w3 _ _ = w4 at *
    obtain ⟨x0, x1⟩ := cell2s HX4.out
    obtain ⟨z0, z1⟩ := cell2s HN4.out
    have f0 := HN4.out.frozen 0
    have f1 := HN4.out.frozen 1
    go_wp2
    have q := (HN4.out.set_ 0 (.int .i64 q1)).set_ 1 (.int .i64 q2)
    have k0 := q.cell 0
    have k1 := q.cell 1
    simp at k0 k1
    exact bodyPost_ret (v := .tuple #[.agg #[.int .i64 q1, .int .i64 q2], .bool true]) (by simp [results, Try.results11, go_sem, k0, k1]) rfl ⟨rfl, H4.out.far HN4.out _ _, HT4.out.far (Nat.le_refl _) _ _⟩
set_option maxHeartbeats 1000000 in
theorem drop_nil (id : Int) (w : World) : Calls Try.prog 11 #[.pointer none, .int .u64 id] w fun e w' => e = .returned (.tuple #[encR zR, .bool false]) ∧ Below w.heap.size w w' := by
  have HB1 := hide (below1 w (.cells #[.int .i64 0, .int .i64 0] 35))
  have HN1 := hide (Blk.new w 35 #[.int .i64 0, .int .i64 0])
  have HG := hide (fun W => get_nil id W)
  unfold encR zR at *
  go_enter Try.func11, Try.ntmps11
  go_upto_region 5 with (go_at_call 12; refine (HG.out _).mono ?_; rintro e w2 ⟨rfl, hb2⟩; have HN2 := hide (HN1.out.below hb2 HN1.out.lt); have HB2 := hide (Below.step HB1.out hb2); clear hb2)
  have hb3 := below1 w2 (.cells #[.int .i64 0, .int .i64 0] 35)
  have HX := hide (Blk.new w2 35 #[.int .i64 0, .int .i64 0])
  replace HN2 := hide (HN2.out.below hb3 HN2.out.lt)
  replace HB2 := hide (Below.step HB2.out hb3)
  clear hb3
  generalize World.alloc w2 _ = w4 at *
  generalize w2.heap.size = b6 at *
  obtain ⟨x0, x1⟩ := cell2s HX.out
  obtain ⟨z0, z1⟩ := cell2s HN2.out
  have f0 := HN2.out.frozen 0
  have f1 := HN2.out.frozen 1
  go_wp2
  obtain ⟨q, hb⟩ := ref_stored HN2.out HB2.out (Nat.le_refl _) 0 0
  have k0 := q.cell 0
  have k1 := q.cell 1
  simp at k0 k1
  exact bodyPost_ret (v := .tuple #[.agg #[.int .i64 0, .int .i64 0], .bool false]) (by simp [results, Try.results11, go_sem, k0, k1]) rfl ⟨rfl, hb⟩
end
end Go.Proofs.Ytoadcfjkommlkaa
