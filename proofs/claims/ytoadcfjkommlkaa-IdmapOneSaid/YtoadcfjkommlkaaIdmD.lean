/-
  The package idmap: Put, Drop. Conditions: the blocks lie as said.
-/
import Derived.Test.YtoadcfjkommlkaaIdmC
namespace Go.Proofs.Ytoadcfjkommlkaa
open Go.RowKit

/-- the object's blocks and a spare one, for the time of a region -/
def SR (M g : Nat) (n : Nat) (ver : Int) (row : Array Value) (bx : Nat) (r1 r2 : Int) (W : World) : Prop :=
  Blk W M 59 #[.slice (some ⟨g, 0, none⟩) n n, .int .i64 ver] ∧ Blk W g 60 row ∧ Blk W bx 35 #[.int .i64 r1, .int .i64 r2]
theorem SR.step {M g n bx : Nat} {ver r1 r2 : Int} {row : Array Value} {W W' : World} (h : SR M g n ver row bx r1 r2 W) (hb : Below W.heap.size W W') : SR M g n ver row bx r1 r2 W' :=
  ⟨h.1.below hb h.1.lt, h.2.1.below hb h.2.1.lt, h.2.2.below hb h.2.2.lt⟩
theorem SR.put {M g n bx hh : Nat} {ver r1 r2 : Int} {row : Array Value} {W W' : World} (h : SR M g n ver row bx r1 r2 W) (hP : MapPut W W' hh) (h1 : M ≠ hh) (h2 : g ≠ hh) (h3 : bx ≠ hh) : SR M g n ver row bx r1 r2 W' :=
  ⟨(hP.2.2.2.2 _ h1).trans h.1, (hP.2.2.2.2 _ h2).trans h.2.1, (hP.2.2.2.2 _ h3).trans h.2.2⟩
/-- what a put leaves -/
def PutI (n : Nat) (ms : List (List (Int × RefV))) (ver : Int) (id : Int) (r : RefV) : List (List (Int × RefV)) × Int :=
  if (getF n ms id).isSome then (ms, ver) else (ms.set (shardF n id) (putF (ms[shardF n id]?.getD []) id r), ver + 1)
section
variable {w : World} {B M g : Nat} {hs : List Nat} {ms : List (List (Int × RefV))} {ver : Int}
theorem putF_mem {β : Type} {m : List (Int × β)} {k : Int} {v : β} : ∀ p ∈ putF m k v, p.1 = k ∨ ∃ q ∈ m, q.1 = p.1 := fun p hp => by
  unfold putF at hp
  split at hp
  · obtain ⟨q, hq, rfl⟩ := List.mem_map.1 hp
    by_cases e : (q.1 == k) = true
    · left; rw [if_pos e]
    · right; exact ⟨q, hq, by rw [if_neg e]⟩
  · rcases List.mem_append.1 hp with h | h
    · exact .inr ⟨p, h, rfl⟩
    · rw [List.mem_singleton.1 h]; exact .inl rfl
set_option maxHeartbeats 4000000 in
theorem put_any (h : IdAt w B M g hs ms ver) {id : Int} (hw : (Lit.int .u64 id).wf = true) (r1 r2 : Int) (hv : 0 ≤ ver ∧ ver ≤ 1000000) :
    Calls Try.prog 9 #[.pointer (some ⟨M, 0, none⟩), .int .u64 id, .agg #[.int .i64 r1, .int .i64 r2]] w fun e w' => e = .returned (.bool (!(getF hs.length ms id).isSome)) ∧ IdAt w' B M g hs (PutI hs.length ms ver id (r1, r2)).1 (PutI hs.length ms ver id (r1, r2)).2 ∧ TurnI w w' M hs := by
  have HB1 := hide (below1 w (.cells #[.int .i64 r1, .int .i64 r2] 35))
  have HN1 := hide (Blk.new w 35 #[.int .i64 r1, .int .i64 r2])
  have H1 := hide (h.below HB1.out)
  have H := hide h
  have HG := hide (fun W (hS : IdAt W B M g hs ms ver) => get_any hS hw)
  obtain ⟨⟨q1, q2⟩, hq⟩ : ∃ q, (getF hs.length ms id).getD zR = q := ⟨_, rfl⟩
  rw [hq] at HG
  unfold PutI
  rcases hb : (getF hs.length ms id).isSome with _ | _
  · rw [hb] at HG
    simp only [Bool.false_eq_true, if_false]
    obtain ⟨hh, hi⟩ : ∃ hh, hs[shardF hs.length id]? = some hh := by
      obtain ⟨hh, l, hi, _⟩ := h.at_ id
      exact ⟨hh, hi⟩
    obtain ⟨l, hl, _⟩ := h.map_at hi
    have hlt := shardF_lt h.n0 id
    have hn1 := h.n1
    have HSh := hide (fun W (hS : IdAt W B M g hs ms ver) => shard_any hS id)
    have HPt := hide (show ∀ W, IdAt W B M g hs ms ver → ∃ W', (Instr.mapUpdate 60 (.map (some hh)) (.int .u64 id) (.agg #[.int .i64 r1, .int .i64 r2])).run Try.prog W = .ok () W' ∧ IdAt W' B M g hs (ms.set (shardF hs.length id) (putF (ms[shardF hs.length id]?.getD []) id (r1, r2))) ver ∧ MapPut W W' hh from fun W hS => by
      obtain ⟨l', hl', hm'⟩ := hS.map_at hi
      obtain ⟨W', k1, k2, k3⟩ := MapA.put (P := Try.prog) hm' Try.underlying33 Try.underlying60 hw (r1, r2)
      refine ⟨W', k1, hS.put_ hi (by rw [hl']; exact k2) k3 fun p hp => ?_, k3⟩
      rw [hl'] at hp
      rcases putF_mem p hp with e | ⟨q, hq, e⟩
      · rw [e]
      · rw [← e]; exact hS.home _ _ hl' q hq)
    have Hne := hide (show ∀ W, IdAt W B M g hs ms ver → M ≠ hh ∧ g ≠ hh from fun W hS => ⟨hS.ne_map hi hS.m, hS.ne_map hi hS.row⟩)
    have Hbx := hide (show w.heap.size ≠ hh from H1.out.ne_map hi HN1.out)
    have Hhm := hide (List.mem_of_getElem? hi)
    have Hrow := hide hi
    generalize ms.set (shardF hs.length id) (putF (ms[shardF hs.length id]?.getD []) id (r1, r2)) = ms' at *
    generalize shardF hs.length id = s at *
    have s0 : (0 : Int) ≤ s := by omega
    obtain ⟨n, hn⟩ : ∃ n, hs.length = n := ⟨_, rfl⟩
    have s1 : (s : Int) < n := by omega
    have hv1 : IntKind.i64.wrap (ver + 1) = ver + 1 := IntWalk.i64_in _ (by omega)
    have hv2 : IntKind.i64.wrap ver = ver := IntWalk.i64_in _ (by omega)
    have Hn := hide hn
    unfold encR at HG
    clear h hi hl hq hb hw hlt hn hn1
    go_enter Try.func9, Try.ntmps9
    go_upto_region 4 with (go_at_call 12; refine (HG.out _ H1.out).mono ?_; rintro e w2 ⟨rfl, hb2⟩; have H2 := hide (H1.out.below hb2); have HN2 := hide (HN1.out.below hb2 HN1.out.lt); have HB2 := hide (Below.step HB1.out hb2); clear hb2)
    have hb3 := below1 w2 (.cells #[.int .i64 q1, .int .i64 q2] 35)
    replace HN2 := hide (HN2.out.below hb3 HN2.out.lt)
    replace H2 := hide (H2.out.below hb3)
    replace HB2 := hide (Below.step HB2.out hb3)
    clear hb3
    generalize World.alloc w2 _ = w2b at *
    have HSR := hide (show SR M g n ver (hs.map fun h => Value.map (some h)).toArray w.heap.size r1 r2 w2b from ⟨by have := H2.out.m; rw [Hn.out] at this; exact this, H2.out.row, HN2.out⟩)
    have Hgc := hide (show (hs.map fun h => Value.map (some h)).toArray[s]? = some (Value.map (some hh)) by simp [Hrow.out])
    generalize (hs.map fun h => Value.map (some h)).toArray = row at *
    refine wp_region_held_drew (S := SR M g n ver row w.heap.size r1 r2) (by as_aux_lemma => kernel_rfl) (HSR.out.step (Below.refl _ _).drew) (fun hHeld => ?_)
    replace H2 := hide (H2.out.below (Below.refl _ _).drew)
    replace HB2 := hide (show Below w.heap.size w w2b.drew from HB2.out.drew)
    clear HSR HN2
    generalize World.drew _ = wl1 at *
    refine wpAnyH_take (i := 0) (v := .pointer (some ⟨M, 0, none⟩)) rfl (by as_aux_lemma => kernel_rfl) (by as_aux_lemma => kernel_rfl) (by as_aux_lemma => kernel_rfl) (fun _ _ _ h => h) (Or.inl ⟨by as_aux_lemma => kernel_rfl, fun W hS => by clear hS hHeld; as_aux_lemma => go_simp⟩) hHeld ?_
    try simp only [Act.put, List.setIfInBounds_toArray, List.set_cons_zero, List.set_cons_succ]
    refine wpAnyH_take (i := 1) (v := .pointer (some ⟨M, 0, none⟩)) rfl (by as_aux_lemma => kernel_rfl) (by as_aux_lemma => kernel_rfl) (by as_aux_lemma => kernel_rfl) (fun _ _ _ h => h) (Or.inl ⟨by as_aux_lemma => kernel_rfl, fun W hS => by clear hS hHeld; as_aux_lemma => go_simp⟩) hHeld ?_
    try simp only [Act.put, List.setIfInBounds_toArray, List.set_cons_zero, List.set_cons_succ]
    refine wpAnyH_take (i := 2) (v := .pointer (some ⟨M, 0, none⟩)) rfl (by as_aux_lemma => kernel_rfl) (by as_aux_lemma => kernel_rfl) (by as_aux_lemma => kernel_rfl) (fun _ _ _ h => h) (Or.inl ⟨by as_aux_lemma => kernel_rfl, fun W hS => by clear hS hHeld; as_aux_lemma => go_simp⟩) hHeld ?_
    try simp only [Act.put, List.setIfInBounds_toArray, List.set_cons_zero, List.set_cons_succ]
    refine wpAnyH_take (i := 3) (v := .slice (some ⟨g, 0, none⟩) n n) rfl (by as_aux_lemma => kernel_rfl) (by as_aux_lemma => kernel_rfl) (by as_aux_lemma => kernel_rfl) (fun _ _ _ h => h) (Or.inl ⟨by as_aux_lemma => kernel_rfl, fun W hS => by have z0 := hS.1.cell 0; simp at z0; clear hS hHeld; as_aux_lemma => go_simp⟩) hHeld ?_
    try simp only [Act.put, List.setIfInBounds_toArray, List.set_cons_zero, List.set_cons_succ]
    refine wpAnyH_take (i := 4) (v := .pointer (some ⟨M, 0, none⟩)) rfl (by as_aux_lemma => kernel_rfl) (by as_aux_lemma => kernel_rfl) (by as_aux_lemma => kernel_rfl) (fun _ _ _ h => h) (Or.inl ⟨by as_aux_lemma => kernel_rfl, fun W hS => by clear hS hHeld; as_aux_lemma => go_simp⟩) hHeld ?_
    try simp only [Act.put, List.setIfInBounds_toArray, List.set_cons_zero, List.set_cons_succ]
    refine wpAnyH_take (i := 5) (v := .int .u64 id) rfl (by as_aux_lemma => kernel_rfl) (by as_aux_lemma => kernel_rfl) (by as_aux_lemma => kernel_rfl) (fun _ _ _ h => h) (Or.inl ⟨by as_aux_lemma => kernel_rfl, fun W hS => by clear hS hHeld; as_aux_lemma => go_simp⟩) hHeld ?_
    try simp only [Act.put, List.setIfInBounds_toArray, List.set_cons_zero, List.set_cons_succ]
    refine wpAnyH_take (i := 9) (v := .int .u64 id) rfl (by as_aux_lemma => kernel_rfl) (by as_aux_lemma => kernel_rfl) (by as_aux_lemma => kernel_rfl) (fun _ _ _ h => h) (Or.inl ⟨by as_aux_lemma => kernel_rfl, fun W hS => by clear hS hHeld; as_aux_lemma => go_simp⟩) hHeld ?_
    try simp only [Act.put, List.setIfInBounds_toArray, List.set_cons_zero, List.set_cons_succ]
    refine wpAnyH_take (i := 10) (v := .agg #[.int .i64 r1, .int .i64 r2]) rfl (by as_aux_lemma => kernel_rfl) (by as_aux_lemma => kernel_rfl) (by as_aux_lemma => kernel_rfl) (fun _ _ _ h => h) (Or.inl ⟨by as_aux_lemma => kernel_rfl, fun W hS => by obtain ⟨z0, z1⟩ := cell2s hS.2.2; clear hS hHeld; as_aux_lemma => go_simp⟩) hHeld ?_
    try simp only [Act.put, List.setIfInBounds_toArray, List.set_cons_zero, List.set_cons_succ]
    refine wpAnyH_ready (rs := [6]) (by as_aux_lemma => kernel_rfl) (by simp) ?_
    refine AllReadyH.cons rfl (fun K hK => ?_) AllReadyH.nil
    try simp only [Act.put, List.setIfInBounds_toArray, List.set_cons_zero, List.set_cons_succ]
    go_simp
    go_at_call 16
    refine (HSh.out _ H2.out).mono ?_
    rintro e wl2 ⟨rfl, hbl⟩
    replace H2 := hide (H2.out.below hbl)
    replace HB2 := hide (Below.step HB2.out hbl)
    refine hK.out _ _ (hHeld.step hbl) (fun hHeld2 => ?_)
    clear hK K hHeld
    have hHeld := hHeld2
    clear hHeld2
    try simp only [Act.put, List.setIfInBounds_toArray, List.set_cons_zero, List.set_cons_succ]
    clear hbl
    refine wpAnyH_take (i := 7) (v := .pointer (some ⟨g, s, none⟩)) rfl (by as_aux_lemma => kernel_rfl) (by as_aux_lemma => kernel_rfl) (by as_aux_lemma => kernel_rfl) (fun _ _ _ h => h) (Or.inl ⟨by as_aux_lemma => kernel_rfl, fun W hS => by clear hS hHeld; as_aux_lemma => go_simp⟩) hHeld ?_
    try simp only [Act.put, List.setIfInBounds_toArray, List.set_cons_zero, List.set_cons_succ]
    refine wpAnyH_take (i := 8) (v := .map (some hh)) rfl (by as_aux_lemma => kernel_rfl) (by as_aux_lemma => kernel_rfl) (by as_aux_lemma => kernel_rfl) (fun _ _ _ h => h) (Or.inl ⟨by as_aux_lemma => kernel_rfl, fun W hS => by have z0 := (hS.2.1.cell s).trans Hgc.out; clear hS hHeld; as_aux_lemma => go_simp⟩) hHeld ?_
    try simp only [Act.put, List.setIfInBounds_toArray, List.set_cons_zero, List.set_cons_succ]
    refine wpAnyH_ready (rs := [11]) (by as_aux_lemma => kernel_rfl) (by simp) ?_
    refine AllReadyH.cons rfl (fun K hK => ?_) AllReadyH.nil
    obtain ⟨w3, L, h3, hP⟩ := HPt.out _ H2.out
    have hne := Hne.out _ H2.out
    have HT3 := hide (TurnI.of_put (M := M) hP Hhm.out)
    try simp only [Act.put, List.setIfInBounds_toArray, List.set_cons_zero, List.set_cons_succ]
    go_simp
    refine hK.out _ _ (hHeld.put hP hne.1 hne.2 Hbx.out) (fun hHeld2 => ?_)
    clear hK K hHeld
    have hHeld := hHeld2
    clear hHeld2
    have H3 := hide h3
    clear h3 hP L hne
    try simp only [Act.put, List.setIfInBounds_toArray, List.set_cons_zero, List.set_cons_succ]
    refine wpAnyH_done (by as_aux_lemma => kernel_rfl) ?_ _
    obtain ⟨z0, z1⟩ := cell2s hHeld.1
    have f1 := hHeld.1.frozen 1
    clear hHeld
    go_wp2
    go_ret
    exact ⟨rfl, H3.out.ver_ (ver + 1), ((TurnI.of_below HB2.out).trans HT3.out).trans (TurnI.of_ver _)⟩
  · rw [hb] at HG
    simp only [if_true]
    unfold encR at HG
    clear h hq hb hw
    go_enter Try.func9, Try.ntmps9
    go_wp2_with (go_at_call 12; refine (HG.out _ H1.out).mono ?_; rintro e w2 ⟨rfl, hb2⟩; have H2 := hide (H1.out.below hb2); have HB2 := hide (Below.step HB1.out hb2); clear hb2)
    go_ret
    have hb3 := below1 w2 (.cells #[.int .i64 q1, .int .i64 q2] 35)
    exact ⟨rfl, H2.out.below hb3, TurnI.of_below (Below.step HB2.out hb3)⟩
set_option maxHeartbeats 1000000 in
theorem put_nil (id r1 r2 : Int) (w : World) : Calls Try.prog 9 #[.pointer none, .int .u64 id, .agg #[.int .i64 r1, .int .i64 r2]] w fun e w' => e = .returned (.bool false) ∧ Below w.heap.size w w' := by
  have HB1 := hide (below1 w (.cells #[.int .i64 r1, .int .i64 r2] 35))
  have HG := hide (fun W => get_nil id W)
  unfold encR zR at HG
  go_enter Try.func9, Try.ntmps9
  go_wp2_with (go_at_call 12; refine (HG.out _).mono ?_; rintro e w2 ⟨rfl, hb2⟩; have HB2 := hide (Below.step HB1.out hb2); clear hb2)
  go_ret
  exact ⟨rfl, Below.step HB2.out (below1 _ _)⟩
end
end Go.Proofs.Ytoadcfjkommlkaa
