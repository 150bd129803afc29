/-
  The package idmap: Get. Conditions: the blocks lie as said.
-/
import Derived.Test.YtoadcfjkommlkaaIdmA
import Derived.Test.YtoadcfjkommlkaaTake
namespace Go.Proofs.Ytoadcfjkommlkaa
open Go.RowKit

def zR : RefV := (0, 0)
/-- what an id has -/
def getF (n : Nat) (ms : List (List (Int × RefV))) (id : Int) : Option RefV := (ms[shardF n id]?).bind fun l => lookF l id
theorem zeroRef (u : World) : (zeroValue 35).run Try.prog u = .ok (encR zR) u := Try.zeroValue35 u
theorem IdAt.lookOk {w : World} {B M g : Nat} {hs : List Nat} {ms : List (List (Int × RefV))} {ver : Int} (h : IdAt w B M g hs ms ver) {id : Int} (hw : (Lit.int .u64 id).wf = true) {hh : Nat} (hi : hs[shardF hs.length id]? = some hh) :
    (Instr.lookup 60 (.map (some hh)) (.int .u64 id) true).run Try.prog w = .ok (.tuple #[encR ((getF hs.length ms id).getD zR), .bool (getF hs.length ms id).isSome]) w := by
  obtain ⟨hh', l, h1, h2, h3⟩ := h.at_ id
  rw [hi] at h1
  injection h1 with h1
  subst h1
  have k := MapA.lookOk (P := Try.prog) h3 Try.underlying33 Try.underlying60 zeroRef hw
  rw [k]
  unfold getF
  rw [h2]
  rfl
theorem cell2s {w : World} {g : Nat} {t : TypeId} {a b : Value} (h : Blk w g t #[a, b]) : w.cell? ⟨g, 0, none⟩ = some a ∧ w.cell? ⟨g, 1, none⟩ = some b := ⟨by rw [h.cell]; rfl, by rw [h.cell]; rfl⟩
theorem ref_stored {w0 w1 : World} {R : Nat} {a b : Value} (h : Blk w1 R 35 #[a, b]) (hb : Below w0.heap.size w0 w1) (hR : w0.heap.size ≤ R) (s t : Int) :
    Blk ((w1.setCell ⟨R, 0, none⟩ (.int .i64 s)).setCell ⟨R, 1, none⟩ (.int .i64 t)) R 35 #[.int .i64 s, .int .i64 t] ∧ Below w0.heap.size w0 ((w1.setCell ⟨R, 0, none⟩ (.int .i64 s)).setCell ⟨R, 1, none⟩ (.int .i64 t)) :=
  ⟨(h.set_ 0 (.int .i64 s)).set_ 1 (.int .i64 t), (hb.setCell hR _).setCell hR _⟩
section
variable {w : World} {B M g : Nat} {hs : List Nat} {ms : List (List (Int × RefV))} {ver : Int}
set_option maxHeartbeats 4000000 in
theorem get_any (h : IdAt w B M g hs ms ver) {id : Int} (hw : (Lit.int .u64 id).wf = true) : Calls Try.prog 12 #[.pointer (some ⟨M, 0, none⟩), .int .u64 id] w fun e w' => e = .returned (.tuple #[encR ((getF hs.length ms id).getD zR), .bool (getF hs.length ms id).isSome]) ∧ Below w.heap.size w w' := by
  obtain ⟨hh, hi⟩ : ∃ hh, hs[shardF hs.length id]? = some hh := by
    obtain ⟨hh, l, hi, _⟩ := h.at_ id
    exact ⟨hh, hi⟩
  have hlt := shardF_lt h.n0 id
  have hn1 := h.n1
  obtain ⟨⟨r1, r2⟩, hr⟩ : ∃ r, (getF hs.length ms id).getD zR = r := ⟨_, rfl⟩
  obtain ⟨b, hb⟩ : ∃ b, (getF hs.length ms id).isSome = b := ⟨_, rfl⟩
  have HL := hide (fun W (hS : IdAt W B M g hs ms ver) => hS.lookOk hw hi)
  have HSh := hide (fun W (hS : IdAt W B M g hs ms ver) => shard_any hS id)
  have Hc := hide (fun W (hS : IdAt W B M g hs ms ver) => hS.cells)
  have Hg := hide (fun W (hS : IdAt W B M g hs ms ver) => hS.gcell hi)
  rw [hr, hb] at HL ⊢
  have H := hide h
  generalize shardF hs.length id = s at *
  have HLn := hide (show ∀ W, IdAt W B M g hs ms ver → IdAt W B M g hs ms ver from fun _ h => h)
  obtain ⟨n, hn⟩ : ∃ n, hs.length = n := ⟨_, rfl⟩
  rw [hn] at Hc hlt hn1
  have s0 : (0 : Int) ≤ s := by omega
  have s1 : (s : Int) < n := by omega
  have HN0 := hide (Blk.new w 35 #[.int .i64 0, .int .i64 0])
  have HB0 := hide (below1 w (.cells #[.int .i64 0, .int .i64 0] 35))
  unfold encR at *
  clear h hi hr hb hn hw
  go_enter Try.func12, Try.ntmps12
  go_upto_region 3 with fail
  generalize World.alloc w _ = w1 at *
  refine wp_region_held_drew (S := fun W => Below w.heap.size w W ∧ Blk W w.heap.size 35 #[.int .i64 0, .int .i64 0]) (by as_aux_lemma => kernel_rfl) ⟨HB0.out.drew, HN0.out.drew⟩ (fun hHeld => ?_)
  clear HB0 HN0
  generalize World.drew _ = wl1 at *
  refine wpAnyH_puts [(0, 12)] [(12, .pointer (some ⟨M, 0, none⟩))] [0] 1 rfl (by as_aux_lemma => kernel_rfl) (by as_aux_lemma => kernel_rfl) (fun _ _ _ _ _ h => h) hHeld ?_
  simp only [putsOf, listsOf, List.setIfInBounds_toArray, List.set_cons_zero, List.set_cons_succ]
  refine wpAnyH_take (i := 1) (v := .pointer (some ⟨M, 0, none⟩)) rfl (by as_aux_lemma => kernel_rfl) (by as_aux_lemma => kernel_rfl) (by as_aux_lemma => kernel_rfl) (fun _ _ _ h => h) (Or.inl ⟨by as_aux_lemma => kernel_rfl, fun W hS => by clear hS hHeld; as_aux_lemma => go_simp⟩) hHeld ?_
  try simp only [Act.put, List.setIfInBounds_toArray, List.set_cons_zero, List.set_cons_succ, List.getElem_toArray, List.getElem_cons_zero, List.getElem_cons_succ]
  refine wpAnyH_take (i := 2) (v := .pointer (some ⟨M, 0, none⟩)) rfl (by as_aux_lemma => kernel_rfl) (by as_aux_lemma => kernel_rfl) (by as_aux_lemma => kernel_rfl) (fun _ _ _ h => h) (Or.inl ⟨by as_aux_lemma => kernel_rfl, fun W hS => by clear hS hHeld; as_aux_lemma => go_simp⟩) hHeld ?_
  try simp only [Act.put, List.setIfInBounds_toArray, List.set_cons_zero, List.set_cons_succ, List.getElem_toArray, List.getElem_cons_zero, List.getElem_cons_succ]
  refine wpAnyH_take (i := 3) (v := .slice (some ⟨g, 0, none⟩) n n) rfl (by as_aux_lemma => kernel_rfl) (by as_aux_lemma => kernel_rfl) (by as_aux_lemma => kernel_rfl) (fun _ _ _ h => h) (Or.inl ⟨by as_aux_lemma => kernel_rfl, fun W hS => by obtain ⟨z0, z1⟩ := Hc.out W (H.out.below hS.1); clear hS hHeld; as_aux_lemma => go_simp⟩) hHeld ?_
  try simp only [Act.put, List.setIfInBounds_toArray, List.set_cons_zero, List.set_cons_succ, List.getElem_toArray, List.getElem_cons_zero, List.getElem_cons_succ]
  refine wpAnyH_puts [(4, 16), (5, 17), (9, 21)] [(16, .pointer (some ⟨M, 0, none⟩)), (17, .int .u64 id), (21, .int .u64 id)] [4, 5, 9] 3 rfl (by as_aux_lemma => kernel_rfl) (by as_aux_lemma => kernel_rfl) (fun _ _ _ _ _ h => h) hHeld ?_
  simp only [putsOf, listsOf, List.setIfInBounds_toArray, List.set_cons_zero, List.set_cons_succ]
  refine wpAnyH_ready (rs := [6, 14]) (by as_aux_lemma => kernel_rfl) (by simp) ?_
  refine AllReadyH.cons rfl (fun K hK => ?_) ?_
  · try simp only [Act.put, List.setIfInBounds_toArray, List.set_cons_zero, List.set_cons_succ, List.getElem_toArray, List.getElem_cons_zero, List.getElem_cons_succ]
    go_simp
    go_at_call 16
    refine (HSh.out _ (H.out.below hHeld.1)).mono ?_
    rintro e wl2 ⟨rfl, hbl⟩
    have hbl2 := hbl
    refine hK.out _ _ ⟨Below.step hHeld.1 hbl, hHeld.2.below hbl hHeld.2.lt⟩ (fun hHeld2 => ?_)
    clear hK K hHeld
    have hHeld := hHeld2
    clear hHeld2
    try simp only [Act.put, List.setIfInBounds_toArray, List.set_cons_zero, List.set_cons_succ, List.getElem_toArray, List.getElem_cons_zero, List.getElem_cons_succ]
    clear hbl hbl2
    refine wpAnyH_take (i := 7) (v := .pointer (some ⟨g, s, none⟩)) rfl (by as_aux_lemma => kernel_rfl) (by as_aux_lemma => kernel_rfl) (by as_aux_lemma => kernel_rfl) (fun _ _ _ h => h) (Or.inl ⟨by as_aux_lemma => kernel_rfl, fun W hS => by clear hS hHeld; as_aux_lemma => go_simp⟩) hHeld ?_
    try simp only [Act.put, List.setIfInBounds_toArray, List.set_cons_zero, List.set_cons_succ, List.getElem_toArray, List.getElem_cons_zero, List.getElem_cons_succ]
    refine wpAnyH_take (i := 8) (v := .map (some hh)) rfl (by as_aux_lemma => kernel_rfl) (by as_aux_lemma => kernel_rfl) (by as_aux_lemma => kernel_rfl) (fun _ _ _ h => h) (Or.inl ⟨by as_aux_lemma => kernel_rfl, fun W hS => by have z0 := Hg.out W (H.out.below hS.1); clear hS hHeld; as_aux_lemma => go_simp⟩) hHeld ?_
    try simp only [Act.put, List.setIfInBounds_toArray, List.set_cons_zero, List.set_cons_succ, List.getElem_toArray, List.getElem_cons_zero, List.getElem_cons_succ]
    refine wpAnyH_take (i := 10) (v := .tuple #[.agg #[.int .i64 r1, .int .i64 r2], .bool b]) rfl (by as_aux_lemma => kernel_rfl) (by as_aux_lemma => kernel_rfl) (by as_aux_lemma => kernel_rfl) (fun _ _ _ h => h) (Or.inl ⟨by as_aux_lemma => kernel_rfl, fun W hS => by have z0 := HL.out W (H.out.below hS.1); clear hS hHeld; as_aux_lemma => go_simp⟩) hHeld ?_
    try simp only [Act.put, List.setIfInBounds_toArray, List.set_cons_zero, List.set_cons_succ, List.getElem_toArray, List.getElem_cons_zero, List.getElem_cons_succ]
    refine wpAnyH_puts [(11, 11)] [(11, .tuple #[.agg #[.int .i64 r1, .int .i64 r2], .bool b])] [11] 1 rfl (by as_aux_lemma => kernel_rfl) (by as_aux_lemma => kernel_rfl) (fun _ _ _ _ _ h => h) hHeld ?_
    simp only [putsOf, listsOf, List.setIfInBounds_toArray, List.set_cons_zero, List.set_cons_succ]
    refine wpAnyH_take (i := 12) (v := .agg #[.int .i64 r1, .int .i64 r2]) rfl (by as_aux_lemma => kernel_rfl) (by as_aux_lemma => kernel_rfl) (by as_aux_lemma => kernel_rfl) (fun _ _ _ h => h) (Or.inl ⟨by as_aux_lemma => kernel_rfl, fun W hS => by clear hS hHeld; as_aux_lemma => go_simp⟩) hHeld ?_
    try simp only [Act.put, List.setIfInBounds_toArray, List.set_cons_zero, List.set_cons_succ, List.getElem_toArray, List.getElem_cons_zero, List.getElem_cons_succ]
    refine wpAnyH_take (i := 13) (v := .bool b) rfl (by as_aux_lemma => kernel_rfl) (by as_aux_lemma => kernel_rfl) (by as_aux_lemma => kernel_rfl) (fun _ _ _ h => h) (Or.inl ⟨by as_aux_lemma => kernel_rfl, fun W hS => by clear hS hHeld; as_aux_lemma => go_simp⟩) hHeld ?_
    try simp only [Act.put, List.setIfInBounds_toArray, List.set_cons_zero, List.set_cons_succ, List.getElem_toArray, List.getElem_cons_zero, List.getElem_cons_succ]
    refine wpAnyH_ready (rs := [14]) (by as_aux_lemma => kernel_rfl) (by simp) ?_
    refine AllReadyH.cons rfl (fun K hK => ?_) AllReadyH.nil
    have HZ := hide (show w.heap.size < wl2.heap.size from hHeld.2.lt)
    try simp only [Act.put, List.setIfInBounds_toArray, List.set_cons_zero, List.set_cons_succ, List.getElem_toArray, List.getElem_cons_zero, List.getElem_cons_succ]
    go_simp
    refine hK.out _ _ ⟨hHeld.1.alloc hHeld.1.size _, hHeld.2.alloc _⟩ (fun hHeld2 => ?_)
    clear hK K hHeld
    have hHeld := hHeld2
    clear hHeld2
    try simp only [Act.put, List.setIfInBounds_toArray, List.set_cons_zero, List.set_cons_succ, List.getElem_toArray, List.getElem_cons_zero, List.getElem_cons_succ]
    have HN := hide (Blk.new wl2 35 #[.int .i64 0, .int .i64 0])
    have Hq := hide (show w.heap.size < wl2.heap.size from HZ.out)
    generalize World.alloc wl2 _ = wl3 at *
    generalize wl2.heap.size = q at *
    refine wpAnyH_ready (rs := [15]) (by as_aux_lemma => kernel_rfl) (by simp) ?_
    refine AllReadyH.cons rfl (fun K hK => ?_) AllReadyH.nil
    obtain ⟨z0, z1⟩ := cell2s HN.out
    have f0 := HN.out.frozen 0
    have f1 := HN.out.frozen 1
    try simp only [Act.put, List.setIfInBounds_toArray, List.set_cons_zero, List.set_cons_succ, List.getElem_toArray, List.getElem_cons_zero, List.getElem_cons_succ]
    go_simp
    have hst := ref_stored HN.out hHeld.1 (by have := Hq.out; omega) r1 r2
    refine hK.out _ _ ⟨hst.2, (hHeld.2.far (p := ⟨q, 0, none⟩) (by have := Hq.out; show w.heap.size ≠ q; omega) _).far (p := ⟨q, 1, none⟩) (by have := Hq.out; show w.heap.size ≠ q; omega) _⟩ (fun hHeld2 => ?_)
    clear hK K hHeld
    have hHeld := hHeld2
    clear hHeld2
    try simp only [Act.put, List.setIfInBounds_toArray, List.set_cons_zero, List.set_cons_succ, List.getElem_toArray, List.getElem_cons_zero, List.getElem_cons_succ]
    refine wpAnyH_puts [(16, 7)] [(7, .bool b)] [16] 1 rfl (by as_aux_lemma => kernel_rfl) (by as_aux_lemma => kernel_rfl) (fun _ _ _ _ _ h => h) hHeld ?_
    simp only [putsOf, listsOf, List.setIfInBounds_toArray, List.set_cons_zero, List.set_cons_succ]
    refine wpAnyH_done (by as_aux_lemma => kernel_rfl) ?_ _
    have HNs := hide hst.1
    clear hst z0 z1 f0 f1
    generalize World.setCell (World.setCell _ _ _) _ _ = w9 at HNs hHeld ⊢
    obtain ⟨z0, z1⟩ := cell2s HNs.out
    obtain ⟨y0, y1⟩ := cell2s hHeld.2
    have f0 := hHeld.2.frozen 0
    have f1 := hHeld.2.frozen 1
    have HF := hide hHeld
    clear hHeld
    go_wp2
    obtain ⟨q, hb⟩ := ref_stored HF.out.2 HF.out.1 (Nat.le_refl _) r1 r2
    have q0 := q.cell 0
    have q1 := q.cell 1
    simp at q0 q1
    exact bodyPost_ret (v := .tuple #[.agg #[.int .i64 r1, .int .i64 r2], .bool b]) (by simp [results, Try.results12, go_sem, q0, q1]) rfl ⟨rfl, hb⟩
  refine AllReadyH.cons rfl (fun K hK => ?_) AllReadyH.nil
  have HZ := hide (show w.heap.size < wl1.heap.size from hHeld.2.lt)
  try simp only [Act.put, List.setIfInBounds_toArray, List.set_cons_zero, List.set_cons_succ, List.getElem_toArray, List.getElem_cons_zero, List.getElem_cons_succ]
  go_simp
  refine hK.out _ _ ⟨hHeld.1.alloc hHeld.1.size _, hHeld.2.alloc _⟩ (fun hHeld2 => ?_)
  clear hK K hHeld
  have hHeld := hHeld2
  clear hHeld2
  try simp only [Act.put, List.setIfInBounds_toArray, List.set_cons_zero, List.set_cons_succ, List.getElem_toArray, List.getElem_cons_zero, List.getElem_cons_succ]
  have HN := hide (Blk.new wl1 35 #[.int .i64 0, .int .i64 0])
  have Hq := hide (show w.heap.size < wl1.heap.size from HZ.out)
  generalize World.alloc wl1 _ = wl4 at *
  generalize wl1.heap.size = q at *
  refine wpAnyH_ready (rs := [6]) (by as_aux_lemma => kernel_rfl) (by simp) ?_
  refine AllReadyH.cons rfl (fun K hK => ?_) AllReadyH.nil
  try simp only [Act.put, List.setIfInBounds_toArray, List.set_cons_zero, List.set_cons_succ, List.getElem_toArray, List.getElem_cons_zero, List.getElem_cons_succ]
  go_simp
  go_at_call 16
  refine (HSh.out _ (H.out.below hHeld.1)).mono ?_
  rintro e wl5 ⟨rfl, hbl⟩
  have hbl2 := hbl
  replace HN := hide (HN.out.below hbl HN.out.lt)
  refine hK.out _ _ ⟨Below.step hHeld.1 hbl, hHeld.2.below hbl hHeld.2.lt⟩ (fun hHeld2 => ?_)
  clear hK K hHeld
  have hHeld := hHeld2
  clear hHeld2
  try simp only [Act.put, List.setIfInBounds_toArray, List.set_cons_zero, List.set_cons_succ, List.getElem_toArray, List.getElem_cons_zero, List.getElem_cons_succ]
  clear hbl hbl2
  refine wpAnyH_take (i := 7) (v := .pointer (some ⟨g, s, none⟩)) rfl (by as_aux_lemma => kernel_rfl) (by as_aux_lemma => kernel_rfl) (by as_aux_lemma => kernel_rfl) (fun _ _ _ h => h) (Or.inl ⟨by as_aux_lemma => kernel_rfl, fun W hS => by clear hS hHeld; as_aux_lemma => go_simp⟩) hHeld ?_
  try simp only [Act.put, List.setIfInBounds_toArray, List.set_cons_zero, List.set_cons_succ, List.getElem_toArray, List.getElem_cons_zero, List.getElem_cons_succ]
  refine wpAnyH_take (i := 8) (v := .map (some hh)) rfl (by as_aux_lemma => kernel_rfl) (by as_aux_lemma => kernel_rfl) (by as_aux_lemma => kernel_rfl) (fun _ _ _ h => h) (Or.inl ⟨by as_aux_lemma => kernel_rfl, fun W hS => by have z0 := Hg.out W (H.out.below hS.1); clear hS hHeld; as_aux_lemma => go_simp⟩) hHeld ?_
  try simp only [Act.put, List.setIfInBounds_toArray, List.set_cons_zero, List.set_cons_succ, List.getElem_toArray, List.getElem_cons_zero, List.getElem_cons_succ]
  refine wpAnyH_take (i := 10) (v := .tuple #[.agg #[.int .i64 r1, .int .i64 r2], .bool b]) rfl (by as_aux_lemma => kernel_rfl) (by as_aux_lemma => kernel_rfl) (by as_aux_lemma => kernel_rfl) (fun _ _ _ h => h) (Or.inl ⟨by as_aux_lemma => kernel_rfl, fun W hS => by have z0 := HL.out W (H.out.below hS.1); clear hS hHeld; as_aux_lemma => go_simp⟩) hHeld ?_
  try simp only [Act.put, List.setIfInBounds_toArray, List.set_cons_zero, List.set_cons_succ, List.getElem_toArray, List.getElem_cons_zero, List.getElem_cons_succ]
  refine wpAnyH_puts [(11, 11)] [(11, .tuple #[.agg #[.int .i64 r1, .int .i64 r2], .bool b])] [11] 1 rfl (by as_aux_lemma => kernel_rfl) (by as_aux_lemma => kernel_rfl) (fun _ _ _ _ _ h => h) hHeld ?_
  simp only [putsOf, listsOf, List.setIfInBounds_toArray, List.set_cons_zero, List.set_cons_succ]
  refine wpAnyH_take (i := 12) (v := .agg #[.int .i64 r1, .int .i64 r2]) rfl (by as_aux_lemma => kernel_rfl) (by as_aux_lemma => kernel_rfl) (by as_aux_lemma => kernel_rfl) (fun _ _ _ h => h) (Or.inl ⟨by as_aux_lemma => kernel_rfl, fun W hS => by clear hS hHeld; as_aux_lemma => go_simp⟩) hHeld ?_
  try simp only [Act.put, List.setIfInBounds_toArray, List.set_cons_zero, List.set_cons_succ, List.getElem_toArray, List.getElem_cons_zero, List.getElem_cons_succ]
  refine wpAnyH_take (i := 13) (v := .bool b) rfl (by as_aux_lemma => kernel_rfl) (by as_aux_lemma => kernel_rfl) (by as_aux_lemma => kernel_rfl) (fun _ _ _ h => h) (Or.inl ⟨by as_aux_lemma => kernel_rfl, fun W hS => by clear hS hHeld; as_aux_lemma => go_simp⟩) hHeld ?_
  try simp only [Act.put, List.setIfInBounds_toArray, List.set_cons_zero, List.set_cons_succ, List.getElem_toArray, List.getElem_cons_zero, List.getElem_cons_succ]
  refine wpAnyH_ready (rs := [15]) (by as_aux_lemma => kernel_rfl) (by simp) ?_
  refine AllReadyH.cons rfl (fun K hK => ?_) AllReadyH.nil
  obtain ⟨z0, z1⟩ := cell2s HN.out
  have f0 := HN.out.frozen 0
  have f1 := HN.out.frozen 1
  try simp only [Act.put, List.setIfInBounds_toArray, List.set_cons_zero, List.set_cons_succ, List.getElem_toArray, List.getElem_cons_zero, List.getElem_cons_succ]
  go_simp
  have hst := ref_stored HN.out hHeld.1 (by have := Hq.out; omega) r1 r2
  refine hK.out _ _ ⟨hst.2, (hHeld.2.far (p := ⟨q, 0, none⟩) (by have := Hq.out; show w.heap.size ≠ q; omega) _).far (p := ⟨q, 1, none⟩) (by have := Hq.out; show w.heap.size ≠ q; omega) _⟩ (fun hHeld2 => ?_)
  clear hK K hHeld
  have hHeld := hHeld2
  clear hHeld2
  try simp only [Act.put, List.setIfInBounds_toArray, List.set_cons_zero, List.set_cons_succ, List.getElem_toArray, List.getElem_cons_zero, List.getElem_cons_succ]
  refine wpAnyH_puts [(16, 7)] [(7, .bool b)] [16] 1 rfl (by as_aux_lemma => kernel_rfl) (by as_aux_lemma => kernel_rfl) (fun _ _ _ _ _ h => h) hHeld ?_
  simp only [putsOf, listsOf, List.setIfInBounds_toArray, List.set_cons_zero, List.set_cons_succ]
  refine wpAnyH_done (by as_aux_lemma => kernel_rfl) ?_ _
  have HNs := hide hst.1
  clear hst z0 z1 f0 f1
  generalize World.setCell (World.setCell _ _ _) _ _ = w9 at HNs hHeld ⊢
  obtain ⟨z0, z1⟩ := cell2s HNs.out
  obtain ⟨y0, y1⟩ := cell2s hHeld.2
  have f0 := hHeld.2.frozen 0
  have f1 := hHeld.2.frozen 1
  have HF := hide hHeld
  clear hHeld
  go_wp2
  obtain ⟨q, hb⟩ := ref_stored HF.out.2 HF.out.1 (Nat.le_refl _) r1 r2
  have q0 := q.cell 0
  have q1 := q.cell 1
  simp at q0 q1
  exact bodyPost_ret (v := .tuple #[.agg #[.int .i64 r1, .int .i64 r2], .bool b]) (by simp [results, Try.results12, go_sem, q0, q1]) rfl ⟨rfl, hb⟩
set_option maxHeartbeats 1000000 in
theorem get_nil (id : Int) (w : World) : Calls Try.prog 12 #[.pointer none, .int .u64 id] w fun e w' => e = .returned (.tuple #[encR zR, .bool false]) ∧ Below w.heap.size w w' := by
  go_enter Try.func12, Try.ntmps12
  go_wp2
  exact bodyPost_ret (v := .tuple #[encR zR, .bool false]) (by simp [results, Try.results12, go_sem, encR, zR]) rfl ⟨rfl, below1 _ _⟩
end
end Go.Proofs.Ytoadcfjkommlkaa
