/-
  lives of the law's package. No condition.
-/
import Derived.Test.YtknljldmjicfgaeQueN
import Derived.Test.YtknljldmjicfgaeTake
namespace Go.Proofs.Ytknljldmjicfgae
set_option linter.unusedSimpArgs false
set_option linter.unusedVariables false
open Go.RowKit

def sA : Spt := ((0, 0), 1)
def sB : Spt := ((0, 0), 2)
def sC : Spt := ((0, 0), 3)
theorem srtS_is {l m : List Spt} (h : m.Perm l) (hp : m.Pairwise fun a b => sptLt b a = false) : srtS l = m := (srtS_eq h hp).symm
theorem lq1 : srtS ([] ++ [sB]) = [sB] := srtS_is (by decide) (by decide)
theorem lq2 : srtS ([sB] ++ [sA]) = [sA, sB] := srtS_is (by decide) (by decide)
theorem lq3 : srtS ([sA, sB] ++ [sA]) = [sA, sA, sB] := srtS_is (by decide) (by decide)
theorem lb1 : offR 2 [] sC = ([sC], true) := by
  unfold offR
  rw [if_neg (by simp), srtS_is (l := [] ++ [sC]) (m := [sC]) (by decide) (by decide)]
  rfl
theorem lb2 : offR 2 [sC] sB = ([sB, sC], true) := by
  unfold offR
  rw [if_neg (by simp), srtS_is (l := [sC] ++ [sB]) (m := [sB, sC]) (by decide) (by decide)]
  rfl
theorem lb3 : offR 2 [sB, sC] sA = ([sA, sB], true) := by
  unfold offR
  rw [if_neg (by decide), srtS_is (l := [sB, sC] ++ [sA]) (m := [sA, sB, sC]) (by decide) (by decide)]
  rfl
theorem lb4 : offR 2 [sA, sB] sC = ([sA, sB], false) := by
  unfold offR
  rw [if_pos (by decide)]
theorem cell3s {w : World} {g : Nat} {t : TypeId} {a b c : Value} (h : Blk w g t #[a, b, c]) : w.cell? ⟨g, 0, none⟩ = some a ∧ w.cell? ⟨g, 1, none⟩ = some b ∧ w.cell? ⟨g, 2, none⟩ = some c :=
  ⟨by rw [h.cell]; rfl, by rw [h.cell]; rfl, by rw [h.cell]; rfl⟩
theorem twoS {w : World} {g : Nat} (h : Blk w g 33 #[.int .u64 0, .int .u64 0, .int .i64 1, .int .u64 0, .int .u64 0, .int .i64 2]) : Rd SP w w.heap.size (some ⟨g, 0, none⟩) [sA, sB] := flatS.blk h rfl
theorem lv_start {w3 w4 w5 w6 : World} {Q Q2 Q3 : Nat} (hq : QAt w4 w3.heap.size Q (.slice none 0 0) []) (h4 : Below w3.heap.size w3 w4) (hb : BAt w5 w4.heap.size Q2 2 (.slice none 0 0) []) (h5 : Below w4.heap.size w4 w5) (hc : BAt w6 w5.heap.size Q3 0 (.slice none 0 0) []) (h6 : Below w5.heap.size w5 w6) : LV w3 w6 Q Q2 Q3 [] [] [] := by
  have l1 := hq.lt
  have l2 := hb.lt
  have l3 := hb.hQ
  have l4 := hc.hQ
  have s4 := h4.size
  have s5 := h5.size
  have n : ∀ v : Value, Apart (.slice none 0 0) v := Apart.nil
  exact ⟨_, _, [], [], ⟨(hq.below h5).below h6, (hb.lower s4).below h6, hc.lower (Nat.le_trans s4 s5), Heap.nil, Heap.nil, Heap.nil, by omega, by omega, by omega, n _, n _, n _, Below.step (Below.step h4 h5) h6⟩, srtS_nil, srtS_nil, by simp, by simp, fun p hp => by simp at hp⟩
theorem qPop_nil0 (w : World) : Calls Try.prog 8 #[.pointer none] w fun e w' => e = .returned (.tuple #[.agg #[.int .u64 0, .int .u64 0, .int .i64 0], .bool false]) ∧ Below w.heap.size w w' := qPop_nil w
def S3 (gA gB gC : Nat) (W : World) : Prop := Blk W gA 33 #[.int .u64 0, .int .u64 0, .int .i64 1] ∧ Blk W gB 33 #[.int .u64 0, .int .u64 0, .int .i64 2] ∧ Blk W gC 33 #[.int .u64 0, .int .u64 0, .int .i64 3]
theorem LV.s3 {w3 W : World} {Q Q2 Q3 gA gB gC : Nat} {X Y : List Spt} {bx : List (Nat × Spt)} (ha : Blk w3 gA 33 #[.int .u64 0, .int .u64 0, .int .i64 1]) (hb : Blk w3 gB 33 #[.int .u64 0, .int .u64 0, .int .i64 2]) (hc : Blk w3 gC 33 #[.int .u64 0, .int .u64 0, .int .i64 3]) (h : LV w3 W Q Q2 Q3 X Y bx) : S3 gA gB gC W := ⟨h.spot ha, h.spot hb, h.spot hc⟩
noncomputable def ops16 : Array Oper := opsOf Try.f5 16
def KV (w3 : World) (Q Q2 Q3 gz gy gx : Nat) (W : World) : Prop := LV w3 W Q Q2 Q3 [sA, sB] [sA, sB] [(gz, ((0, 0), 2)), (gy, ((0, 0), 1)), (gx, ((0, 0), 1))]
section
variable {w3 W W' : World} {Q Q2 Q3 gz gy gx : Nat}
theorem KV.lv (h : KV w3 Q Q2 Q3 gz gy gx W) : LV w3 W Q Q2 Q3 [sA, sB] [sA, sB] [(gz, ((0, 0), 2)), (gy, ((0, 0), 1)), (gx, ((0, 0), 1))] := h
theorem KV.step (h : KV w3 Q Q2 Q3 gz gy gx W) (hb : Below W.heap.size W W') : KV w3 Q Q2 Q3 gz gy gx W' := LV.step h hb
theorem KV.spot (h : KV w3 Q Q2 Q3 gz gy gx W) {g : Nat} {t : TypeId} {cs : Array Value} (hg : Blk w3 g t cs) : Blk W g t cs := h.lv.spot hg
theorem KV.listAB (h : KV w3 Q Q2 Q3 gz gy gx W) : Calls Try.prog 19 #[.pointer (some ⟨Q2, 0, none⟩)] W fun e w' => ∃ A c, e = .returned (.slice A 2 c) ∧ 2 ≤ c ∧ c ≤ 9223372036854775807 ∧ Rd SP w' w'.heap.size A [sA, sB] ∧ Below W.heap.size W w' :=
  (lvList h.lv).mono fun e w' ⟨A, c, h1, h2, h3, h4, h5⟩ => ⟨A, c, h1, h2, h3, h4.rd fun b hb => hb.2, h5⟩
theorem KV.list0 (h : KV w3 Q Q2 Q3 gz gy gx W) : Calls Try.prog 19 #[.pointer (some ⟨Q3, 0, none⟩)] W fun e w' => ∃ A c, e = .returned (.slice A 0 c) ∧ Below W.heap.size W w' :=
  (lvList3 h.lv).mono fun e w' ⟨A, c, h1, h2, h3, h4, h5⟩ => ⟨A, c, h1, h5⟩
theorem KV.x (h : KV w3 Q Q2 Q3 gz gy gx W) : W.cell? ⟨gx, 0, none⟩ = some (.int .u64 0) ∧ W.cell? ⟨gx, 1, none⟩ = some (.int .u64 0) ∧ W.cell? ⟨gx, 2, none⟩ = some (.int .i64 1) := h.lv.cells (s := ((0, 0), 1)) (.tail _ (.tail _ (.head _)))
theorem KV.y (h : KV w3 Q Q2 Q3 gz gy gx W) : W.cell? ⟨gy, 0, none⟩ = some (.int .u64 0) ∧ W.cell? ⟨gy, 1, none⟩ = some (.int .u64 0) ∧ W.cell? ⟨gy, 2, none⟩ = some (.int .i64 1) := h.lv.cells (s := ((0, 0), 1)) (.tail _ (.head _))
theorem KV.z (h : KV w3 Q Q2 Q3 gz gy gx W) : W.cell? ⟨gz, 0, none⟩ = some (.int .u64 0) ∧ W.cell? ⟨gz, 1, none⟩ = some (.int .u64 0) ∧ W.cell? ⟨gz, 2, none⟩ = some (.int .i64 2) := h.lv.cells (s := ((0, 0), 2)) (.head _)
end
theorem lv_mono {w3 W : World} {Q Q2 Q3 : Nat} {X Y : List Spt} {bx bx' : List (Nat × Spt)} (h : LV w3 W Q Q2 Q3 X Y bx) (hs : ∀ p ∈ bx', p ∈ bx) : LV w3 W Q Q2 Q3 X Y bx' := by
  obtain ⟨v, v2, l, l2, h1, h2, h3, h4, h5, h6⟩ := h
  exact ⟨v, v2, l, l2, h1, h2, h3, h4, h5, fun p hp => h6 p (hs p hp)⟩
set_option maxHeartbeats 8000000 in
set_option maxRecDepth 100000 in
theorem lives_any (w : World) : Calls Try.prog 5 #[] w fun e w' => e = .returned (.bool true) ∧ Below w.heap.size w w' := by
  have he1 := run_eql_spot 0 0 1 0 0 1 (r := true) rfl
  have he2 := run_eql_spot 0 0 2 0 0 2 (r := true) rfl
  go_enter Try.func5, Try.ntmps5
  go_upto_region 2 with fail
  obtain ⟨kA, kB, kC, kW⟩ := blk3 w #[.int .u64 0, .int .u64 0, .int .i64 1] #[.int .u64 0, .int .u64 0, .int .i64 2] #[.int .u64 0, .int .u64 0, .int .i64 3] 33 33 33
  have HA := hide kA
  have HB := hide kB
  have HC := hide kC
  have HW := hide kW
  clear kA kB kC kW
  generalize World.alloc (World.alloc (World.alloc w _) _) _ = w3 at *
  generalize w.heap.size + 2 = gC at *
  generalize w.heap.size + 1 = gB at *
  generalize hgA : w.heap.size = gA at HA ⊢
  have HgA := hide hgA
  clear hgA
  obtain ⟨a0, a1, a2⟩ := cell3s HA.out
  obtain ⟨b0, b1, b2⟩ := cell3s HB.out
  go_upto_region 3 with (first
    | (go_at_call 6; refine (newQ_any _).mono ?_; rintro e w4 ⟨Q, rfl, hq, hb⟩; have HQ := hide hq; have HBq := hide hb; clear hq hb)
    | (go_at_call 7; with_reducible refine Calls.mono (newB_any 0 _) ?_; rintro e w6 ⟨Q3, rfl, hq, hb⟩; have HV := hide (lv_start HQ.out HBq.out HQ2.out HBb.out hq hb); clear hq hb HQ HBq HQ2 HBb)
    | (go_at_call 7; with_reducible refine Calls.mono (newB_any 2 _) ?_; rintro e w5 ⟨Q2, rfl, hq, hb⟩; have HQ2 := hide hq; have HBb := hide hb; clear hq hb))
  clear a0 a1 a2 b0 b1 b2
  obtain ⟨b0, b1, b2⟩ := cell3s (HV.out.spot HB.out)
  go_upto_region 6 with (go_at_call 9; refine (lvPush3 0 0 2 HV.out lq1 (by simp)).mono ?_; rintro e w7 ⟨rfl, hv⟩; have HV1 := hide hv; clear hv)
  clear b0 b1 b2
  clear HV
  have HV := HV1
  clear HV1
  obtain ⟨a0, a1, a2⟩ := cell3s (HV.out.spot HA.out)
  go_upto_region 7 with (go_at_call 9; refine (lvPush3 0 0 1 HV.out lq2 (by simp)).mono ?_; rintro e w8 ⟨rfl, hv⟩; have HV1 := hide hv; clear hv)
  clear a0 a1 a2
  clear HV
  have HV := HV1
  clear HV1
  obtain ⟨a0, a1, a2⟩ := cell3s (HV.out.spot HA.out)
  go_upto_region 8 with (go_at_call 9; refine (lvPush3 0 0 1 HV.out lq3 (by simp)).mono ?_; rintro e w9 ⟨rfl, hv⟩; have HV1 := hide hv; clear hv)
  clear a0 a1 a2
  clear HV
  have HV := HV1
  clear HV1
  go_upto_region 9 with (go_at_call 8; refine (lvPop3 0 0 1 HV.out).mono ?_; rintro e w10 ⟨rfl, hv⟩; have HV1 := hide hv; clear hv)
  have HV2 := hide (LV.box3 0 0 1 HV1.out)
  clear HV HV1
  have HV := HV2
  clear HV2
  generalize World.alloc w10 _ = w11 at *
  generalize w10.heap.size = gx at *
  go_upto_region 10 with (go_at_call 13; refine (lvPeek3 0 0 1 HV.out).mono ?_; rintro e w12 ⟨rfl, hv⟩; have HV1 := hide (HV.out.step hv); clear hv)
  have HV2 := hide (LV.box3 0 0 1 HV1.out)
  clear HV HV1
  have HV := HV2
  clear HV2
  generalize World.alloc w12 _ = w13 at *
  generalize w12.heap.size = gy at *
  refine wp_region_held_drew (S := S3 gA gB gC) (by as_aux_lemma => kernel_rfl) (LV.s3 HA.out HB.out HC.out (HV.out.step (Below.refl _ _).drew)) (fun hHeld => ?_)
  replace HV := hide (HV.out.step (Below.refl _ _).drew)
  generalize World.drew _ = wl1 at *
  refine wpAnyH_take (i := 0) (v := .pointer (some ⟨Q2, 0, none⟩)) rfl (by as_aux_lemma => kernel_rfl) (by as_aux_lemma => kernel_rfl) (by as_aux_lemma => kernel_rfl) (fun _ _ _ h => h) (Or.inl ⟨by as_aux_lemma => kernel_rfl, fun W hS => by clear hS hHeld; go_simp⟩) hHeld ?_
  try simp only [Act.put, List.setIfInBounds_toArray, List.set_cons_zero, List.set_cons_succ, List.getElem_toArray, List.getElem_cons_zero, List.getElem_cons_succ]
  refine wpAnyH_take (i := 1) (v := .agg #[.int .u64 0, .int .u64 0, .int .i64 3]) rfl (by as_aux_lemma => kernel_rfl) (by as_aux_lemma => kernel_rfl) (by as_aux_lemma => kernel_rfl) (fun _ _ _ h => h) (Or.inl ⟨by as_aux_lemma => kernel_rfl, fun W hS => by obtain ⟨z0, z1, z2⟩ := cell3s hS.2.2; clear hS hHeld; go_simp⟩) hHeld ?_
  try simp only [Act.put, List.setIfInBounds_toArray, List.set_cons_zero, List.set_cons_succ, List.getElem_toArray, List.getElem_cons_zero, List.getElem_cons_succ]
  refine wpAnyH_take (i := 3) (v := .pointer (some ⟨Q2, 0, none⟩)) rfl (by as_aux_lemma => kernel_rfl) (by as_aux_lemma => kernel_rfl) (by as_aux_lemma => kernel_rfl) (fun _ _ _ h => h) (Or.inl ⟨by as_aux_lemma => kernel_rfl, fun W hS => by clear hS hHeld; go_simp⟩) hHeld ?_
  try simp only [Act.put, List.setIfInBounds_toArray, List.set_cons_zero, List.set_cons_succ, List.getElem_toArray, List.getElem_cons_zero, List.getElem_cons_succ]
  refine wpAnyH_take (i := 4) (v := .agg #[.int .u64 0, .int .u64 0, .int .i64 2]) rfl (by as_aux_lemma => kernel_rfl) (by as_aux_lemma => kernel_rfl) (by as_aux_lemma => kernel_rfl) (fun _ _ _ h => h) (Or.inl ⟨by as_aux_lemma => kernel_rfl, fun W hS => by obtain ⟨z0, z1, z2⟩ := cell3s hS.2.1; clear hS hHeld; go_simp⟩) hHeld ?_
  try simp only [Act.put, List.setIfInBounds_toArray, List.set_cons_zero, List.set_cons_succ, List.getElem_toArray, List.getElem_cons_zero, List.getElem_cons_succ]
  refine wpAnyH_take (i := 6) (v := .pointer (some ⟨Q2, 0, none⟩)) rfl (by as_aux_lemma => kernel_rfl) (by as_aux_lemma => kernel_rfl) (by as_aux_lemma => kernel_rfl) (fun _ _ _ h => h) (Or.inl ⟨by as_aux_lemma => kernel_rfl, fun W hS => by clear hS hHeld; go_simp⟩) hHeld ?_
  try simp only [Act.put, List.setIfInBounds_toArray, List.set_cons_zero, List.set_cons_succ, List.getElem_toArray, List.getElem_cons_zero, List.getElem_cons_succ]
  refine wpAnyH_take (i := 7) (v := .agg #[.int .u64 0, .int .u64 0, .int .i64 1]) rfl (by as_aux_lemma => kernel_rfl) (by as_aux_lemma => kernel_rfl) (by as_aux_lemma => kernel_rfl) (fun _ _ _ h => h) (Or.inl ⟨by as_aux_lemma => kernel_rfl, fun W hS => by obtain ⟨z0, z1, z2⟩ := cell3s hS.1; clear hS hHeld; go_simp⟩) hHeld ?_
  try simp only [Act.put, List.setIfInBounds_toArray, List.set_cons_zero, List.set_cons_succ, List.getElem_toArray, List.getElem_cons_zero, List.getElem_cons_succ]
  refine wpAnyH_take (i := 9) (v := .pointer (some ⟨Q2, 0, none⟩)) rfl (by as_aux_lemma => kernel_rfl) (by as_aux_lemma => kernel_rfl) (by as_aux_lemma => kernel_rfl) (fun _ _ _ h => h) (Or.inl ⟨by as_aux_lemma => kernel_rfl, fun W hS => by clear hS hHeld; go_simp⟩) hHeld ?_
  try simp only [Act.put, List.setIfInBounds_toArray, List.set_cons_zero, List.set_cons_succ, List.getElem_toArray, List.getElem_cons_zero, List.getElem_cons_succ]
  refine wpAnyH_take (i := 10) (v := .agg #[.int .u64 0, .int .u64 0, .int .i64 3]) rfl (by as_aux_lemma => kernel_rfl) (by as_aux_lemma => kernel_rfl) (by as_aux_lemma => kernel_rfl) (fun _ _ _ h => h) (Or.inl ⟨by as_aux_lemma => kernel_rfl, fun W hS => by obtain ⟨z0, z1, z2⟩ := cell3s hS.2.2; clear hS hHeld; go_simp⟩) hHeld ?_
  try simp only [Act.put, List.setIfInBounds_toArray, List.set_cons_zero, List.set_cons_succ, List.getElem_toArray, List.getElem_cons_zero, List.getElem_cons_succ]
  refine wpAnyH_ready (rs := [2]) (by as_aux_lemma => kernel_rfl) (by simp) ?_
  refine AllReadyH.cons rfl (fun K hK => ?_) AllReadyH.nil
  try simp only [Act.put, List.setIfInBounds_toArray, List.set_cons_zero, List.set_cons_succ, List.getElem_toArray, List.getElem_cons_zero, List.getElem_cons_succ]
  go_simp
  go_at_call 12
  refine (lvOffer3s 0 0 3 HV.out lb1).mono ?_
  rintro e wo0 ⟨rfl, hv⟩
  clear HV
  have HV := hide hv
  clear hv
  refine hK.out _ _ (LV.s3 HA.out HB.out HC.out HV.out) (fun hHeld2 => ?_)
  clear hK K hHeld
  have hHeld := hHeld2
  clear hHeld2
  try simp only [Act.put, List.setIfInBounds_toArray, List.set_cons_zero, List.set_cons_succ, List.getElem_toArray, List.getElem_cons_zero, List.getElem_cons_succ]
  refine wpAnyH_ready (rs := [5]) (by as_aux_lemma => kernel_rfl) (by simp) ?_
  refine AllReadyH.cons rfl (fun K hK => ?_) AllReadyH.nil
  try simp only [Act.put, List.setIfInBounds_toArray, List.set_cons_zero, List.set_cons_succ, List.getElem_toArray, List.getElem_cons_zero, List.getElem_cons_succ]
  go_simp
  go_at_call 12
  refine (lvOffer3s 0 0 2 HV.out lb2).mono ?_
  rintro e wo1 ⟨rfl, hv⟩
  clear HV
  have HV := hide hv
  clear hv
  refine hK.out _ _ (LV.s3 HA.out HB.out HC.out HV.out) (fun hHeld2 => ?_)
  clear hK K hHeld
  have hHeld := hHeld2
  clear hHeld2
  try simp only [Act.put, List.setIfInBounds_toArray, List.set_cons_zero, List.set_cons_succ, List.getElem_toArray, List.getElem_cons_zero, List.getElem_cons_succ]
  refine wpAnyH_ready (rs := [8]) (by as_aux_lemma => kernel_rfl) (by simp) ?_
  refine AllReadyH.cons rfl (fun K hK => ?_) AllReadyH.nil
  try simp only [Act.put, List.setIfInBounds_toArray, List.set_cons_zero, List.set_cons_succ, List.getElem_toArray, List.getElem_cons_zero, List.getElem_cons_succ]
  go_simp
  go_at_call 12
  refine (lvOffer3s 0 0 1 HV.out lb3).mono ?_
  rintro e wo2 ⟨rfl, hv⟩
  clear HV
  have HV := hide hv
  clear hv
  refine hK.out _ _ (LV.s3 HA.out HB.out HC.out HV.out) (fun hHeld2 => ?_)
  clear hK K hHeld
  have hHeld := hHeld2
  clear hHeld2
  try simp only [Act.put, List.setIfInBounds_toArray, List.set_cons_zero, List.set_cons_succ, List.getElem_toArray, List.getElem_cons_zero, List.getElem_cons_succ]
  refine wpAnyH_ready (rs := [11]) (by as_aux_lemma => kernel_rfl) (by simp) ?_
  refine AllReadyH.cons rfl (fun K hK => ?_) AllReadyH.nil
  try simp only [Act.put, List.setIfInBounds_toArray, List.set_cons_zero, List.set_cons_succ, List.getElem_toArray, List.getElem_cons_zero, List.getElem_cons_succ]
  go_simp
  go_at_call 12
  refine (lvOffer3s 0 0 3 HV.out lb4).mono ?_
  rintro e wo3 ⟨rfl, hv⟩
  clear HV
  have HV := hide hv
  clear hv
  refine hK.out _ _ (LV.s3 HA.out HB.out HC.out HV.out) (fun hHeld2 => ?_)
  clear hK K hHeld
  have hHeld := hHeld2
  clear hHeld2
  try simp only [Act.put, List.setIfInBounds_toArray, List.set_cons_zero, List.set_cons_succ, List.getElem_toArray, List.getElem_cons_zero, List.getElem_cons_succ]
  refine wpAnyH_take (i := 12) (v := .bool true) rfl (by as_aux_lemma => kernel_rfl) (by as_aux_lemma => kernel_rfl) (by as_aux_lemma => kernel_rfl) (fun _ _ _ h => h) (Or.inl ⟨by as_aux_lemma => kernel_rfl, fun W hS => by clear hS hHeld; go_simp⟩) hHeld ?_
  try simp only [Act.put, List.setIfInBounds_toArray, List.set_cons_zero, List.set_cons_succ, List.getElem_toArray, List.getElem_cons_zero, List.getElem_cons_succ]
  refine wpAnyH_take (i := 13) (v := .bool true) rfl (by as_aux_lemma => kernel_rfl) (by as_aux_lemma => kernel_rfl) (by as_aux_lemma => kernel_rfl) (fun _ _ _ h => h) (Or.inl ⟨by as_aux_lemma => kernel_rfl, fun W hS => by clear hS hHeld; go_simp⟩) hHeld ?_
  try simp only [Act.put, List.setIfInBounds_toArray, List.set_cons_zero, List.set_cons_succ, List.getElem_toArray, List.getElem_cons_zero, List.getElem_cons_succ]
  refine wpAnyH_take (i := 14) (v := .bool true) rfl (by as_aux_lemma => kernel_rfl) (by as_aux_lemma => kernel_rfl) (by as_aux_lemma => kernel_rfl) (fun _ _ _ h => h) (Or.inl ⟨by as_aux_lemma => kernel_rfl, fun W hS => by clear hS hHeld; go_simp⟩) hHeld ?_
  try simp only [Act.put, List.setIfInBounds_toArray, List.set_cons_zero, List.set_cons_succ, List.getElem_toArray, List.getElem_cons_zero, List.getElem_cons_succ]
  refine wpAnyH_take (i := 15) (v := .bool false) rfl (by as_aux_lemma => kernel_rfl) (by as_aux_lemma => kernel_rfl) (by as_aux_lemma => kernel_rfl) (fun _ _ _ h => h) (Or.inl ⟨by as_aux_lemma => kernel_rfl, fun W hS => by clear hS hHeld; go_simp⟩) hHeld ?_
  try simp only [Act.put, List.setIfInBounds_toArray, List.set_cons_zero, List.set_cons_succ, List.getElem_toArray, List.getElem_cons_zero, List.getElem_cons_succ]
  refine wpAnyH_done (by as_aux_lemma => kernel_rfl) ?_ _
  clear hHeld
  go_upto_region 12 with (go_at_call 14; refine (lvWorst3 (Y := [sA]) 0 0 2 HV.out).mono ?_; rintro e w14 ⟨rfl, hv⟩; have HV1 := hide (HV.out.step hv); clear hv)
  have HV2 := hide (LV.box3 0 0 2 HV1.out)
  clear HV HV1
  have HV := HV2
  clear HV2
  generalize World.alloc w14 _ = w15 at *
  generalize w14.heap.size = gz at *
  obtain ⟨a0, a1, a2⟩ := cell3s (HV.out.spot HA.out)
  go_upto_region 15 with (go_at_call 9; refine (qPush_nil ((0, 0), 1) _).mono ?_; rintro e w16 ⟨rfl, hv⟩; have HV1 := hide (HV.out.step hv); clear hv)
  clear HV a0 a1 a2
  have HV := HV1
  clear HV1
  go_upto_region 16 with (go_at_call 8; refine (qPop_nil0 _).mono ?_; rintro e w17 ⟨rfl, hv⟩; have HV1 := hide (HV.out.step hv); clear hv)
  have HV2 := hide (LV.box3 0 0 0 HV1.out)
  clear HV HV1
  have HV := HV2
  clear HV2
  generalize World.alloc w17 _ = w18 at *
  generalize w17.heap.size = gn at *
  replace HV := hide (lv_mono (bx' := [(gz, ((0, 0), 2)), (gy, ((0, 0), 1)), (gx, ((0, 0), 1))]) HV.out (fun p hp => List.mem_cons_of_mem _ hp))
  refine wp_region_held_drew (S := KV w3 Q Q2 Q3 gz gy gx) (by as_aux_lemma => kernel_rfl) (LV.step HV.out (Below.refl _ _).drew) (fun hHeld => ?_)
  clear HV
  generalize World.drew _ = wl2 at *
  refine wpAnyH_take (i := 0) (v := .agg #[.int .u64 0, .int .u64 0, .int .i64 1]) rfl (by as_aux_lemma => kernel_rfl) (by as_aux_lemma => kernel_rfl) (by as_aux_lemma => kernel_rfl) (fun _ _ _ h => h) (Or.inl ⟨by as_aux_lemma => kernel_rfl, fun W hS => by obtain ⟨z0, z1, z2⟩ := hS.x; clear hS hHeld; go_simp⟩) hHeld ?_
  try simp only [Act.put, List.setIfInBounds_toArray, List.set_cons_zero, List.set_cons_succ, List.getElem_toArray, List.getElem_cons_zero, List.getElem_cons_succ]
  refine wpAnyH_take (i := 1) (v := .agg #[.int .u64 0, .int .u64 0, .int .i64 1]) rfl (by as_aux_lemma => kernel_rfl) (by as_aux_lemma => kernel_rfl) (by as_aux_lemma => kernel_rfl) (fun _ _ _ h => h) (Or.inl ⟨by as_aux_lemma => kernel_rfl, fun W hS => by obtain ⟨z0, z1, z2⟩ := cell3s (hS.spot HA.out); clear hS hHeld; go_simp⟩) hHeld ?_
  try simp only [Act.put, List.setIfInBounds_toArray, List.set_cons_zero, List.set_cons_succ, List.getElem_toArray, List.getElem_cons_zero, List.getElem_cons_succ]
  refine wpAnyH_take (i := 2) (v := .bool true) rfl (by as_aux_lemma => kernel_rfl) (by as_aux_lemma => kernel_rfl) (by as_aux_lemma => kernel_rfl) (fun _ _ _ h => h) (Or.inl ⟨by as_aux_lemma => kernel_rfl, fun W hS => by clear hS hHeld; go_simp⟩) hHeld ?_
  try simp only [Act.put, List.setIfInBounds_toArray, List.set_cons_zero, List.set_cons_succ, List.getElem_toArray, List.getElem_cons_zero, List.getElem_cons_succ]
  refine wpAnyH_puts [(3, 84), (4, 85), (5, 86), (6, 87)] [(84, .bool true), (85, .bool true), (86, .bool true), (87, .bool true)] [3, 4, 5, 6] 4 rfl (by as_aux_lemma => kernel_rfl) (by as_aux_lemma => kernel_rfl) (fun _ _ _ _ _ h => h) hHeld ?_
  simp only [putsOf, listsOf, List.setIfInBounds_toArray, List.set_cons_zero, List.set_cons_succ]
  refine wpAnyH_take (i := 7) (v := .agg #[.int .u64 0, .int .u64 0, .int .i64 1]) rfl (by as_aux_lemma => kernel_rfl) (by as_aux_lemma => kernel_rfl) (by as_aux_lemma => kernel_rfl) (fun _ _ _ h => h) (Or.inl ⟨by as_aux_lemma => kernel_rfl, fun W hS => by obtain ⟨z0, z1, z2⟩ := hS.y; clear hS hHeld; go_simp⟩) hHeld ?_
  try simp only [Act.put, List.setIfInBounds_toArray, List.set_cons_zero, List.set_cons_succ, List.getElem_toArray, List.getElem_cons_zero, List.getElem_cons_succ]
  refine wpAnyH_take (i := 8) (v := .agg #[.int .u64 0, .int .u64 0, .int .i64 1]) rfl (by as_aux_lemma => kernel_rfl) (by as_aux_lemma => kernel_rfl) (by as_aux_lemma => kernel_rfl) (fun _ _ _ h => h) (Or.inl ⟨by as_aux_lemma => kernel_rfl, fun W hS => by obtain ⟨z0, z1, z2⟩ := cell3s (hS.spot HA.out); clear hS hHeld; go_simp⟩) hHeld ?_
  try simp only [Act.put, List.setIfInBounds_toArray, List.set_cons_zero, List.set_cons_succ, List.getElem_toArray, List.getElem_cons_zero, List.getElem_cons_succ]
  refine wpAnyH_take (i := 9) (v := .bool true) rfl (by as_aux_lemma => kernel_rfl) (by as_aux_lemma => kernel_rfl) (by as_aux_lemma => kernel_rfl) (fun _ _ _ h => h) (Or.inl ⟨by as_aux_lemma => kernel_rfl, fun W hS => by clear hS hHeld; go_simp⟩) hHeld ?_
  try simp only [Act.put, List.setIfInBounds_toArray, List.set_cons_zero, List.set_cons_succ, List.getElem_toArray, List.getElem_cons_zero, List.getElem_cons_succ]
  refine wpAnyH_puts [(10, 91), (11, 92), (12, 93), (13, 94), (14, 95), (15, 96)] [(91, .bool true), (92, .bool true), (93, .bool true), (94, .bool true), (95, .bool true), (96, .pointer (some ⟨Q, 0, none⟩))] [10, 11, 12, 13, 14, 15] 6 rfl (by as_aux_lemma => kernel_rfl) (by as_aux_lemma => kernel_rfl) (fun _ _ _ _ _ h => h) hHeld ?_
  simp only [putsOf, listsOf, List.setIfInBounds_toArray, List.set_cons_zero, List.set_cons_succ]
  refine wpAnyH_ready (rs := [16]) (by as_aux_lemma => kernel_rfl) (by simp) ?_
  refine AllReadyH.cons rfl (fun K hK => ?_) AllReadyH.nil
  try simp only [Act.put, List.setIfInBounds_toArray, List.set_cons_zero, List.set_cons_succ, List.getElem_toArray, List.getElem_cons_zero, List.getElem_cons_succ]
  go_simp
  go_at_call 15
  refine (lvLen hHeld.lv).mono ?_
  rintro e _ ⟨rfl, rfl⟩
  refine hK.out _ _ hHeld (fun hHeld2 => ?_)
  clear hK K hHeld
  have hHeld := hHeld2
  clear hHeld2
  try simp only [Act.put, List.setIfInBounds_toArray, List.set_cons_zero, List.set_cons_succ, List.getElem_toArray, List.getElem_cons_zero, List.getElem_cons_succ]
  refine wpAnyH_take (i := 17) (v := .bool true) rfl (by as_aux_lemma => kernel_rfl) (by as_aux_lemma => kernel_rfl) (by as_aux_lemma => kernel_rfl) (fun _ _ _ h => h) (Or.inl ⟨by as_aux_lemma => kernel_rfl, fun W hS => by clear hS hHeld; go_simp⟩) hHeld ?_
  try simp only [Act.put, List.setIfInBounds_toArray, List.set_cons_zero, List.set_cons_succ, List.getElem_toArray, List.getElem_cons_zero, List.getElem_cons_succ]
  refine wpAnyH_puts [(18, 99), (19, 100), (20, 101), (21, 102), (22, 103), (23, 104), (24, 105), (25, 106), (26, 107), (27, 108), (28, 109), (29, 110), (30, 111), (31, 112), (32, 113)] [(99, .bool true), (100, .bool true), (101, .bool true), (102, .bool true), (103, .bool true), (104, .bool true), (105, .bool true), (106, .bool true), (107, .bool true), (108, .bool true), (109, .bool true), (110, .bool false), (111, .bool true), (112, .bool true), (113, .bool true)] [18, 19, 20, 21, 22, 23, 24, 25, 26, 27, 28, 29, 30, 31, 32] 15 rfl (by as_aux_lemma => kernel_rfl) (by as_aux_lemma => kernel_rfl) (fun _ _ _ _ _ h => h) hHeld ?_
  simp only [putsOf, listsOf, List.setIfInBounds_toArray, List.set_cons_zero, List.set_cons_succ]
  refine wpAnyH_take (i := 33) (v := .agg #[.int .u64 0, .int .u64 0, .int .i64 2]) rfl (by as_aux_lemma => kernel_rfl) (by as_aux_lemma => kernel_rfl) (by as_aux_lemma => kernel_rfl) (fun _ _ _ h => h) (Or.inl ⟨by as_aux_lemma => kernel_rfl, fun W hS => by obtain ⟨z0, z1, z2⟩ := hS.z; clear hS hHeld; go_simp⟩) hHeld ?_
  try simp only [Act.put, List.setIfInBounds_toArray, List.set_cons_zero, List.set_cons_succ, List.getElem_toArray, List.getElem_cons_zero, List.getElem_cons_succ]
  refine wpAnyH_take (i := 34) (v := .agg #[.int .u64 0, .int .u64 0, .int .i64 2]) rfl (by as_aux_lemma => kernel_rfl) (by as_aux_lemma => kernel_rfl) (by as_aux_lemma => kernel_rfl) (fun _ _ _ h => h) (Or.inl ⟨by as_aux_lemma => kernel_rfl, fun W hS => by obtain ⟨z0, z1, z2⟩ := cell3s (hS.spot HB.out); clear hS hHeld; go_simp⟩) hHeld ?_
  try simp only [Act.put, List.setIfInBounds_toArray, List.set_cons_zero, List.set_cons_succ, List.getElem_toArray, List.getElem_cons_zero, List.getElem_cons_succ]
  refine wpAnyH_take (i := 35) (v := .bool true) rfl (by as_aux_lemma => kernel_rfl) (by as_aux_lemma => kernel_rfl) (by as_aux_lemma => kernel_rfl) (fun _ _ _ h => h) (Or.inl ⟨by as_aux_lemma => kernel_rfl, fun W hS => by clear hS hHeld; go_simp⟩) hHeld ?_
  try simp only [Act.put, List.setIfInBounds_toArray, List.set_cons_zero, List.set_cons_succ, List.getElem_toArray, List.getElem_cons_zero, List.getElem_cons_succ]
  refine wpAnyH_puts [(36, 117), (37, 118), (38, 119), (39, 120), (40, 121), (41, 122)] [(117, .bool true), (118, .bool true), (119, .bool true), (120, .bool true), (121, .bool true), (122, .pointer (some ⟨Q2, 0, none⟩))] [36, 37, 38, 39, 40, 41] 6 rfl (by as_aux_lemma => kernel_rfl) (by as_aux_lemma => kernel_rfl) (fun _ _ _ _ _ h => h) hHeld ?_
  simp only [putsOf, listsOf, List.setIfInBounds_toArray, List.set_cons_zero, List.set_cons_succ]
  refine wpAnyH_ready (rs := [42]) (by as_aux_lemma => kernel_rfl) (by simp) ?_
  refine AllReadyH.cons rfl (fun K hK => ?_) AllReadyH.nil
  try simp only [Act.put, List.setIfInBounds_toArray, List.set_cons_zero, List.set_cons_succ, List.getElem_toArray, List.getElem_cons_zero, List.getElem_cons_succ]
  go_simp
  go_at_call 16
  refine (lvFull hHeld.lv rfl).mono ?_
  rintro e wc1 ⟨rfl, hdw⟩
  refine hK.out _ _ (hHeld.step hdw.below) (fun hHeld2 => ?_)
  clear hK K hHeld
  have hHeld := hHeld2
  clear hHeld2
  try simp only [Act.put, List.setIfInBounds_toArray, List.set_cons_zero, List.set_cons_succ, List.getElem_toArray, List.getElem_cons_zero, List.getElem_cons_succ]
  clear hdw
  refine wpAnyH_puts [(43, 124), (44, 125), (45, 126)] [(124, .bool true), (125, .bool true), (126, .pointer (some ⟨Q2, 0, none⟩))] [43, 44, 45] 3 rfl (by as_aux_lemma => kernel_rfl) (by as_aux_lemma => kernel_rfl) (fun _ _ _ _ _ h => h) hHeld ?_
  simp only [putsOf, listsOf, List.setIfInBounds_toArray, List.set_cons_zero, List.set_cons_succ]
  refine wpAnyH_take (i := 47) (v := .agg #[.int .u64 0, .int .u64 0, .int .i64 1]) rfl (by as_aux_lemma => kernel_rfl) (by as_aux_lemma => kernel_rfl) (by as_aux_lemma => kernel_rfl) (fun _ _ _ h => h) (Or.inl ⟨by as_aux_lemma => kernel_rfl, fun W hS => by obtain ⟨z0, z1, z2⟩ := cell3s (hS.spot HA.out); clear hS hHeld; go_simp⟩) hHeld ?_
  try simp only [Act.put, List.setIfInBounds_toArray, List.set_cons_zero, List.set_cons_succ, List.getElem_toArray, List.getElem_cons_zero, List.getElem_cons_succ]
  refine wpAnyH_take (i := 48) (v := .agg #[.int .u64 0, .int .u64 0, .int .i64 2]) rfl (by as_aux_lemma => kernel_rfl) (by as_aux_lemma => kernel_rfl) (by as_aux_lemma => kernel_rfl) (fun _ _ _ h => h) (Or.inl ⟨by as_aux_lemma => kernel_rfl, fun W hS => by obtain ⟨z0, z1, z2⟩ := cell3s (hS.spot HB.out); clear hS hHeld; go_simp⟩) hHeld ?_
  try simp only [Act.put, List.setIfInBounds_toArray, List.set_cons_zero, List.set_cons_succ, List.getElem_toArray, List.getElem_cons_zero, List.getElem_cons_succ]
  refine wpAnyH_ready (rs := [46, 49]) (by as_aux_lemma => kernel_rfl) (by simp) ?_
  refine AllReadyH.cons rfl (fun K hK => ?_) ?_
  · try simp only [Act.put, List.setIfInBounds_toArray, List.set_cons_zero, List.set_cons_succ, List.getElem_toArray, List.getElem_cons_zero, List.getElem_cons_succ]
    go_simp
    go_at_call 19
    refine (KV.listAB hHeld).mono ?_
    rintro e wc2 ⟨AL, cL, rfl, kl1, kl2, hr, hbl⟩
    have HRL := hide hr
    clear hr
    refine hK.out _ _ (hHeld.step hbl) (fun hHeld2 => ?_)
    clear hK K hHeld
    have hHeld := hHeld2
    clear hHeld2
    try simp only [Act.put, List.setIfInBounds_toArray, List.set_cons_zero, List.set_cons_succ, List.getElem_toArray, List.getElem_cons_zero, List.getElem_cons_succ]
    clear hbl
    refine wpAnyH_ready (rs := [49]) (by as_aux_lemma => kernel_rfl) (by simp) ?_
    refine AllReadyH.cons rfl (fun K hK => ?_) AllReadyH.nil
    try simp only [Act.put, List.setIfInBounds_toArray, List.set_cons_zero, List.set_cons_succ, List.getElem_toArray, List.getElem_cons_zero, List.getElem_cons_succ]
    go_simp
    refine hK.out _ _ (hHeld.step (below1 _ _)) (fun hHeld2 => ?_)
    clear hK K hHeld
    have hHeld := hHeld2
    clear hHeld2
    try simp only [Act.put, List.setIfInBounds_toArray, List.set_cons_zero, List.set_cons_succ, List.getElem_toArray, List.getElem_cons_zero, List.getElem_cons_succ]
    have HTL := hide (twoS (Blk.new wc2 33 #[.int .u64 0, .int .u64 0, .int .i64 1, .int .u64 0, .int .u64 0, .int .i64 2]))
    replace HRL := hide (HRL.out.at_world (below1 wc2 (.cells #[.int .u64 0, .int .u64 0, .int .i64 1, .int .u64 0, .int .u64 0, .int .i64 2] 33)))
    generalize World.alloc wc2 _ = wc3 at *
    generalize wc2.heap.size = gl at *
    refine wpAnyH_ready (rs := [50]) (by as_aux_lemma => kernel_rfl) (by simp) ?_
    refine AllReadyH.cons rfl (fun K hK => ?_) AllReadyH.nil
    try simp only [Act.put, List.setIfInBounds_toArray, List.set_cons_zero, List.set_cons_succ, List.getElem_toArray, List.getElem_cons_zero, List.getElem_cons_succ]
    go_simp
    go_at_call 18
    refine (same_any AL (some ⟨gl, 0, none⟩) 2 cL 2 2 [sA, sB] [sA, sB] _ HRL.out rfl kl1 kl2 HTL.out rfl (by omega) (by omega)).mono ?_
    rintro e wc4 ⟨hev, hdw⟩
    have hev : e = .returned (.bool true) := hev.trans (by simp)
    subst hev
    refine hK.out _ _ (hHeld.step hdw.below) (fun hHeld2 => ?_)
    clear hK K hHeld
    have hHeld := hHeld2
    clear hHeld2
    try simp only [Act.put, List.setIfInBounds_toArray, List.set_cons_zero, List.set_cons_succ, List.getElem_toArray, List.getElem_cons_zero, List.getElem_cons_succ]
    clear hdw HRL HTL
    refine wpAnyH_puts [(51, 132), (52, 133), (53, 134)] [(132, .bool true), (133, .bool true), (134, .pointer (some ⟨Q3, 0, none⟩))] [51, 52, 53] 3 rfl (by as_aux_lemma => kernel_rfl) (by as_aux_lemma => kernel_rfl) (fun _ _ _ _ _ h => h) hHeld ?_
    simp only [putsOf, listsOf, List.setIfInBounds_toArray, List.set_cons_zero, List.set_cons_succ]
    refine wpAnyH_ready (rs := [54]) (by as_aux_lemma => kernel_rfl) (by simp) ?_
    refine AllReadyH.cons rfl (fun K hK => ?_) AllReadyH.nil
    try simp only [Act.put, List.setIfInBounds_toArray, List.set_cons_zero, List.set_cons_succ, List.getElem_toArray, List.getElem_cons_zero, List.getElem_cons_succ]
    go_simp
    go_at_call 16
    refine (lvFull3 hHeld.lv).mono ?_
    rintro e wc5 ⟨rfl, hdw⟩
    refine hK.out _ _ (hHeld.step hdw.below) (fun hHeld2 => ?_)
    clear hK K hHeld
    have hHeld := hHeld2
    clear hHeld2
    try simp only [Act.put, List.setIfInBounds_toArray, List.set_cons_zero, List.set_cons_succ, List.getElem_toArray, List.getElem_cons_zero, List.getElem_cons_succ]
    clear hdw
    refine wpAnyH_puts [(55, 136), (56, 137), (57, 138)] [(136, .bool true), (137, .bool true), (138, .pointer (some ⟨Q3, 0, none⟩))] [55, 56, 57] 3 rfl (by as_aux_lemma => kernel_rfl) (by as_aux_lemma => kernel_rfl) (fun _ _ _ _ _ h => h) hHeld ?_
    simp only [putsOf, listsOf, List.setIfInBounds_toArray, List.set_cons_zero, List.set_cons_succ]
    refine wpAnyH_take (i := 58) (v := .agg #[.int .u64 0, .int .u64 0, .int .i64 1]) rfl (by as_aux_lemma => kernel_rfl) (by as_aux_lemma => kernel_rfl) (by as_aux_lemma => kernel_rfl) (fun _ _ _ h => h) (Or.inl ⟨by as_aux_lemma => kernel_rfl, fun W hS => by obtain ⟨z0, z1, z2⟩ := cell3s (hS.spot HA.out); clear hS hHeld; go_simp⟩) hHeld ?_
    try simp only [Act.put, List.setIfInBounds_toArray, List.set_cons_zero, List.set_cons_succ, List.getElem_toArray, List.getElem_cons_zero, List.getElem_cons_succ]
    refine wpAnyH_ready (rs := [59]) (by as_aux_lemma => kernel_rfl) (by simp) ?_
    refine AllReadyH.cons rfl (fun K hK => ?_) AllReadyH.nil
    try simp only [Act.put, List.setIfInBounds_toArray, List.set_cons_zero, List.set_cons_succ, List.getElem_toArray, List.getElem_cons_zero, List.getElem_cons_succ]
    go_simp
    go_at_call 12
    refine (lvZero3 0 0 1 hHeld.lv).mono ?_
    rintro e wc6 ⟨rfl, hbw⟩
    refine hK.out _ _ (hHeld.step hbw) (fun hHeld2 => ?_)
    clear hK K hHeld
    have hHeld := hHeld2
    clear hHeld2
    try simp only [Act.put, List.setIfInBounds_toArray, List.set_cons_zero, List.set_cons_succ, List.getElem_toArray, List.getElem_cons_zero, List.getElem_cons_succ]
    clear hbw
    refine wpAnyH_puts [(60, 141), (61, 142), (62, 143), (63, 144)] [(141, .bool true), (142, .bool true), (143, .bool true), (144, .pointer (some ⟨Q3, 0, none⟩))] [60, 61, 62, 63] 4 rfl (by as_aux_lemma => kernel_rfl) (by as_aux_lemma => kernel_rfl) (fun _ _ _ _ _ h => h) hHeld ?_
    simp only [putsOf, listsOf, List.setIfInBounds_toArray, List.set_cons_zero, List.set_cons_succ]
    refine wpAnyH_ready (rs := [64]) (by as_aux_lemma => kernel_rfl) (by simp) ?_
    refine AllReadyH.cons rfl (fun K hK => ?_) AllReadyH.nil
    try simp only [Act.put, List.setIfInBounds_toArray, List.set_cons_zero, List.set_cons_succ, List.getElem_toArray, List.getElem_cons_zero, List.getElem_cons_succ]
    go_simp
    go_at_call 19
    refine (KV.list0 hHeld).mono ?_
    rintro e wc7 ⟨A0, c0, rfl, hbl⟩
    refine hK.out _ _ (hHeld.step hbl) (fun hHeld2 => ?_)
    clear hK K hHeld
    have hHeld := hHeld2
    clear hHeld2
    try simp only [Act.put, List.setIfInBounds_toArray, List.set_cons_zero, List.set_cons_succ, List.getElem_toArray, List.getElem_cons_zero, List.getElem_cons_succ]
    clear hbl
    refine wpAnyH_take (i := 65) (v := .int .i64 0) rfl (by as_aux_lemma => kernel_rfl) (by as_aux_lemma => kernel_rfl) (by as_aux_lemma => kernel_rfl) (fun _ _ _ h => h) (Or.inl ⟨by as_aux_lemma => kernel_rfl, fun W hS => by clear hS hHeld; go_simp⟩) hHeld ?_
    try simp only [Act.put, List.setIfInBounds_toArray, List.set_cons_zero, List.set_cons_succ, List.getElem_toArray, List.getElem_cons_zero, List.getElem_cons_succ]
    refine wpAnyH_take (i := 66) (v := .bool true) rfl (by as_aux_lemma => kernel_rfl) (by as_aux_lemma => kernel_rfl) (by as_aux_lemma => kernel_rfl) (fun _ _ _ h => h) (Or.inl ⟨by as_aux_lemma => kernel_rfl, fun W hS => by clear hS hHeld; go_simp⟩) hHeld ?_
    try simp only [Act.put, List.setIfInBounds_toArray, List.set_cons_zero, List.set_cons_succ, List.getElem_toArray, List.getElem_cons_zero, List.getElem_cons_succ]
    refine wpAnyH_puts [(67, 148), (68, 149), (69, 150), (70, 151), (71, 152), (72, 153), (73, 154)] [(148, .bool true), (149, .bool true), (150, .bool false), (151, .bool true), (152, .bool true), (153, .bool true), (154, .pointer none)] [67, 68, 69, 70, 71, 72, 73] 7 rfl (by as_aux_lemma => kernel_rfl) (by as_aux_lemma => kernel_rfl) (fun _ _ _ _ _ h => h) hHeld ?_
    simp only [putsOf, listsOf, List.setIfInBounds_toArray, List.set_cons_zero, List.set_cons_succ]
    refine wpAnyH_ready (rs := [74]) (by as_aux_lemma => kernel_rfl) (by simp) ?_
    refine AllReadyH.cons rfl (fun K hK => ?_) AllReadyH.nil
    try simp only [Act.put, List.setIfInBounds_toArray, List.set_cons_zero, List.set_cons_succ, List.getElem_toArray, List.getElem_cons_zero, List.getElem_cons_succ]
    go_simp
    go_at_call 15
    refine (qLen_nil _).mono ?_
    rintro e _ ⟨rfl, rfl⟩
    refine hK.out _ _ hHeld (fun hHeld2 => ?_)
    clear hK K hHeld
    have hHeld := hHeld2
    clear hHeld2
    try simp only [Act.put, List.setIfInBounds_toArray, List.set_cons_zero, List.set_cons_succ, List.getElem_toArray, List.getElem_cons_zero, List.getElem_cons_succ]
    refine wpAnyH_take (i := 75) (v := .bool true) rfl (by as_aux_lemma => kernel_rfl) (by as_aux_lemma => kernel_rfl) (by as_aux_lemma => kernel_rfl) (fun _ _ _ h => h) (Or.inl ⟨by as_aux_lemma => kernel_rfl, fun W hS => by clear hS hHeld; go_simp⟩) hHeld ?_
    try simp only [Act.put, List.setIfInBounds_toArray, List.set_cons_zero, List.set_cons_succ, List.getElem_toArray, List.getElem_cons_zero, List.getElem_cons_succ]
    refine wpAnyH_puts [(76, 157), (77, 158), (78, 159)] [(157, .bool true), (158, .bool true), (159, .pointer none)] [76, 77, 78] 3 rfl (by as_aux_lemma => kernel_rfl) (by as_aux_lemma => kernel_rfl) (fun _ _ _ _ _ h => h) hHeld ?_
    simp only [putsOf, listsOf, List.setIfInBounds_toArray, List.set_cons_zero, List.set_cons_succ]
    refine wpAnyH_ready (rs := [79]) (by as_aux_lemma => kernel_rfl) (by simp) ?_
    refine AllReadyH.cons rfl (fun K hK => ?_) AllReadyH.nil
    try simp only [Act.put, List.setIfInBounds_toArray, List.set_cons_zero, List.set_cons_succ, List.getElem_toArray, List.getElem_cons_zero, List.getElem_cons_succ]
    go_simp
    go_at_call 16
    refine (bFull_nil _).mono ?_
    rintro e wc8 ⟨rfl, hdw⟩
    refine hK.out _ _ (hHeld.step hdw.below) (fun hHeld2 => ?_)
    clear hK K hHeld
    have hHeld := hHeld2
    clear hHeld2
    try simp only [Act.put, List.setIfInBounds_toArray, List.set_cons_zero, List.set_cons_succ, List.getElem_toArray, List.getElem_cons_zero, List.getElem_cons_succ]
    clear hdw
    refine wpAnyH_puts [(80, 161), (81, 162), (82, 163)] [(161, .bool true), (162, .bool true), (163, .pointer none)] [80, 81, 82] 3 rfl (by as_aux_lemma => kernel_rfl) (by as_aux_lemma => kernel_rfl) (fun _ _ _ _ _ h => h) hHeld ?_
    simp only [putsOf, listsOf, List.setIfInBounds_toArray, List.set_cons_zero, List.set_cons_succ]
    refine wpAnyH_take (i := 83) (v := .agg #[.int .u64 0, .int .u64 0, .int .i64 1]) rfl (by as_aux_lemma => kernel_rfl) (by as_aux_lemma => kernel_rfl) (by as_aux_lemma => kernel_rfl) (fun _ _ _ h => h) (Or.inl ⟨by as_aux_lemma => kernel_rfl, fun W hS => by obtain ⟨z0, z1, z2⟩ := cell3s (hS.spot HA.out); clear hS hHeld; go_simp⟩) hHeld ?_
    try simp only [Act.put, List.setIfInBounds_toArray, List.set_cons_zero, List.set_cons_succ, List.getElem_toArray, List.getElem_cons_zero, List.getElem_cons_succ]
    refine wpAnyH_ready (rs := [84]) (by as_aux_lemma => kernel_rfl) (by simp) ?_
    refine AllReadyH.cons rfl (fun K hK => ?_) AllReadyH.nil
    try simp only [Act.put, List.setIfInBounds_toArray, List.set_cons_zero, List.set_cons_succ, List.getElem_toArray, List.getElem_cons_zero, List.getElem_cons_succ]
    go_simp
    go_at_call 12
    refine (bOffer_nil ((0, 0), 1) _).mono ?_
    rintro e wc9 ⟨rfl, hbw⟩
    refine hK.out _ _ (hHeld.step hbw) (fun hHeld2 => ?_)
    clear hK K hHeld
    have hHeld := hHeld2
    clear hHeld2
    try simp only [Act.put, List.setIfInBounds_toArray, List.set_cons_zero, List.set_cons_succ, List.getElem_toArray, List.getElem_cons_zero, List.getElem_cons_succ]
    clear hbw
    refine wpAnyH_puts [(85, 166), (86, 167), (87, 168), (88, 169)] [(166, .bool true), (167, .bool true), (168, .bool true), (169, .pointer none)] [85, 86, 87, 88] 4 rfl (by as_aux_lemma => kernel_rfl) (by as_aux_lemma => kernel_rfl) (fun _ _ _ _ _ h => h) hHeld ?_
    simp only [putsOf, listsOf, List.setIfInBounds_toArray, List.set_cons_zero, List.set_cons_succ]
    refine wpAnyH_ready (rs := [89]) (by as_aux_lemma => kernel_rfl) (by simp) ?_
    refine AllReadyH.cons rfl (fun K hK => ?_) AllReadyH.nil
    try simp only [Act.put, List.setIfInBounds_toArray, List.set_cons_zero, List.set_cons_succ, List.getElem_toArray, List.getElem_cons_zero, List.getElem_cons_succ]
    go_simp
    go_at_call 19
    refine (bList_nil _).mono ?_
    rintro e _ ⟨rfl, rfl⟩
    refine hK.out _ _ hHeld (fun hHeld2 => ?_)
    clear hK K hHeld
    have hHeld := hHeld2
    clear hHeld2
    try simp only [Act.put, List.setIfInBounds_toArray, List.set_cons_zero, List.set_cons_succ, List.getElem_toArray, List.getElem_cons_zero, List.getElem_cons_succ]
    refine wpAnyH_take (i := 90) (v := .int .i64 0) rfl (by as_aux_lemma => kernel_rfl) (by as_aux_lemma => kernel_rfl) (by as_aux_lemma => kernel_rfl) (fun _ _ _ h => h) (Or.inl ⟨by as_aux_lemma => kernel_rfl, fun W hS => by clear hS hHeld; go_simp⟩) hHeld ?_
    try simp only [Act.put, List.setIfInBounds_toArray, List.set_cons_zero, List.set_cons_succ, List.getElem_toArray, List.getElem_cons_zero, List.getElem_cons_succ]
    refine wpAnyH_take (i := 91) (v := .bool true) rfl (by as_aux_lemma => kernel_rfl) (by as_aux_lemma => kernel_rfl) (by as_aux_lemma => kernel_rfl) (fun _ _ _ h => h) (Or.inl ⟨by as_aux_lemma => kernel_rfl, fun W hS => by clear hS hHeld; go_simp⟩) hHeld ?_
    try simp only [Act.put, List.setIfInBounds_toArray, List.set_cons_zero, List.set_cons_succ, List.getElem_toArray, List.getElem_cons_zero, List.getElem_cons_succ]
    refine wpAnyH_puts [(92, 173), (93, 0)] [(173, .bool true), (0, .bool true)] [92, 93] 2 rfl (by as_aux_lemma => kernel_rfl) (by as_aux_lemma => kernel_rfl) (fun _ _ _ _ _ h => h) hHeld ?_
    simp only [putsOf, listsOf, List.setIfInBounds_toArray, List.set_cons_zero, List.set_cons_succ]
    refine wpAnyH_done (by as_aux_lemma => kernel_rfl) ?_ _
    have HF := hide hHeld
    clear hHeld
    go_wp2
    go_ret
    exact ⟨rfl, by have h1 := HW.out; have h2 := HF.out.lv.bel; exact Below.step (by first | exact h1 | (rw [← HgA.out]; exact h1)) h2⟩
  refine AllReadyH.cons rfl (fun K hK => ?_) AllReadyH.nil
  try simp only [Act.put, List.setIfInBounds_toArray, List.set_cons_zero, List.set_cons_succ, List.getElem_toArray, List.getElem_cons_zero, List.getElem_cons_succ]
  go_simp
  refine hK.out _ _ (hHeld.step (below1 _ _)) (fun hHeld2 => ?_)
  clear hK K hHeld
  have hHeld := hHeld2
  clear hHeld2
  try simp only [Act.put, List.setIfInBounds_toArray, List.set_cons_zero, List.set_cons_succ, List.getElem_toArray, List.getElem_cons_zero, List.getElem_cons_succ]
  have HTL := hide (twoS (Blk.new wc1 33 #[.int .u64 0, .int .u64 0, .int .i64 1, .int .u64 0, .int .u64 0, .int .i64 2]))
  generalize World.alloc wc1 _ = wc10 at *
  generalize wc1.heap.size = gl at *
  refine wpAnyH_ready (rs := [46]) (by as_aux_lemma => kernel_rfl) (by simp) ?_
  refine AllReadyH.cons rfl (fun K hK => ?_) AllReadyH.nil
  try simp only [Act.put, List.setIfInBounds_toArray, List.set_cons_zero, List.set_cons_succ, List.getElem_toArray, List.getElem_cons_zero, List.getElem_cons_succ]
  go_simp
  go_at_call 19
  refine (KV.listAB hHeld).mono ?_
  rintro e wc11 ⟨AL, cL, rfl, kl1, kl2, hr, hbl⟩
  have HRL := hide hr
  clear hr
  replace HTL := hide (HTL.out.at_world hbl)
  refine hK.out _ _ (hHeld.step hbl) (fun hHeld2 => ?_)
  clear hK K hHeld
  have hHeld := hHeld2
  clear hHeld2
  try simp only [Act.put, List.setIfInBounds_toArray, List.set_cons_zero, List.set_cons_succ, List.getElem_toArray, List.getElem_cons_zero, List.getElem_cons_succ]
  clear hbl
  refine wpAnyH_ready (rs := [50]) (by as_aux_lemma => kernel_rfl) (by simp) ?_
  refine AllReadyH.cons rfl (fun K hK => ?_) AllReadyH.nil
  try simp only [Act.put, List.setIfInBounds_toArray, List.set_cons_zero, List.set_cons_succ, List.getElem_toArray, List.getElem_cons_zero, List.getElem_cons_succ]
  go_simp
  go_at_call 18
  refine (same_any AL (some ⟨gl, 0, none⟩) 2 cL 2 2 [sA, sB] [sA, sB] _ HRL.out rfl kl1 kl2 HTL.out rfl (by omega) (by omega)).mono ?_
  rintro e wc12 ⟨hev, hdw⟩
  have hev : e = .returned (.bool true) := hev.trans (by simp)
  subst hev
  refine hK.out _ _ (hHeld.step hdw.below) (fun hHeld2 => ?_)
  clear hK K hHeld
  have hHeld := hHeld2
  clear hHeld2
  try simp only [Act.put, List.setIfInBounds_toArray, List.set_cons_zero, List.set_cons_succ, List.getElem_toArray, List.getElem_cons_zero, List.getElem_cons_succ]
  clear hdw HRL HTL
  refine wpAnyH_puts [(51, 132), (52, 133), (53, 134)] [(132, .bool true), (133, .bool true), (134, .pointer (some ⟨Q3, 0, none⟩))] [51, 52, 53] 3 rfl (by as_aux_lemma => kernel_rfl) (by as_aux_lemma => kernel_rfl) (fun _ _ _ _ _ h => h) hHeld ?_
  simp only [putsOf, listsOf, List.setIfInBounds_toArray, List.set_cons_zero, List.set_cons_succ]
  refine wpAnyH_ready (rs := [54]) (by as_aux_lemma => kernel_rfl) (by simp) ?_
  refine AllReadyH.cons rfl (fun K hK => ?_) AllReadyH.nil
  try simp only [Act.put, List.setIfInBounds_toArray, List.set_cons_zero, List.set_cons_succ, List.getElem_toArray, List.getElem_cons_zero, List.getElem_cons_succ]
  go_simp
  go_at_call 16
  refine (lvFull3 hHeld.lv).mono ?_
  rintro e wc13 ⟨rfl, hdw⟩
  refine hK.out _ _ (hHeld.step hdw.below) (fun hHeld2 => ?_)
  clear hK K hHeld
  have hHeld := hHeld2
  clear hHeld2
  try simp only [Act.put, List.setIfInBounds_toArray, List.set_cons_zero, List.set_cons_succ, List.getElem_toArray, List.getElem_cons_zero, List.getElem_cons_succ]
  clear hdw
  refine wpAnyH_puts [(55, 136), (56, 137), (57, 138)] [(136, .bool true), (137, .bool true), (138, .pointer (some ⟨Q3, 0, none⟩))] [55, 56, 57] 3 rfl (by as_aux_lemma => kernel_rfl) (by as_aux_lemma => kernel_rfl) (fun _ _ _ _ _ h => h) hHeld ?_
  simp only [putsOf, listsOf, List.setIfInBounds_toArray, List.set_cons_zero, List.set_cons_succ]
  refine wpAnyH_take (i := 58) (v := .agg #[.int .u64 0, .int .u64 0, .int .i64 1]) rfl (by as_aux_lemma => kernel_rfl) (by as_aux_lemma => kernel_rfl) (by as_aux_lemma => kernel_rfl) (fun _ _ _ h => h) (Or.inl ⟨by as_aux_lemma => kernel_rfl, fun W hS => by obtain ⟨z0, z1, z2⟩ := cell3s (hS.spot HA.out); clear hS hHeld; go_simp⟩) hHeld ?_
  try simp only [Act.put, List.setIfInBounds_toArray, List.set_cons_zero, List.set_cons_succ, List.getElem_toArray, List.getElem_cons_zero, List.getElem_cons_succ]
  refine wpAnyH_ready (rs := [59]) (by as_aux_lemma => kernel_rfl) (by simp) ?_
  refine AllReadyH.cons rfl (fun K hK => ?_) AllReadyH.nil
  try simp only [Act.put, List.setIfInBounds_toArray, List.set_cons_zero, List.set_cons_succ, List.getElem_toArray, List.getElem_cons_zero, List.getElem_cons_succ]
  go_simp
  go_at_call 12
  refine (lvZero3 0 0 1 hHeld.lv).mono ?_
  rintro e wc14 ⟨rfl, hbw⟩
  refine hK.out _ _ (hHeld.step hbw) (fun hHeld2 => ?_)
  clear hK K hHeld
  have hHeld := hHeld2
  clear hHeld2
  try simp only [Act.put, List.setIfInBounds_toArray, List.set_cons_zero, List.set_cons_succ, List.getElem_toArray, List.getElem_cons_zero, List.getElem_cons_succ]
  clear hbw
  refine wpAnyH_puts [(60, 141), (61, 142), (62, 143), (63, 144)] [(141, .bool true), (142, .bool true), (143, .bool true), (144, .pointer (some ⟨Q3, 0, none⟩))] [60, 61, 62, 63] 4 rfl (by as_aux_lemma => kernel_rfl) (by as_aux_lemma => kernel_rfl) (fun _ _ _ _ _ h => h) hHeld ?_
  simp only [putsOf, listsOf, List.setIfInBounds_toArray, List.set_cons_zero, List.set_cons_succ]
  refine wpAnyH_ready (rs := [64]) (by as_aux_lemma => kernel_rfl) (by simp) ?_
  refine AllReadyH.cons rfl (fun K hK => ?_) AllReadyH.nil
  try simp only [Act.put, List.setIfInBounds_toArray, List.set_cons_zero, List.set_cons_succ, List.getElem_toArray, List.getElem_cons_zero, List.getElem_cons_succ]
  go_simp
  go_at_call 19
  refine (KV.list0 hHeld).mono ?_
  rintro e wc15 ⟨A0, c0, rfl, hbl⟩
  refine hK.out _ _ (hHeld.step hbl) (fun hHeld2 => ?_)
  clear hK K hHeld
  have hHeld := hHeld2
  clear hHeld2
  try simp only [Act.put, List.setIfInBounds_toArray, List.set_cons_zero, List.set_cons_succ, List.getElem_toArray, List.getElem_cons_zero, List.getElem_cons_succ]
  clear hbl
  refine wpAnyH_take (i := 65) (v := .int .i64 0) rfl (by as_aux_lemma => kernel_rfl) (by as_aux_lemma => kernel_rfl) (by as_aux_lemma => kernel_rfl) (fun _ _ _ h => h) (Or.inl ⟨by as_aux_lemma => kernel_rfl, fun W hS => by clear hS hHeld; go_simp⟩) hHeld ?_
  try simp only [Act.put, List.setIfInBounds_toArray, List.set_cons_zero, List.set_cons_succ, List.getElem_toArray, List.getElem_cons_zero, List.getElem_cons_succ]
  refine wpAnyH_take (i := 66) (v := .bool true) rfl (by as_aux_lemma => kernel_rfl) (by as_aux_lemma => kernel_rfl) (by as_aux_lemma => kernel_rfl) (fun _ _ _ h => h) (Or.inl ⟨by as_aux_lemma => kernel_rfl, fun W hS => by clear hS hHeld; go_simp⟩) hHeld ?_
  try simp only [Act.put, List.setIfInBounds_toArray, List.set_cons_zero, List.set_cons_succ, List.getElem_toArray, List.getElem_cons_zero, List.getElem_cons_succ]
  refine wpAnyH_puts [(67, 148), (68, 149), (69, 150), (70, 151), (71, 152), (72, 153), (73, 154)] [(148, .bool true), (149, .bool true), (150, .bool false), (151, .bool true), (152, .bool true), (153, .bool true), (154, .pointer none)] [67, 68, 69, 70, 71, 72, 73] 7 rfl (by as_aux_lemma => kernel_rfl) (by as_aux_lemma => kernel_rfl) (fun _ _ _ _ _ h => h) hHeld ?_
  simp only [putsOf, listsOf, List.setIfInBounds_toArray, List.set_cons_zero, List.set_cons_succ]
  refine wpAnyH_ready (rs := [74]) (by as_aux_lemma => kernel_rfl) (by simp) ?_
  refine AllReadyH.cons rfl (fun K hK => ?_) AllReadyH.nil
  try simp only [Act.put, List.setIfInBounds_toArray, List.set_cons_zero, List.set_cons_succ, List.getElem_toArray, List.getElem_cons_zero, List.getElem_cons_succ]
  go_simp
  go_at_call 15
  refine (qLen_nil _).mono ?_
  rintro e _ ⟨rfl, rfl⟩
  refine hK.out _ _ hHeld (fun hHeld2 => ?_)
  clear hK K hHeld
  have hHeld := hHeld2
  clear hHeld2
  try simp only [Act.put, List.setIfInBounds_toArray, List.set_cons_zero, List.set_cons_succ, List.getElem_toArray, List.getElem_cons_zero, List.getElem_cons_succ]
  refine wpAnyH_take (i := 75) (v := .bool true) rfl (by as_aux_lemma => kernel_rfl) (by as_aux_lemma => kernel_rfl) (by as_aux_lemma => kernel_rfl) (fun _ _ _ h => h) (Or.inl ⟨by as_aux_lemma => kernel_rfl, fun W hS => by clear hS hHeld; go_simp⟩) hHeld ?_
  try simp only [Act.put, List.setIfInBounds_toArray, List.set_cons_zero, List.set_cons_succ, List.getElem_toArray, List.getElem_cons_zero, List.getElem_cons_succ]
  refine wpAnyH_puts [(76, 157), (77, 158), (78, 159)] [(157, .bool true), (158, .bool true), (159, .pointer none)] [76, 77, 78] 3 rfl (by as_aux_lemma => kernel_rfl) (by as_aux_lemma => kernel_rfl) (fun _ _ _ _ _ h => h) hHeld ?_
  simp only [putsOf, listsOf, List.setIfInBounds_toArray, List.set_cons_zero, List.set_cons_succ]
  refine wpAnyH_ready (rs := [79]) (by as_aux_lemma => kernel_rfl) (by simp) ?_
  refine AllReadyH.cons rfl (fun K hK => ?_) AllReadyH.nil
  try simp only [Act.put, List.setIfInBounds_toArray, List.set_cons_zero, List.set_cons_succ, List.getElem_toArray, List.getElem_cons_zero, List.getElem_cons_succ]
  go_simp
  go_at_call 16
  refine (bFull_nil _).mono ?_
  rintro e wc16 ⟨rfl, hdw⟩
  refine hK.out _ _ (hHeld.step hdw.below) (fun hHeld2 => ?_)
  clear hK K hHeld
  have hHeld := hHeld2
  clear hHeld2
  try simp only [Act.put, List.setIfInBounds_toArray, List.set_cons_zero, List.set_cons_succ, List.getElem_toArray, List.getElem_cons_zero, List.getElem_cons_succ]
  clear hdw
  refine wpAnyH_puts [(80, 161), (81, 162), (82, 163)] [(161, .bool true), (162, .bool true), (163, .pointer none)] [80, 81, 82] 3 rfl (by as_aux_lemma => kernel_rfl) (by as_aux_lemma => kernel_rfl) (fun _ _ _ _ _ h => h) hHeld ?_
  simp only [putsOf, listsOf, List.setIfInBounds_toArray, List.set_cons_zero, List.set_cons_succ]
  refine wpAnyH_take (i := 83) (v := .agg #[.int .u64 0, .int .u64 0, .int .i64 1]) rfl (by as_aux_lemma => kernel_rfl) (by as_aux_lemma => kernel_rfl) (by as_aux_lemma => kernel_rfl) (fun _ _ _ h => h) (Or.inl ⟨by as_aux_lemma => kernel_rfl, fun W hS => by obtain ⟨z0, z1, z2⟩ := cell3s (hS.spot HA.out); clear hS hHeld; go_simp⟩) hHeld ?_
  try simp only [Act.put, List.setIfInBounds_toArray, List.set_cons_zero, List.set_cons_succ, List.getElem_toArray, List.getElem_cons_zero, List.getElem_cons_succ]
  refine wpAnyH_ready (rs := [84]) (by as_aux_lemma => kernel_rfl) (by simp) ?_
  refine AllReadyH.cons rfl (fun K hK => ?_) AllReadyH.nil
  try simp only [Act.put, List.setIfInBounds_toArray, List.set_cons_zero, List.set_cons_succ, List.getElem_toArray, List.getElem_cons_zero, List.getElem_cons_succ]
  go_simp
  go_at_call 12
  refine (bOffer_nil ((0, 0), 1) _).mono ?_
  rintro e wc17 ⟨rfl, hbw⟩
  refine hK.out _ _ (hHeld.step hbw) (fun hHeld2 => ?_)
  clear hK K hHeld
  have hHeld := hHeld2
  clear hHeld2
  try simp only [Act.put, List.setIfInBounds_toArray, List.set_cons_zero, List.set_cons_succ, List.getElem_toArray, List.getElem_cons_zero, List.getElem_cons_succ]
  clear hbw
  refine wpAnyH_puts [(85, 166), (86, 167), (87, 168), (88, 169)] [(166, .bool true), (167, .bool true), (168, .bool true), (169, .pointer none)] [85, 86, 87, 88] 4 rfl (by as_aux_lemma => kernel_rfl) (by as_aux_lemma => kernel_rfl) (fun _ _ _ _ _ h => h) hHeld ?_
  simp only [putsOf, listsOf, List.setIfInBounds_toArray, List.set_cons_zero, List.set_cons_succ]
  refine wpAnyH_ready (rs := [89]) (by as_aux_lemma => kernel_rfl) (by simp) ?_
  refine AllReadyH.cons rfl (fun K hK => ?_) AllReadyH.nil
  try simp only [Act.put, List.setIfInBounds_toArray, List.set_cons_zero, List.set_cons_succ, List.getElem_toArray, List.getElem_cons_zero, List.getElem_cons_succ]
  go_simp
  go_at_call 19
  refine (bList_nil _).mono ?_
  rintro e _ ⟨rfl, rfl⟩
  refine hK.out _ _ hHeld (fun hHeld2 => ?_)
  clear hK K hHeld
  have hHeld := hHeld2
  clear hHeld2
  try simp only [Act.put, List.setIfInBounds_toArray, List.set_cons_zero, List.set_cons_succ, List.getElem_toArray, List.getElem_cons_zero, List.getElem_cons_succ]
  refine wpAnyH_take (i := 90) (v := .int .i64 0) rfl (by as_aux_lemma => kernel_rfl) (by as_aux_lemma => kernel_rfl) (by as_aux_lemma => kernel_rfl) (fun _ _ _ h => h) (Or.inl ⟨by as_aux_lemma => kernel_rfl, fun W hS => by clear hS hHeld; go_simp⟩) hHeld ?_
  try simp only [Act.put, List.setIfInBounds_toArray, List.set_cons_zero, List.set_cons_succ, List.getElem_toArray, List.getElem_cons_zero, List.getElem_cons_succ]
  refine wpAnyH_take (i := 91) (v := .bool true) rfl (by as_aux_lemma => kernel_rfl) (by as_aux_lemma => kernel_rfl) (by as_aux_lemma => kernel_rfl) (fun _ _ _ h => h) (Or.inl ⟨by as_aux_lemma => kernel_rfl, fun W hS => by clear hS hHeld; go_simp⟩) hHeld ?_
  try simp only [Act.put, List.setIfInBounds_toArray, List.set_cons_zero, List.set_cons_succ, List.getElem_toArray, List.getElem_cons_zero, List.getElem_cons_succ]
  refine wpAnyH_puts [(92, 173), (93, 0)] [(173, .bool true), (0, .bool true)] [92, 93] 2 rfl (by as_aux_lemma => kernel_rfl) (by as_aux_lemma => kernel_rfl) (fun _ _ _ _ _ h => h) hHeld ?_
  simp only [putsOf, listsOf, List.setIfInBounds_toArray, List.set_cons_zero, List.set_cons_succ]
  refine wpAnyH_done (by as_aux_lemma => kernel_rfl) ?_ _
  have HF := hide hHeld
  clear hHeld
  go_wp2
  go_ret
  exact ⟨rfl, by have h1 := HW.out; have h2 := HF.out.lv.bel; exact Below.step (by first | exact h1 | (rw [← HgA.out]; exact h1)) h2⟩
end Go.Proofs.Ytknljldmjicfgae
