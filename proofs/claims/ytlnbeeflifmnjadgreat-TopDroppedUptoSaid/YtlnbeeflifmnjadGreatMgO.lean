/-
  Texts of one part, put together. No condition.
-/
import Derived.Test.YtlnbeeflifmnjadGreatMgR
import Derived.Test.YtlnbeeflifmnjadGreatMgN
import Derived.Test.YtlnbeeflifmnjadGreatRowX
import Derived.RegionTactic
import Derived.Test.YtlnbeeflifmnjadGreatMgJ
import Derived.Deep.LoopGhost
/-
  The package reach: the wave in memory. Conditions: the slice of nodes reads as a list, its numbers are small.
-/
namespace Go.Proofs.YtlnbeeflifmnjadGreat
set_option linter.unusedSimpArgs false
set_option linter.unusedVariables false
open Go.RowKit

/-- a wave's object at X, its map at M, its edge a row of its own; tr were met, each time -/
structure WvA (w : World) (X M : Nat) (N : Option Addr) (nn cN : Nat) (en top level : Int) (ve : Value) (s : RcS) (W : World) : Prop where
  bel : Below w.heap.size w W
  x : Blk W X 67 #[.slice N nn cN, .int .i64 en, .int .i64 top, .int .i64 level, .map (some M), ve]
  mp : ∃ m, MapA .i64 (Value.int .i64) W M m ∧ CntM m s.1
  own : W.ownsRow w.heap.size 3 1 ve s.2.length (fcs encI s.2)
  hX : w.heap.size ≤ X
  hM : w.heap.size ≤ M
/-- what may have turned: the wave's blocks alone -/
structure TurnV (W W' : World) (X M : Nat) (ve ve' : Value) : Prop where
  size : W.heap.size ≤ W'.heap.size
  block : ∀ k, k < W.heap.size → k ≠ X → k ≠ M → some k ≠ ve.ownBlock → W'.heap[k]? = W.heap[k]?
  new : ∀ d, ve'.ownBlock = some d → ve.ownBlock = some d ∨ W.heap.size ≤ d
theorem TurnV.refl (W : World) (X M : Nat) (ve : Value) : TurnV W W X M ve ve := ⟨Nat.le_refl _, fun _ _ _ _ _ => rfl, fun _ h => .inl h⟩
theorem TurnV.trans {W W' W'' : World} {X M : Nat} {a b c : Value} (h : TurnV W W' X M a b) (k : TurnV W' W'' X M b c) : TurnV W W'' X M a c :=
  ⟨Nat.le_trans h.size k.size, fun i hi h1 h2 h3 => (k.block i (Nat.lt_of_lt_of_le hi h.size) h1 h2 (fun e => by
    rcases h.new i e.symm with h4 | h4
    · exact h3 h4.symm
    · omega)).trans (h.block i hi h1 h2 h3), fun d hd => by
    rcases k.new d hd with h4 | h4
    · exact h.new d h4
    · exact .inr (Nat.le_trans h.size h4)⟩
theorem TurnV.of_below {W W' : World} {X M : Nat} {ve : Value} (hb : Below W.heap.size W W') : TurnV W W' X M ve ve := ⟨hb.size, fun k hk _ _ _ => hb.block k hk, fun _ h => .inl h⟩
section
variable {w W W' : World} {X M : Nat} {N : Option Addr} {nn cN : Nat} {en top level : Int} {ve : Value} {s : RcS}
theorem WvA.step (h : WvA w X M N nn cN en top level ve s W) (hb : Below W.heap.size W W') : WvA w X M N nn cN en top level ve s W' := by
  obtain ⟨m, h1, h2⟩ := h.mp
  exact ⟨Below.step h.bel hb, h.x.below hb h.x.lt, ⟨m, h1.below hb h1.lt, h2⟩, own_keep h.own fun g hg => hb.block g (h.own.lt g hg).2, h.hX, h.hM⟩
theorem WvA.cells (h : WvA w X M N nn cN en top level ve s W) : W.cell? ⟨X, 0, none⟩ = some (.slice N nn cN) ∧ W.cell? ⟨X, 1, none⟩ = some (.int .i64 en) ∧ W.cell? ⟨X, 2, none⟩ = some (.int .i64 top) ∧ W.cell? ⟨X, 3, none⟩ = some (.int .i64 level) ∧ W.cell? ⟨X, 4, none⟩ = some (.map (some M)) ∧ W.cell? ⟨X, 5, none⟩ = some ve := by
  have p0 := h.x.cell 0
  have p1 := h.x.cell 1
  have p2 := h.x.cell 2
  have p3 := h.x.cell 3
  have p4 := h.x.cell 4
  have p5 := h.x.cell 5
  simp at p0 p1 p2 p3 p4 p5
  exact ⟨p0, p1, p2, p3, p4, p5⟩
theorem WvA.put {m m' : List (Int × Int)} {tr tr' e : List Int} (h : WvA w X M N nn cN en top level ve (tr, e) W) (hm : MapA .i64 (Value.int .i64) W M m) (hP : MapPut W W' M) (hM : MapA .i64 (Value.int .i64) W' M m') (hc : CntM m' tr') : WvA w X M N nn cN en top level ve (tr', e) W' ∧ TurnV W W' X M ve ve :=
  ⟨⟨hP.below h.bel h.hM, (hP.2.2.2.2 X (blk_ne_map h.x hm)).trans h.x, ⟨m', hM, hc⟩, own_put h.own hm hP, h.hX, h.hM⟩, by rw [hP.size]; exact Nat.le_refl _, fun k _ _ h2 _ => hP.2.2.2.2 k h2, fun _ k => .inl k⟩
/-- the edge is another row -/
theorem WvA.edge {ve' : Value} {tr e e' : List Int} (h : WvA w X M N nn cN en top level ve (tr, e) W) (hg : W.grownBy W' ve.ownBlock) (ho : W'.ownsRow w.heap.size 3 1 ve' e'.length (fcs encI e')) (hat : ∀ d, ve'.ownBlock = some d → ve.ownBlock = some d ∨ W.heap.size ≤ d) : WvA w X M N nn cN en top level ve' (tr, e') (W'.setCell ⟨X, 5, none⟩ ve') ∧ TurnV W (W'.setCell ⟨X, 5, none⟩ ve') X M ve ve' := by
  obtain ⟨m, hm, hc⟩ := h.mp
  have hx : Blk W' X 67 #[.slice N nn cN, .int .i64 en, .int .i64 top, .int .i64 level, .map (some M), ve] := h.x.grown hg (fun e => own_blk_ne h.own h.x (by decide) e.symm)
  have hm2 : MapA .i64 (Value.int .i64) W' M m := map_grown hm h.own hg
  have hXM : X ≠ M := blk_ne_map h.x hm
  refine ⟨⟨(below_own h.bel h.own h.bel.size hg).setCell h.hX _, by have := hx.set_ 5 ve'; simpa using this, ⟨m, hm2.block (Below.heap_setCell _ _ _ _ (fun e => hXM e.symm)), hc⟩, own_far ho _ (own_blk_ne ho hx (by decide)) _, h.hX, h.hM⟩, by simpa using hg.size, fun k hk h1 h2 h3 => ?_, hat⟩
  rw [Below.heap_setCell _ _ _ _ h1]
  exact hg.block k hk h3
set_option maxHeartbeats 4000000 in
set_option maxRecDepth 100000 in
/-- one is met -/
theorem wReach_any (h : WvA w X M N nn cN en top level ve s W) (h1 : s.1.length ≤ 1000000) (h2 : s.2.length ≤ 1000000) {n : Int} (hw : (Lit.int .i64 n).wf = true) :
    Calls Tryz.prog 45 #[.pointer (some ⟨X, 0, none⟩), .int .i64 n] W fun e w' => e = .returned (.tuple #[]) ∧ ∃ ve', WvA w X M N nn cN en top level ve' (rchS s n) w' ∧ TurnV W w' X M ve ve' := by
  obtain ⟨tr, e⟩ := s
  obtain ⟨m, hm, hc⟩ := h.mp
  simp only at h1 h2 hc
  obtain ⟨A0, c0, hve, d1, d2⟩ := own_form h.own
  simp only at hve d1
  obtain ⟨ne, hne⟩ : ∃ k, e.length = k := ⟨_, rfl⟩
  have Hne := hide hne
  rw [hne] at hve d1 h2
  clear hne
  subst hve
  have lo := hc.lo n
  have hi := hc.hi n
  have L := hm.atI hw
  obtain ⟨d, hd⟩ : ∃ d, lookW m n = d := ⟨_, rfl⟩
  rw [show (lookF m n).getD 0 = d from hd] at L
  have hcn := hc.next n
  rw [hd] at lo hi hcn
  have hwr : IntKind.i64.wrap (d + 1) = d + 1 := IntWalk.i64_in _ (by omega)
  obtain ⟨W2, U, hM2, hP2⟩ := hm.setI hw (d + 1)
  obtain ⟨k2, t2⟩ := h.put hm hP2 hM2 hcn
  have H2 := hide k2
  have T2 := hide t2
  have L2 := hM2.atI hw
  rw [show (lookF (putF m n (d + 1)) n).getD 0 = d + 1 from by rw [lookF_put, if_pos rfl]; rfl] at L2
  obtain ⟨_, _, _, _, p4, _⟩ := h.cells
  obtain ⟨_, _, _, _, q4, q5⟩ := k2.cells
  by_cases hx : n ∈ tr
  · have hd1 : 0 < d := by have := (hc.kn n).2 hx; omega
    have b0 : (d + 1 == 1) = false := beq_eq_false_iff_ne.2 (by omega)
    have HF := hide (show rchS (tr, e) n = (tr ++ [n], e) by unfold rchS; rw [if_pos hx])
    clear h hM2 hP2 hd hx hc hcn hm k2 t2 q5
    have HU := hide U
    go_enter Tryz.func45, Tryz.ntmps45
    go_wp2
    go_end0
    rw [HF.out]
    exact ⟨rfl, _, H2.out, T2.out⟩
  · have hd1 : d = 0 := by have := mt (hc.kn n).1 hx; omega
    have b0 : (d + 1 == 1) = true := by rw [hd1]; rfl
    have HF := hide (show rchS (tr, e) n = (tr ++ [n], e ++ [n]) by unfold rchS; rw [if_neg hx])
    have f5 := k2.x.frozen 5
    have HO2 := hide (show W2.ownsRow w.heap.size 3 1 (.slice A0 ne c0) ne (fcs encI e) from Hne.out ▸ k2.own)
    have HSz := hide (show w.heap.size ≤ W2.heap.size from k2.bel.size)
    clear h hM2 hP2 hd hx hc hcn hm k2 t2 hd1
    have HU := hide U
    go_enter Tryz.func45, Tryz.ntmps45
    go_wp2_with (at_builtin; (refine wpList_append_elem rfl (.tmp 22) (.tmp 24) 44 rfl w.heap.size Tryz.underlying44 info_intE rfl (by decide) (.slice A0 ne c0) ne _ rfl HO2.out _ _ rfl rfl (by simp [Value.oneCell']) (by simp only [maxLen]; omega) (by omega) HSz.out ?_; intro v9 w9 hown9 hgr9 hat9; obtain ⟨A8, c8, rfl, l1, l2⟩ := own_form hown9; have HE := hide (H2.out.edge (e' := e ++ [n]) hgr9 (by rw [List.length_append, fcsI_snoc, Hne.out]; exact hown9) (fun d hd => hat9.elim (fun e => .inl (e ▸ hd)) fun e => .inr (by rw [e] at hd; injection hd with hd; omega))); have g5 : w9.frozen? ⟨X, 5, none⟩ = false := (H2.out.x.grown hgr9 (fun e => own_blk_ne H2.out.own H2.out.x (by decide) e.symm)).frozen 5; have r5 : w9.cell? ⟨X, 5, none⟩ = some (.slice A0 ne c0) := (by have h := (H2.out.x.grown hgr9 (fun e => own_blk_ne H2.out.own H2.out.x (by decide) e.symm)).cell 5; simpa using h); clear hown9 hgr9 hat9))
    go_end0
    rw [HF.out]
    exact ⟨rfl, _, HE.out.1, T2.out.trans HE.out.2⟩
theorem WvA.start (W : World) (hb : Below w.heap.size w W) : WvA w (W.heap.size + 1) W.heap.size N nn cN en top level (.slice none 0 0) ([], []) ((W.alloc (.map #[] 0)).alloc (.cells #[.slice N nn cN, .int .i64 en, .int .i64 top, .int .i64 level, .map (some W.heap.size), .slice none 0 0] 67)) := by
  have hs := hb.size
  refine ⟨(hb.alloc hs _).alloc (by simp; omega) _, ?_, ⟨[], ?_, CntM.nil⟩, World.ownsRow_nil _ _ _ _, by omega, hs⟩
  · have := Blk.new (W.alloc (.map #[] 0)) 67 #[.slice N nn cN, .int .i64 en, .int .i64 top, .int .i64 level, .map (some W.heap.size), .slice none 0 0]
    simpa using this
  · exact MapA.block (MapA.new W) (Below.heap_alloc _ _ _ (by simp))
set_option maxHeartbeats 8000000 in
/-- a wave at its starts -/
theorem wBegin_any {Al : Option Addr} {nl cl : Nat} {l : List Int} (hl : Rd (Sh.int .i64) w w.heap.size Al l) (hnl : l.length = nl) (h6 : nl ≤ 1000) (hok : ∀ x ∈ l, (Lit.int .i64 x).wf = true) :
    Calls Tryz.prog 23 #[.agg #[.slice N nn cN, .int .i64 en, .int .i64 top], .slice Al nl cl, .int .i64 level] w fun e w' => ∃ X M ve, e = .returned (.pointer (some ⟨X, 0, none⟩)) ∧ WvA w X M N nn cN en top level ve (rchL ([], []) l) w' := by
  have HL := hide hl
  have Hnl := hide hnl
  have HOk := hide hok
  have HP := hide (PlB.start w #[.slice N nn cN, .int .i64 en, .int .i64 top])
  clear hl hnl hok
  have hmm := @run_makeMap Tryz.prog
  go_enter Tryz.func23, Tryz.ntmps23
  go_upto_region 1 with fail
  generalize World.alloc w _ = w1 at *
  obtain ⟨p0, p1, p2⟩ := HP.out.cells
  generalize hb1 : w.heap.size = b1 at p0 p1 p2 ⊢
  have Hb1 := hide hb1
  clear hb1
  go_upto_region 2 with fail
  clear p0 p1 p2
  have HW := hide (WvA.start (N := N) (nn := nn) (cN := cN) (en := en) (top := top) (level := level) w1 HP.out.bel)
  generalize World.alloc (World.alloc w1 _) _ = w2 at *
  generalize w1.heap.size + 1 = X at *
  generalize w1.heap.size = M at *
  go_wp2
  go_loopw [9, 17] (fun _ i wr => ∃ (k : Nat) (ve : Value), k ≤ nl ∧ i = .int .i64 k ∧ Hid (WvA w X M N nn cN en top level ve (rchL ([], []) (l.take k)) wr)) (fun _ i _ => nl - (intOf i).toNat)
  case atStart => exact ⟨0, _, by omega, rfl, HW⟩
  case round =>
    obtain ⟨k, ve, hk, rfl, HV⟩ := hrel
    clear HW
    by_cases hlt : k < nl
    · obtain ⟨ad, y, rfl, _, hv, q0⟩ := RdR.cell (HL.out.at_world HV.out.bel) (k := k) (by have := Hnl.out; omega)
      have g0 : (0 : Int) ≤ k := by omega
      have g1 : (k : Int) < nl := by omega
      have hsn := hide (show rchL ([], []) (l.take (k + 1)) = rchS (rchL ([], []) (l.take k)) y by rw [take_snocW hv, rchL_snoc])
      have hw := HOk.out y (List.mem_of_getElem? hv)
      have CR := hide (wReach_any HV.out (by rw [rchL_len, List.length_take]; simp; omega) (by have := rchL_le ([], []) (l.take k); rw [List.length_take] at this; simp only [List.length_nil] at this; omega) hw)
      clear hv hw
      go_wp2_with (go_at_call 45; refine CR.out.mono ?_; rintro e w3 ⟨rfl, ve3, hW3, hT3⟩; have HW3 := hide (show WvA w X M N nn cN en top level ve3 (rchL ([], []) (l.take (k + 1))) w3 from hsn.out ▸ hW3); clear hW3 hT3)
      go_roundw
      case rel => exact ⟨k + 1, ve3, by omega, by go_num, HW3⟩
      case measure => simp [intOf]; omega
    · obtain rfl : nl = k := by omega
      have HF := hide (show rchL ([], []) l = rchL ([], []) (l.take nl) by rw [List.take_of_length_le (by have := Hnl.out; omega)])
      go_wp2
      go_ret
      rw [HF.out]
      exact ⟨X, M, ve, rfl, HV.out⟩
end
end Go.Proofs.YtlnbeeflifmnjadGreat

/-
  The package reach: a step further, From, Whole. Conditions: the slice of nodes reads as a list, its numbers are small.
-/
namespace Go.Proofs.YtlnbeeflifmnjadGreat
set_option linter.unusedSimpArgs false
set_option linter.unusedVariables false
open Go.RowKit

theorem own_rdI {W : World} {R : Nat → Prop} {base n c : Nat} {e : TypeId} {A : Option Addr} {l : List Int} (ho : W.ownsRow base e 1 (.slice A n c) n (fcs encI l)) (hR : ∀ g, (Value.slice A n c).ownBlock = some g → R g) : RdR (Sh.int .i64) W R A l := fun hne => by
  have hl : l.length = n := by have := ho.1; rw [fcsI, List.length_map] at this; omega
  obtain ⟨g, cap, hv, hg, hlt⟩ := ho.form (by have := List.length_pos_iff.2 hne; omega)
  have hA : A = some ⟨g, 0, none⟩ := by injection hv
  subst hA
  exact flatI.mk_ (R := R) (ad := ⟨g, 0, none⟩) (hR g rfl) (fun j u hu => ho.cells (g := g) rfl j _ hu) hne
/-- blocks that the wave leaves alone -/
def FrV (W : World) (X M : Nat) (ve : Value) (d : Nat) : Prop := d < W.heap.size ∧ d ≠ X ∧ d ≠ M ∧ ve.ownBlock ≠ some d
theorem TurnV.free {α : Type} {S : Sh α} {W W' : World} {X M : Nat} {ve ve' : Value} {A : Option Addr} {l : List α} (h : TurnV W W' X M ve ve') (hr : RdR S W (FrV W X M ve) A l) : RdR S W' (FrV W' X M ve') A l :=
  (hr.keepBlocks fun d hd => h.block d hd.1 hd.2.1 hd.2.2.1 fun e => hd.2.2.2 e.symm).more fun d hd => ⟨Nat.lt_of_lt_of_le hd.1 h.size, hd.2.1, hd.2.2.1, fun e => by
    rcases h.new d e with k | k
    · exact hd.2.2.2 k
    · have := hd.1; omega⟩
section
variable {w W W' : World} {X M : Nat} {N : Option Addr} {nn cN : Nat} {en top level : Int} {ve : Value} {s : RcS} {ns : List NodeP}
theorem near_wf {n x : Int} (h20 : ns.length ≤ 20) (hx : x ∈ nearF ns n level) : (Lit.int .i64 x).wf = true := by
  have := there_lt (near_there hx)
  exact wfI (by omega)
theorem WvA.fresh (h : WvA w X M N nn cN en top level ve s W) {d : Nat} (h1 : W.heap.size ≤ d) (h2 : d < W'.heap.size) : FrV W' X M ve d := by
  obtain ⟨m, hm, _⟩ := h.mp
  exact ⟨h2, fun e => by have := h.x.lt; omega, fun e => by have := hm.lt; omega, fun e => by have := (h.own.lt d e).2; omega⟩
set_option maxHeartbeats 16000000 in
set_option maxRecDepth 100000 in
/-- a step further -/
theorem wSpread_any (hp : PlN w N nn ns) (h : WvA w X M N nn cN en top level ve s W) (h1 : s.1.length ≤ 500000) (h2 : s.2.length ≤ 2000) :
    Calls Tryz.prog 24 #[.pointer (some ⟨X, 0, none⟩)] W fun e w' => e = .returned (.bool (decide (0 < (sprS ns level s).2.length))) ∧ ∃ ve', WvA w X M N nn cN en top level ve' (sprS ns level s) w' := by
  obtain ⟨tr, ed⟩ := s
  have HP := hide hp
  have h20 := hp.n20
  have Hl := hide hp.len
  simp only at h1 h2
  have hown := h.own
  obtain ⟨Ae, ce, rfl, c1, c2⟩ := own_form hown
  simp only at c1
  have HE := (own_rdI (R := fun d => d < W.heap.size ∧ d ≠ X ∧ d ≠ M) hown fun g hg => ⟨(hown.lt g hg).2, fun e => own_blk_ne hown h.x (by decide) (e ▸ hg), fun e => by obtain ⟨m, hm, _⟩ := h.mp; exact own_ne_map hown hm (e ▸ hg)⟩)
  obtain ⟨k1, k2⟩ := h.edge (W' := W) (ve' := .slice none 0 0) (e' := []) (World.grownBy.refl _ _) (World.ownsRow_nil _ _ _ _) (fun d hd => by simp [Value.ownBlock] at hd)
  have HE1 := hide (show RdR (Sh.int .i64) (W.setCell ⟨X, 5, none⟩ (.slice none 0 0)) (FrV (W.setCell ⟨X, 5, none⟩ (.slice none 0 0)) X M (.slice none 0 0)) Ae ed from (HE.keepBlocks fun d hd => Below.heap_setCell _ _ _ _ hd.2.1).more fun d hd => ⟨by simpa using hd.1, hd.2.1, hd.2.2, by simp [Value.ownBlock]⟩)
  have HV1 := hide k1
  obtain ⟨p0, p1, p2, p3, p4, p5⟩ := h.cells
  have f5 := h.x.frozen 5
  obtain ⟨ne, hne⟩ : ∃ k, ed.length = k := ⟨_, rfl⟩
  have Hne := hide hne
  simp only at p5
  rw [hne] at h2 c1 p5
  clear hp h hown HE k1 k2 hne
  go_enter Tryz.func24, Tryz.ntmps24
  go_upto_region 3 with fail
  clear p0 p1 p2 p3 p4 p5 f5
  generalize World.setCell W _ _ = W1 at *
  go_wp2
  go_loopw [17] (fun i wr => ∃ (k : Nat) (ve : Value), k ≤ ne ∧ i = .int .i64 k ∧ Hid (WvA w X M N nn cN en top level ve (sprL ns level (tr, []) (ed.take k)) wr) ∧ Hid (RdR (Sh.int .i64) wr (FrV wr X M ve) Ae ed)) (fun i _ => ne - (intOf i).toNat)
  case atStart => exact ⟨0, _, by omega, rfl, HV1, HE1⟩
  case round =>
    obtain ⟨k, ve, hk, rfl, HV, HE⟩ := hrel
    clear HV1 HE1
    by_cases hlt : k < ne
    · obtain ⟨ad, y, rfl, _, hv, q0⟩ := RdR.icell HE.out (k := k) (by have := Hne.out; omega)
      have g0 : (0 : Int) ≤ k := by omega
      have g1 : (k : Int) < ne := by omega
      have Hsn := hide (show sprL ns level (tr, []) (ed.take (k + 1)) = rchL (sprL ns level (tr, []) (ed.take k)) (nearF ns y level) by rw [take_snocW hv, sprL_snoc])
      have hs1 := sprL_len (ns := ns) (level := level) (tr, []) (ed.take k)
      have hs2 := sprL_le (ns := ns) (level := level) (tr, []) (ed.take k)
      rw [List.length_take, Nat.min_eq_left (by have := Hne.out; omega), Hl.out] at hs1 hs2
      simp only [List.length_nil] at hs1 hs2
      have hmul : nn * k ≤ 20 * 2000 := Nat.mul_le_mul h20 (by omega)
      obtain ⟨sk, hsk⟩ : ∃ x, sprL ns level (tr, []) (ed.take k) = x := ⟨_, rfl⟩
      rw [hsk] at HV Hsn hs1 hs2
      have Hs1 := hide (show sk.1.length ≤ 540000 by omega)
      have Hs2 := hide (show sk.2.length ≤ 40000 by omega)
      clear hsk hv hs1 hs2 hmul
      go_upto_region 6 with fail
      clear q0
      have HVd := hide (HV.out.step (Below.refl _ _).drew)
      have HEd := hide ((TurnV.of_below (ve := ve) (X := X) (M := M) (Below.refl _ _).drew).free HE.out)
      clear HV HE
      refine startO (S := (fun W => WvA w X M N nn cN en top level ve sk W)) 12 (by as_aux_lemma => kernel_rfl) (by as_aux_lemma => kernel_rfl) HVd.out (fun hHeld => ?_)
      generalize World.drew _ = Wd at *
      refine putsO [0, 4, 5, 11] [11, 5, 4, 0] [(32, .int .i64 0), (26, .pointer (some ⟨X, 0, none⟩)), (25, .int .i64 y), (21, .pointer (some ⟨X, 0, none⟩))] 4 rfl [21, 25, 26, 32] (by as_aux_lemma => kernel_rfl) (by as_aux_lemma => kernel_rfl) rfl (fun _ _ _ _ _ h => h) hHeld ?_
      refine takeO 1 22 (.nilCheck (.const (.pointer (some ⟨X, 0, none⟩)))) 0 (.pointer (some ⟨X, 0, none⟩)) (by as_aux_lemma => kernel_rfl) (by as_aux_lemma => kernel_rfl) (by as_aux_lemma => kernel_rfl) (fun _ _ _ _ _ h => h) (fun W hS => by clear hS hHeld; unfold cEv opC; as_aux_lemma => first | (go_simp; done) | (go_simp <;> rfl)) hHeld ?_
      refine takeO 6 27 (.nilCheck (.const (.pointer (some ⟨X, 0, none⟩)))) 0 (.pointer (some ⟨X, 0, none⟩)) (by as_aux_lemma => kernel_rfl) (by as_aux_lemma => kernel_rfl) (by as_aux_lemma => kernel_rfl) (fun _ _ _ _ _ h => h) (fun W hS => by clear hS hHeld; unfold cEv opC; as_aux_lemma => first | (go_simp; done) | (go_simp <;> rfl)) hHeld ?_
      refine takeO 2 23 (.fieldAddr 67 (.const (.pointer (some ⟨X, 0, none⟩))) 0) 0 (.pointer (some ⟨X, 0, none⟩)) (by as_aux_lemma => kernel_rfl) (by as_aux_lemma => kernel_rfl) (by as_aux_lemma => kernel_rfl) (fun _ _ _ _ _ h => h) (fun W hS => by clear hS hHeld; unfold cEv opC; as_aux_lemma => first | (go_simp; done) | (go_simp <;> rfl)) hHeld ?_
      refine takeO 7 28 (.fieldAddr 67 (.const (.pointer (some ⟨X, 0, none⟩))) 1) 0 (.pointer (some ⟨X, 3, none⟩)) (by as_aux_lemma => kernel_rfl) (by as_aux_lemma => kernel_rfl) (by as_aux_lemma => kernel_rfl) (fun _ _ _ _ _ h => h) (fun W hS => by clear hS hHeld; unfold cEv opC; as_aux_lemma => first | (go_simp; done) | (go_simp <;> rfl)) hHeld ?_
      refine takeO 3 24 (.load 24 (.const (.pointer (some ⟨X, 0, none⟩)))) 24 (.agg #[.slice N nn cN, .int .i64 en, .int .i64 top]) (by as_aux_lemma => kernel_rfl) (by as_aux_lemma => kernel_rfl) (by as_aux_lemma => kernel_rfl) (fun _ _ _ _ _ h => h) (fun W hS => by obtain ⟨z0, z1, z2, z3, z4, z5⟩ := hS.cells; clear hS hHeld; unfold cEv opC; as_aux_lemma => first | (go_simp; done) | (go_simp <;> rfl)) hHeld ?_
      refine takeO 8 29 (.load 3 (.const (.pointer (some ⟨X, 3, none⟩)))) 3 (.int .i64 level) (by as_aux_lemma => kernel_rfl) (by as_aux_lemma => kernel_rfl) (by as_aux_lemma => kernel_rfl) (fun _ _ _ _ _ h => h) (fun W hS => by obtain ⟨z0, z1, z2, z3, z4, z5⟩ := hS.cells; clear hS hHeld; unfold cEv opC; as_aux_lemma => first | (go_simp; done) | (go_simp <;> rfl)) hHeld ?_
      refine readyO [9] (by as_aux_lemma => kernel_rfl) (by simp) ?_
      refine callO 9 30 (.call { callee := .value (.func 46), args := #[.const (.agg #[.slice N nn cN, .int .i64 en, .int .i64 top]), .const (.int .i64 y), .const (.int .i64 level)], argTypes := #[24, 3, 3] }) 44 46 #[.agg #[.slice N nn cN, .int .i64 en, .int .i64 top], .int .i64 y, .int .i64 level] (by as_aux_lemma => kernel_rfl) (by as_aux_lemma => kernel_rfl) (by unfold cEv opC; go_simp) ?_ AllReadyH.nil
      refine (near_any (cN := cN) (en := en) (top := top) (HP.out.at_ hHeld.bel).nd HP.out.len HP.out.ok HP.out.sm y level).mono ?_
      rintro e w5 ⟨An, m5, c5, rfl, l1, l2, l3, hr5, hb5⟩
      refine ⟨_, rfl, (hHeld.step hb5), fun hHeld2 => ?_⟩
      clear hHeld
      have hHeld := hHeld2
      clear hHeld2
      have HL5 := hide l1
      have HR5 := hide (show RdR (Sh.int .i64) w5 (FrV w5 X M ve) An (nearF ns y level) from hr5.more fun d hd => HVd.out.fresh hd.1 hd.2)
      have HE5 := hide ((TurnV.of_below hb5).free HEd.out)
      clear l1 hr5 hb5
      refine takeO 10 31 (.call { callee := .builtin .len, args := #[.const (.slice An m5 c5)], argTypes := #[44] }) 3 (.int .i64 m5) (by as_aux_lemma => kernel_rfl) (by as_aux_lemma => kernel_rfl) (by as_aux_lemma => kernel_rfl) (fun _ _ _ _ _ h => h) (fun W hS => by clear hS hHeld; unfold cEv opC; as_aux_lemma => first | (go_simp; done) | (go_simp <;> rfl)) hHeld ?_
      refine doneO [(21, .pointer (some ⟨X, 0, none⟩)), (0, .pointer (some ⟨X, 0, none⟩)), (0, .pointer (some ⟨X, 0, none⟩)), (0, .agg #[.slice N nn cN, .int .i64 en, .int .i64 top]), (0, .int .i64 y), (0, .pointer (some ⟨X, 0, none⟩)), (0, .pointer (some ⟨X, 0, none⟩)), (0, .pointer (some ⟨X, 3, none⟩)), (0, .int .i64 level), (0, .slice An m5 c5), (0, .int .i64 m5), (0, .int .i64 0)] (by as_aux_lemma => kernel_rfl) (by as_aux_lemma => kernel_rfl) ?_
      simp only [fillG]
      have HV5 := hide hHeld
      clear hHeld HVd HEd
      have Hm5 := hide (near_len ns y level)
      have hm5 : m5 ≤ 20 := by have := Hm5.out; have := HL5.out; have := Hl.out; omega
      go_wp2
      go_loopw [32] (fun i wr => ∃ (j : Nat) (ve1 : Value), j ≤ m5 ∧ i = .int .i64 j ∧ Hid (WvA w X M N nn cN en top level ve1 (rchL sk ((nearF ns y level).take j)) wr) ∧ Hid (RdR (Sh.int .i64) wr (FrV wr X M ve1) An (nearF ns y level)) ∧ Hid (RdR (Sh.int .i64) wr (FrV wr X M ve1) (some ad) ed)) (fun i _ => m5 - (intOf i).toNat)
      case atStart => exact ⟨0, ve, by omega, rfl, HV5, HR5, HE5⟩
      case round =>
        obtain ⟨j, ve1, hj, rfl, HVj, HRj, HEj⟩ := hrel
        clear HV5 HR5 HE5
        by_cases hjl : j < m5
        · obtain ⟨ad2, z, rfl, _, hv2, q2⟩ := RdR.icell HRj.out (k := j) (by have := HL5.out; omega)
          have j0 : (0 : Int) ≤ j := by omega
          have j1 : (j : Int) < m5 := by omega
          have Hsn2 := hide (show rchL sk ((nearF ns y level).take (j + 1)) = rchS (rchL sk ((nearF ns y level).take j)) z by rw [take_snocW hv2, rchL_snoc])
          have hw := near_wf (ns := ns) (level := level) (n := y) (by rw [Hl.out]; exact h20) (List.mem_of_getElem? hv2)
          have CR := hide (wReach_any HVj.out (by rw [rchL_len, List.length_take]; have := Hs1.out; omega) (by have := rchL_le sk ((nearF ns y level).take j); rw [List.length_take] at this; have := Hs2.out; omega) hw)
          clear hv2 hw
          go_wp2_with (go_at_call 45; refine CR.out.mono ?_; rintro e w6 ⟨rfl, ve6, hW6, hT6⟩; have HV6 := hide (show WvA w X M N nn cN en top level ve6 (rchL sk ((nearF ns y level).take (j + 1))) w6 from Hsn2.out ▸ hW6); have HR6 := hide (hT6.free HRj.out); have HE6 := hide (hT6.free HEj.out); clear hW6 hT6)
          go_roundw
          case rel => exact ⟨j + 1, ve6, by omega, by go_num, HV6, HR6, HE6⟩
          case measure => simp [intOf]; omega
        · obtain rfl : m5 = j := by omega
          have HVn := hide (show WvA w X M N nn cN en top level ve1 (sprL ns level (tr, []) (ed.take (k + 1))) _ from by rw [Hsn.out]; have h := HVj.out; rw [List.take_of_length_le (by rw [HL5.out]; exact Nat.le_refl _)] at h; exact h)
          clear HVj HRj
          go_wp2
          go_roundw
          case rel => exact ⟨k + 1, ve1, by omega, by go_num, HVn, HEj⟩
          case measure => simp [intOf]; omega
    · obtain rfl : ne = k := by omega
      have HVn := hide (show WvA w X M N nn cN en top level ve (sprS ns level (tr, ed)) wr from by
        have h := HV.out
        rw [List.take_of_length_le (by rw [Hne.out]; exact Nat.le_refl _)] at h
        exact h)
      clear HV HE
      obtain ⟨s2, hs2⟩ : ∃ x, sprS ns level (tr, ed) = x := ⟨_, rfl⟩
      have Hs2 := hide hs2
      rw [hs2] at HVn
      clear hs2
      have hown := HVn.out.own
      obtain ⟨A9, c9, hve, d1, d2⟩ := own_form hown
      obtain ⟨n9, hn9⟩ : ∃ k, s2.2.length = k := ⟨_, rfl⟩
      rw [hn9] at hve
      obtain ⟨p0, p1, p2, p3, p4, p5⟩ := HVn.out.cells
      rw [hve] at p5
      clear hown d1 hve
      have Hn9 := hide hn9
      clear hn9
      go_wp2
      go_ret
      rw [Hs2.out, Hn9.out]
      exact ⟨by simp, ve, HVn.out⟩
/-- what From gives -/
def GivesFr (ns : List NodeP) (starts : List Int) (level : Int) (w : World) (e : Ending) (w' : World) : Prop := ∃ l, FromR ns starts level l ∧ GivesN w l e w'
theorem unk_nil : unkN ns [] ≤ ns.length := unkN_le ns []
theorem met_no {t : RcS} {k : Nat} {x : Int} (h : (liveF ns)[k]? = some x) (hx : x ∉ t.1) : ((liveF ns).take (k + 1)).filter (fun n => decide (n ∈ t.1)) = ((liveF ns).take k).filter (fun n => decide (n ∈ t.1)) := by
  rw [take_snocW h, List.filter_append]; simp [hx]
theorem met_yes {t : RcS} {k : Nat} {x : Int} (h : (liveF ns)[k]? = some x) (hx : x ∈ t.1) : ((liveF ns).take (k + 1)).filter (fun n => decide (n ∈ t.1)) = ((liveF ns).take k).filter (fun n => decide (n ∈ t.1)) ++ [x] := by
  rw [take_snocW h, List.filter_append]; simp [hx]
set_option maxHeartbeats 16000000 in
set_option maxRecDepth 100000 in
theorem wFrom_any (hp : PlN w N nn ns) {Al : Option Addr} {nl cl : Nat} {l : List Int} (hl : Rd (Sh.int .i64) w w.heap.size Al l) (hnl : l.length = nl) (h6 : nl ≤ 1000) (hok : ∀ x ∈ l, (Lit.int .i64 x).wf = true) :
    Calls Tryz.prog 13 #[.agg #[.slice N nn cN, .int .i64 en, .int .i64 top], .slice Al nl cl, .int .i64 level] w (GivesFr ns l level w) := by
  have HP := hide hp
  have HS := hide (PlB.start w #[.slice N nn cN, .int .i64 en, .int .i64 top])
  have HLs := hide (hl.at_world (below1 w (.cells #[.slice N nn cN, .int .i64 en, .int .i64 top] 24)))
  have Hnl := hide hnl
  have HOk := hide hok
  have h20 := hp.n20
  have Hl := hide hp.len
  clear hp hl hnl hok
  go_enter Tryz.func13, Tryz.ntmps13
  go_upto_region 1 with fail
  generalize World.alloc w _ = w1 at *
  obtain ⟨b1, hb1⟩ : ∃ b, w.heap.size = b := ⟨_, rfl⟩
  rw [hb1] at HS
  rw [hb1]
  clear hb1
  obtain ⟨p0, p1, p2⟩ := HS.out.cells
  go_wp2_with (go_at_call 23; refine (wBegin_any (N := N) (nn := nn) (cN := cN) (en := en) (top := top) (level := level) HLs.out Hnl.out h6 HOk.out).mono ?_; rintro e w2 ⟨X, M, ve, rfl, hW⟩; have HW := hide hW; clear hW)
  clear p0 p1 p2
  have HP1 := hide (HP.out.at_ HS.out.bel)
  go_loopg [] (unkN ns (rchL ([], []) l).1 + 1) (fun gk wr => ∃ (s : RcS) (ve : Value), gk = unkN ns s.1 + 1 ∧ Hid (WvA w1 X M N nn cN en top level ve s wr) ∧ Hid (∀ t, SprR ns level s t → SprR ns level (rchL ([], []) l) t) ∧ Hid (∃ dn, RcI ns level l s.1 dn s.2) ∧ Hid (s.1.length + 21000 * unkN ns s.1 ≤ 421000))
  case atStart =>
    refine ⟨_, ve, rfl, HW, hide fun t h => h, hide ⟨_, RcI.start⟩, hide ?_⟩
    have h1 := rchL_len ([], []) l
    have h2 : unkN ns (rchL ([], []) l).1 ≤ unkN ns [] := unkN_mono (by simp)
    have h3 := unk_nil (ns := ns)
    have := Hl.out
    have := Hnl.out
    simp only [List.length_nil] at h1
    omega
  case round =>
    obtain ⟨s, ve1, rfl, HV, HR, HI, HB⟩ := hrel
    clear HW
    obtain ⟨dn, hdn⟩ := HI.out
    have hfew := hdn.few
    have hnext := hide (show ∃ dn, RcI ns level l (sprS ns level s).1 dn (sprS ns level s).2 from ⟨_, hdn.spread⟩)
    have hlen := sprL_len (ns := ns) (level := level) (s.1, []) s.2
    have hl2 : s.2.length ≤ 1020 := by have := Hl.out; have := Hnl.out; omega
    have hl1 : s.1.length ≤ 421000 := by have := HB.out; omega
    have hmul : ns.length * s.2.length ≤ 20 * 1020 := Nat.mul_le_mul (by have := Hl.out; omega) hl2
    have CS := hide (wSpread_any HP1.out HV.out (by omega) (by omega))
    by_cases he : (sprS ns level s).2 = []
    · have hT := hide (HR.out _ (SprR.stop s he))
      have e0 : decide (0 < (sprS ns level s).2.length) = false := by rw [he]; rfl
      rw [e0] at CS
      obtain ⟨t, ht⟩ : ∃ x, sprS ns level s = x := ⟨_, rfl⟩
      rw [ht] at CS hT
      clear he hdn hfew hlen hmul hnext e0 ht HB HI
      go_wp2_with (first
        | (go_at_call 24; refine CS.out.mono ?_; rintro e w3 ⟨rfl, ve3, hW⟩; have HW3 := hide hW; have HS3 := hide (HS.out.step HW3.out.bel); obtain ⟨p0, p1, p2⟩ := HS3.out.cells; clear hW CS HV)
        | (go_at_call 12; refine (live_any (cN := cN) (en := en) (top := top) (HP1.out.at_ HW3.out.bel)).mono ?_; rintro e w4 ⟨Av, nv, cv, rfl, hl1, hc1, hc2, hr1, hb⟩; have HL1 := hide hl1; have HR1 := hide (hr1.rd fun d hd => hd.2); have HS4 := hide (HS3.out.step hb); have HW4 := hide (HW3.out.step hb); clear hb hl1 hr1))
      clear p0 p1 p2 HS3 HW3
      have hn1 : nv ≤ 20 := by have h := liveK_len ns ns.length; have := HL1.out; have := Hl.out; unfold liveF at *; omega
      obtain ⟨m, hm, hc⟩ := HW4.out.mp
      have HM := hide hm
      have HC := hide hc
      clear hm hc
      obtain ⟨_, _, _, _, q4, _⟩ := HW4.out.cells
      have HB0 := hide (Below.refl w4.heap.size w4)
      have HO0 := hide (World.ownsRow_nil (w := w4) w4.heap.size 3 1)
      go_loopw [8, 20] (fun o i wr => ∃ (k j : Nat) (A : Option Addr) (c : Nat), k ≤ nv ∧ j ≤ k ∧ i = .int .i64 k ∧ o = .slice A j c ∧ j ≤ c ∧ c ≤ 9223372036854775807 ∧ Hid ((((liveF ns).take k).filter (fun n => decide (n ∈ t.1))).length = j) ∧ Hid (wr.ownsRow w4.heap.size 3 1 (.slice A j c) j (fcs encI (((liveF ns).take k).filter (fun n => decide (n ∈ t.1))))) ∧ Hid (Below w4.heap.size w4 wr)) (fun _ i _ => nv - (intOf i).toNat)
      case atStart => exact ⟨0, 0, none, 0, by omega, by omega, rfl, rfl, by omega, by omega, hide rfl, hide (World.ownsRow_nil _ _ _ _), HB0⟩
      case round =>
        obtain ⟨k, j, A, c, hk, hj, rfl, rfl, c1, c2, HLn, HO, HBr⟩ := hrel
        clear HB0 HO0
        by_cases hlt : k < nv
        · have g0 : (0 : Int) ≤ k := by omega
          have g1 : (k : Int) < nv := by omega
          obtain ⟨al, y, rfl, _, hv, q0⟩ := RdR.icell (HR1.out.at_world HBr.out) (k := k) (by have := HL1.out; omega)
          have hy := live_mem.1 (List.mem_of_getElem? hv)
          have hy2 := there_lt hy
          have hw : (Lit.int .i64 y).wf = true := wfI (by have := Hl.out; omega)
          have L := (HM.out.below HBr.out HM.out.lt).atI hw
          have r4 : wr.cell? ⟨X, 4, none⟩ = some (.map (some M)) := (HBr.out.cell (p := ⟨X, 4, none⟩) HW4.out.x.lt).trans q4
          obtain ⟨d, hd⟩ : ∃ d, (lookF m y).getD 0 = d := ⟨_, rfl⟩
          rw [hd] at L
          have hkn := HC.out.kn y
          rw [show lookW m y = d from hd] at hkn
          by_cases hx : y ∈ t.1
          · have b0 : decide (0 < d) = true := decide_eq_true (hkn.2 hx)
            have HSn := hide (met_yes (ns := ns) hv hx)
            clear hv hy hy2 hw hd hkn hx
            go_wp2_with (at_builtin; refine wpList_append_elem rfl (.tmp 31) (.tmp 33) 44 rfl w4.heap.size Tryz.underlying44 info_intE rfl (by decide) (.slice A j c) j _ rfl HO.out _ _ rfl rfl (by simp [Value.oneCell']) (by simp only [maxLen]; omega) (by omega) HBr.out.size ?_; intro v9 w9 hown9 hgr9 hat9; have HO9 := hide (show w9.ownsRow w4.heap.size 3 1 v9 (j + 1) (fcs encI (((liveF ns).take (k + 1)).filter (fun n => decide (n ∈ t.1)))) by rw [HSn.out, fcsI_snoc]; exact hown9); have HB9 := hide (below_own HBr.out HO.out HBr.out.size hgr9); obtain ⟨A8, c8, rfl, l1, l2⟩ := own_form hown9; clear hown9 hgr9 hat9)
            go_roundw
            case rel => exact ⟨k + 1, j + 1, A8, c8, by omega, by omega, by go_num, rfl, l1, l2, hide (by rw [HSn.out, List.length_append, HLn.out]; rfl), HO9, HB9⟩
            case measure => simp [intOf]; omega
          · have b0 : decide (0 < d) = false := decide_eq_false (mt hkn.1 hx)
            have HSn := hide (met_no (ns := ns) hv hx)
            clear hv hy hy2 hw hd hkn hx
            go_wp2
            go_roundw
            case rel => exact ⟨k + 1, j, A, c, by omega, by omega, by go_num, rfl, c1, c2, by rw [HSn.out]; exact HLn, by rw [HSn.out]; exact HO, HBr⟩
            case measure => simp [intOf]; omega
        · obtain rfl : nv = k := by omega
          have e1 : (liveF ns).take nv = liveF ns := List.take_of_length_le (by rw [HL1.out]; exact Nat.le_refl _)
          rw [e1] at HLn HO
          have HG := hide (show GivesFr ns l level w (.returned (.slice A j c)) wr from ⟨metL ns t, ⟨t, hT.out, rfl⟩, GivesN.own (own_lowW HO.out (by have := HS4.out.bel.size; omega)) HLn.out c1 c2 (Below.step HS4.out.bel HBr.out)⟩)
          clear e1 HO HLn HBr
          go_wp2
          go_ret
          exact HG.out
    · have hless := spread_less hdn he
      have hT := hide (show ∀ t, SprR ns level (sprS ns level s) t → SprR ns level (rchL ([], []) l) t from fun t h => HR.out _ (SprR.more s t he h))
      have e0 : decide (0 < (sprS ns level s).2.length) = true := decide_eq_true (List.length_pos_iff.2 he)
      rw [e0] at CS
      have hB2 := hide (show (sprS ns level s).1.length + 21000 * unkN ns (sprS ns level s).1 ≤ 421000 by
        have h := HB.out
        have h2 : (sprS ns level s).1.length ≤ s.1.length + ns.length * s.2.length := hlen
        omega)
      have Hless := hide hless
      obtain ⟨t, ht⟩ : ∃ x, sprS ns level s = x := ⟨_, rfl⟩
      rw [ht] at CS hT hB2 Hless hnext
      clear he hdn hfew hlen hmul e0 ht HB HI hless
      go_wp2_with (go_at_call 24; refine CS.out.mono ?_; rintro e w3 ⟨rfl, ve3, hW⟩; have HW3 := hide hW; clear hW)
      go_roundg (unkN ns t.1 + 1)
      case measure => have := Hless.out; omega
      case rel => exact ⟨t, ve3, rfl, HW3, hT, hnext, hB2⟩
/-- what Whole gives -/
def GivesWh (ns : List NodeP) (w : World) (e : Ending) (w' : World) : Prop := ∃ l, FromR ns [0] 0 l ∧ e = .returned (.bool (decide (l.length = (liveF ns).length))) ∧ Below w.heap.size w w'
set_option maxHeartbeats 8000000 in
set_option maxRecDepth 100000 in
theorem whole_any (hp : PlN w N nn ns) : Calls Tryz.prog 9 #[.agg #[.slice N nn cN, .int .i64 en, .int .i64 top]] w (GivesWh ns w) := by
  have HP := hide hp
  have HS := hide (PlB.start w #[.slice N nn cN, .int .i64 en, .int .i64 top])
  clear hp
  go_enter Tryz.func9, Tryz.ntmps9
  go_upto_region 1 with fail
  generalize World.alloc w _ = w1 at *
  obtain ⟨b1, hb1⟩ : ∃ b, w.heap.size = b := ⟨_, rfl⟩
  rw [hb1] at HS
  rw [hb1]
  clear hb1
  refine startO (S := (fun W => PlB w b1 #[.slice N nn cN, .int .i64 en, .int .i64 top] W)) 9 (by as_aux_lemma => kernel_rfl) (by as_aux_lemma => kernel_rfl) (HS.out.step (Below.refl _ _).drew) (fun hHeld => ?_)
  clear HS
  generalize World.drew _ = Wd at *
  refine takeO 0 3 (.load 24 (.const (.pointer (some ⟨b1, 0, none⟩)))) 24 (.agg #[.slice N nn cN, .int .i64 en, .int .i64 top]) (by as_aux_lemma => kernel_rfl) (by as_aux_lemma => kernel_rfl) (by as_aux_lemma => kernel_rfl) (fun _ _ _ _ _ h => h) (fun W hS => by obtain ⟨z0, z1, z2⟩ := hS.cells; clear hS hHeld; unfold cEv opC; as_aux_lemma => first | (go_simp; done) | (go_simp <;> rfl)) hHeld ?_
  refine takeO 4 7 (.load 24 (.const (.pointer (some ⟨b1, 0, none⟩)))) 24 (.agg #[.slice N nn cN, .int .i64 en, .int .i64 top]) (by as_aux_lemma => kernel_rfl) (by as_aux_lemma => kernel_rfl) (by as_aux_lemma => kernel_rfl) (fun _ _ _ _ _ h => h) (fun W hS => by obtain ⟨z0, z1, z2⟩ := hS.cells; clear hS hHeld; unfold cEv opC; as_aux_lemma => first | (go_simp; done) | (go_simp <;> rfl)) hHeld ?_
  refine readyO [1] (by as_aux_lemma => kernel_rfl) (by simp) ?_
  refine memO 1 4 (.buildSlice 44 1 #[(0, .const (.int .i64 0))]) 44 (.slice (some ⟨Wd.heap.size, 0, none⟩) 1 1) (Wd.alloc (.cells #[.int .i64 0] 3)) (by as_aux_lemma => kernel_rfl) (by as_aux_lemma => kernel_rfl) (by unfold cEv opC; go_simp) (hHeld.step (below1 _ _)) (fun hHeld2 => ?_) AllReadyH.nil
  clear hHeld
  have hHeld := hHeld2
  clear hHeld2
  have HQ := hide ((flatInt .i64).blk (l := [0]) (Blk.new Wd 3 #[.int .i64 0]) rfl)
  generalize World.alloc Wd _ = w4 at *
  obtain ⟨gq, hgq⟩ : ∃ g, Wd.heap.size = g := ⟨_, rfl⟩
  rw [hgq] at HQ
  rw [hgq]
  clear hgq
  refine readyO [2] (by as_aux_lemma => kernel_rfl) (by simp) ?_
  refine callO 2 5 (.call { callee := .value (.func 13), args := #[.const (.agg #[.slice N nn cN, .int .i64 en, .int .i64 top]), .const (.slice (some ⟨gq, 0, none⟩) 1 1), .const (.int .i64 0)], argTypes := #[24, 44, 3] }) 44 13 #[.agg #[.slice N nn cN, .int .i64 en, .int .i64 top], .slice (some ⟨gq, 0, none⟩) 1 1, .int .i64 0] (by as_aux_lemma => kernel_rfl) (by as_aux_lemma => kernel_rfl) (by unfold cEv opC; go_simp) ?_ AllReadyH.nil
  refine (wFrom_any (cN := cN) (en := en) (top := top) (level := 0) (HP.out.at_ hHeld.bel) (nl := 1) (cl := 1) HQ.out rfl (by omega) (by simp; decide)).mono ?_
  rintro e w5 ⟨lf, hf, Af, nf, cf, rfl, l1, l2, l3, hr5, hb5⟩
  refine ⟨_, rfl, (hHeld.step hb5), fun hHeld2 => ?_⟩
  clear hHeld
  have hHeld := hHeld2
  clear hHeld2
  have HF := hide hf
  have HL := hide l1
  clear hf l1 hr5 HQ hb5
  refine takeO 3 6 (.call { callee := .builtin .len, args := #[.const (.slice Af nf cf)], argTypes := #[44] }) 3 (.int .i64 nf) (by as_aux_lemma => kernel_rfl) (by as_aux_lemma => kernel_rfl) (by as_aux_lemma => kernel_rfl) (fun _ _ _ _ _ h => h) (fun W hS => by clear hS hHeld; unfold cEv opC; as_aux_lemma => first | (go_simp; done) | (go_simp <;> rfl)) hHeld ?_
  refine readyO [5] (by as_aux_lemma => kernel_rfl) (by simp) ?_
  refine callO 5 8 (.call { callee := .value (.func 12), args := #[.const (.agg #[.slice N nn cN, .int .i64 en, .int .i64 top])], argTypes := #[24] }) 44 12 #[.agg #[.slice N nn cN, .int .i64 en, .int .i64 top]] (by as_aux_lemma => kernel_rfl) (by as_aux_lemma => kernel_rfl) (by unfold cEv opC; go_simp) ?_ AllReadyH.nil
  refine (live_any (cN := cN) (en := en) (top := top) (HP.out.at_ hHeld.bel)).mono ?_
  rintro e w6 ⟨Av, nv, cv, rfl, m1, m2, m3, hr6, hb6⟩
  refine ⟨_, rfl, (hHeld.step hb6), fun hHeld2 => ?_⟩
  clear hHeld
  have hHeld := hHeld2
  clear hHeld2
  have HLv := hide m1
  clear m1 hr6 hb6
  refine takeO 6 9 (.call { callee := .builtin .len, args := #[.const (.slice Av nv cv)], argTypes := #[44] }) 3 (.int .i64 nv) (by as_aux_lemma => kernel_rfl) (by as_aux_lemma => kernel_rfl) (by as_aux_lemma => kernel_rfl) (fun _ _ _ _ _ h => h) (fun W hS => by clear hS hHeld; unfold cEv opC; as_aux_lemma => first | (go_simp; done) | (go_simp <;> rfl)) hHeld ?_
  refine takeO 7 10 (.binOp .eql 3 (.const (.int .i64 nf)) (.const (.int .i64 nv)) 3) 4 (.bool ((nf : Int) == (nv : Int))) (by as_aux_lemma => kernel_rfl) (by as_aux_lemma => kernel_rfl) (by as_aux_lemma => kernel_rfl) (fun _ _ _ _ _ h => h) (fun W hS => by clear hS hHeld; unfold cEv opC; as_aux_lemma => first | (go_simp; done) | (go_simp <;> rfl)) hHeld ?_
  refine putsO [8] [8] [(2, .bool ((nf : Int) == (nv : Int)))] 1 rfl [2] (by as_aux_lemma => kernel_rfl) (by as_aux_lemma => kernel_rfl) rfl (fun _ _ _ _ _ h => h) hHeld ?_
  refine doneO [(2, .bool ((nf : Int) == (nv : Int))), (0, .agg #[.slice N nn cN, .int .i64 en, .int .i64 top]), (0, .slice (some ⟨gq, 0, none⟩) 1 1), (0, .slice Af nf cf), (0, .int .i64 nf), (0, .agg #[.slice N nn cN, .int .i64 en, .int .i64 top]), (0, .slice Av nv cv), (0, .int .i64 nv), (0, .bool ((nf : Int) == (nv : Int)))] (by as_aux_lemma => kernel_rfl) (by as_aux_lemma => kernel_rfl) ?_
  simp only [fillG]
  have HB9 := hide hHeld.bel
  clear hHeld
  have HG := hide (show GivesWh ns w (.returned (.bool ((nf : Int) == (nv : Int)))) _ from ⟨lf, HF.out, by rw [HL.out, HLv.out]; congr 1; congr 1; rw [Bool.eq_iff_iff]; simp; omega, HB9.out⟩)
  go_wp2
  go_ret
  exact HG.out
end
end Go.Proofs.YtlnbeeflifmnjadGreat
