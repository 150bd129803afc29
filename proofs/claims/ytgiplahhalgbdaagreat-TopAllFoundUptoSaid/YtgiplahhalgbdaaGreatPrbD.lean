/-
  The package probe: Offer. Conditions: a probe lies as said; the vector reads as a list of int32s.
-/
import Derived.Test.YtgiplahhalgbdaaGreatPrbP
import Derived.Test.YtgiplahhalgbdaaGreatItm
import Derived.Test.YtgiplahhalgbdaaGreatMgJ
namespace Go.Proofs.YtgiplahhalgbdaaGreat
set_option linter.unusedSimpArgs false
set_option linter.unusedVariables false
open Go.RowKit

/-- a probe, and variables beside it, since a world -/
structure PrB (w wr : World) (X M Q P k : Nat) (mask ef : Int) (A : Option Addr) (c : Nat) (qs : List Int) (v0 v20 : Value) (m : List (Int × Int)) (v v2 : Value) (l l2 : List Spt) (V : Option Addr) (vs : List Int) (bx : List (Nat × TypeId × Array Value)) (W : World) : Prop where
  p : PrAt w W X M Q P k mask ef A c qs m v v2 l l2
  t : TurnP wr W M Q P v0 v20 v v2
  vec : RdR (Sh.int .i32) W (FreeP W M Q P v v2) V vs
  bx : ∀ q ∈ bx, Blk W q.1 q.2.1 q.2.2 ∧ FreeP W M Q P v v2 q.1
section
variable {w wr W W' : World} {X M Q P k : Nat} {mask ef : Int} {A V : Option Addr} {c : Nat} {qs vs : List Int} {m m' : List (Int × Int)} {v0 v20 v v2 : Value} {l l2 ms : List Spt} {bx : List (Nat × TypeId × Array Value)}
theorem PrB.step (h : PrB w wr X M Q P k mask ef A c qs v0 v20 m v v2 l l2 V vs bx W) (hb : Below W.heap.size W W') : PrB w wr X M Q P k mask ef A c qs v0 v20 m v v2 l l2 V vs bx W' :=
  have ht : TurnP W W' M Q P v v2 v v2 := TurnP.of_below hb
  ⟨h.p.step hb, h.t.trans ht, ht.rd h.vec, fun q hq => ht.blk (h.bx q hq).1 (h.bx q hq).2⟩
theorem PrB.box (h : PrB w wr X M Q P k mask ef A c qs v0 v20 m v v2 l l2 V vs bx W) (t : TypeId) (cs : Array Value) : PrB w wr X M Q P k mask ef A c qs v0 v20 m v v2 l l2 V vs ((W.heap.size, t, cs) :: bx) (W.alloc (.cells cs t)) := by
  have h2 := h.step (below1 W (.cells cs t))
  refine ⟨h2.p, h2.t, h2.vec, fun q hq => ?_⟩
  rcases List.mem_cons.1 hq with rfl | hq
  · exact ⟨Blk.new _ _ _, h.p.new (Nat.le_refl _) (by simp)⟩
  · exact h2.bx q hq
theorem PrB.turn {v' v2' : Value} {l' l2' : List Spt} (h : PrB w wr X M Q P k mask ef A c qs v0 v20 m v v2 l l2 V vs bx W) (hp : PrAt w W' X M Q P k mask ef A c qs m' v' v2' l' l2') (ht : TurnP W W' M Q P v v2 v' v2') : PrB w wr X M Q P k mask ef A c qs v0 v20 m' v' v2' l' l2' V vs bx W' :=
  ⟨hp, h.t.trans ht, ht.rd h.vec, fun q hq => ht.blk (h.bx q hq).1 (h.bx q hq).2⟩
theorem PrB.blk (h : PrB w wr X M Q P k mask ef A c qs v0 v20 m v v2 l l2 V vs bx W) {g : Nat} {t : TypeId} {cs : Array Value} (hg : (g, t, cs) ∈ bx) : Blk W g t cs := (h.bx _ hg).1
theorem PrB.boxed (h : PrB w wr X M Q P k mask ef A c qs v0 v20 m v v2 l l2 V vs bx W) (hb : Below W.heap.size W W') {g : Nat} {t : TypeId} {cs : Array Value} (hg : Blk W' g t cs) (hs : W.heap.size ≤ g) : PrB w wr X M Q P k mask ef A c qs v0 v20 m v v2 l l2 V vs ((g, t, cs) :: bx) W' := by
  have h2 := h.step hb
  refine ⟨h2.p, h2.t, h2.vec, fun q hq => ?_⟩
  rcases List.mem_cons.1 hq with rfl | hq
  · exact ⟨hg, h.p.new hs hg.lt⟩
  · exact h2.bx q hq
theorem PrB.wide (h : PrB w wr X M Q P k mask ef A c qs v0 v20 m v v2 l l2 V vs bx W) : I32s W W.heap.size V vs ∧ I32s W W.heap.size A qs := ⟨h.vec.rd fun b hb => hb.1, h.p.vec.rd fun b hb => hb.1⟩
end
/-- what Offer leaves: a spot that is known is offered once more -/
def OffP (w wr : World) (X M Q P k : Nat) (mask ef : Int) (A : Option Addr) (c : Nat) (qs : List Int) (m : List (Int × Int)) (v v2 : Value) (l l2 : List Spt) (s id tags : Int) (vs : List Int) (e : Ending) (w' : World) : Prop :=
  (0 < lookD m s ∧ e = .returned (.bool false) ∧ PrAt w w' X M Q P k mask ef A c qs (putF m s (lookD m s + 1)) v v2 l l2 ∧ TurnP wr w' M Q P v v2 v v2) ∨
  (lookD m s = 0 ∧ e = .returned (.bool true) ∧ ∃ l' v' l2' v2', l'.Perm (l ++ [((distOf qs vs, id), s)]) ∧ (if hasB mask tags = true then ∃ r ms, Off k l2 ((distOf qs vs, id), s) r ms ∧ l2'.Perm ms else l2' = l2) ∧ PrAt w w' X M Q P k mask ef A c qs (putF m s (lookD m s + 1)) v' v2' l' l2' ∧ TurnP wr w' M Q P v v2 v' v2')
set_option maxHeartbeats 4000000 in
set_option maxRecDepth 100000 in
theorem pOffer_any {w wr : World} {X M Q P k : Nat} {mask ef : Int} {A : Option Addr} {c : Nat} {qs : List Int} {m : List (Int × Int)} {v v2 : Value} {l l2 : List Spt} (h : PrAt w wr X M Q P k mask ef A c qs m v v2 l l2) (h1 : l.length ≤ 400000) (h2 : l2.length ≤ 400000) {s : Int} (hw : (Lit.int .i64 s).wf = true) (h3 : 0 ≤ lookD m s ∧ lookD m s ≤ 1000000) (id tags : Int)
    (V : Option Addr) (nv cv : Nat) (vs : List Int) (hv : RdR (Sh.int .i32) wr (FreeP wr M Q P v v2) V vs) (hn : vs.length = nv) (hc : nv ≤ cv) (hm : cv ≤ 9223372036854775807) (hvi : I32 vs) (hqi : I32 qs) :
    Calls Tryz.prog 74 #[.pointer (some ⟨X, 0, none⟩), .int .i64 s, .agg #[.int .u64 id, .slice V nv cv, .int .u64 tags]] wr (OffP w wr X M Q P k mask ef A c qs m v v2 l l2 s id tags vs) := by
  have H := hide ((PrB.mk h (TurnP.of_below (Below.refl _ _)) hv (fun q hq => by simp at hq) : PrB w wr X M Q P k mask ef A c qs v v2 m v v2 l l2 V vs [] wr).box 50 #[.int .u64 id, .slice V nv cv, .int .u64 tags])
  have HVI := hide hvi
  have HQI := hide hqi
  have Hn := hide hn
  have h30 := h3.1
  have h31 := h3.2
  obtain ⟨d, hd⟩ : ∃ d, lookD m s = d := ⟨_, rfl⟩
  rw [hd] at h30 h31
  have hwr : IntKind.i64.wrap (d + 1) = d + 1 := IntWalk.i64_in _ (by omega)
  have L := H.out.p.m.atI hw
  rw [show (lookF m s).getD 0 = d from hd] at L
  obtain ⟨W2, U, hM2, hP2⟩ := H.out.p.m.setI hw (d + 1)
  have H2 := hide (show PrB w wr X M Q P k mask ef A c qs v v2 (putF m s (d + 1)) v v2 l l2 V vs [(wr.heap.size, 50, #[.int .u64 id, .slice V nv cv, .int .u64 tags])] W2 from H.out.turn (H.out.p.map_ hM2 hP2).1 (H.out.p.map_ hM2 hP2).2)
  have L2 := hM2.atI hw
  rw [show (lookF (putF m s (d + 1)) s).getD 0 = d + 1 from by rw [lookF_put, if_pos rfl]; rfl] at L2
  have cq1 := h.c1
  have cq2 := h.c2
  clear h hv hvi hqi hn hM2 hP2 h3
  have HU := hide U
  go_enter Tryz.func74, Tryz.ntmps74
  go_upto_region 3 with fail
  obtain ⟨e0, e1, e2, e3, e4, e5⟩ := H.out.p.cells
  generalize World.alloc wr _ = W1 at *
  generalize wr.heap.size = g at *
  go_upto_region 4 with fail
  clear e0 e1 e2 e3 e4 e5 L U HU H
  obtain ⟨e0, e1, e2, e3, e4, e5⟩ := H2.out.p.cells
  by_cases hd0 : 0 < d
  · have b0 : decide (1 < d + 1) = true := decide_eq_true (by omega)
    have HO := hide (show OffP w wr X M Q P k mask ef A c qs m v v2 l l2 s id tags vs (.returned (.bool false)) W2 from .inl ⟨by rw [hd]; exact hd0, rfl, by rw [hd]; exact H2.out.p, H2.out.t⟩)
    clear hd hd0
    go_wp2
    go_ret
    exact HO.out
  have b0 : decide (1 < d + 1) = false := decide_eq_false (by omega)
  have hd1 : d = 0 := by omega
  have HD0 := hide (show lookD m s = 0 by rw [hd]; exact hd1)
  subst hd1
  have HM := hide (show putF m s (0 + 1) = putF m s (lookD m s + 1) by rw [hd])
  clear hd hd0 h30 h31
  go_upto_region 6 with fail
  clear e0 e1 e2 e3 e4 e5
  have HDx := hide (fun W hx hy => dist_any A V qs.length c nv cv qs vs W hx rfl HQI.out cq1 cq2 hy Hn.out HVI.out hc hm)
  obtain ⟨d, hd⟩ : ∃ d, (distOf qs vs : Int) = d := ⟨_, rfl⟩
  rw [hd] at HDx
  have HDd := hide hd
  clear hd
  refine startO (S := (PrB w wr X M Q P k mask ef A c qs v v2 (putF m s (0 + 1)) v v2 l l2 V vs [(g, 50, #[.int .u64 id, .slice V nv cv, .int .u64 tags])])) 14 (by as_aux_lemma => kernel_rfl) (by as_aux_lemma => kernel_rfl) (H2.out.step (Below.refl _ _).drew) (fun hHeld => ?_)
  clear H2
  have H0 := hide hHeld
  generalize World.drew _ = W0 at *
  refine putsO [0, 10] [10, 0] [(34, .int .i64 s), (24, .pointer (some ⟨X, 0, none⟩))] 2 rfl [24, 34] (by as_aux_lemma => kernel_rfl) (by as_aux_lemma => kernel_rfl) rfl (fun _ _ _ _ _ h => h) hHeld ?_
  refine takeO 1 25 (.nilCheck (.const (.pointer (some ⟨X, 0, none⟩)))) 0 (.pointer (some ⟨X, 0, none⟩)) (by as_aux_lemma => kernel_rfl) (by as_aux_lemma => kernel_rfl) (by as_aux_lemma => kernel_rfl) (fun _ _ _ _ _ h => h) (fun W hS => by clear hS hHeld; unfold cEv opC; as_aux_lemma => first | (go_simp; done) | (go_simp <;> rfl)) hHeld ?_
  refine takeO 4 28 (.fieldAddr 50 (.const (.pointer (some ⟨g, 0, none⟩))) 1) 0 (.pointer (some ⟨g, 1, none⟩)) (by as_aux_lemma => kernel_rfl) (by as_aux_lemma => kernel_rfl) (by as_aux_lemma => kernel_rfl) (fun _ _ _ _ _ h => h) (fun W hS => by clear hS hHeld; unfold cEv opC; as_aux_lemma => first | (go_simp; done) | (go_simp <;> rfl)) hHeld ?_
  refine takeO 7 31 (.fieldAddr 50 (.const (.pointer (some ⟨g, 0, none⟩))) 0) 0 (.pointer (some ⟨g, 0, none⟩)) (by as_aux_lemma => kernel_rfl) (by as_aux_lemma => kernel_rfl) (by as_aux_lemma => kernel_rfl) (fun _ _ _ _ _ h => h) (fun W hS => by clear hS hHeld; unfold cEv opC; as_aux_lemma => first | (go_simp; done) | (go_simp <;> rfl)) hHeld ?_
  refine takeO 2 26 (.fieldAddr 108 (.const (.pointer (some ⟨X, 0, none⟩))) 0) 0 (.pointer (some ⟨X, 0, none⟩)) (by as_aux_lemma => kernel_rfl) (by as_aux_lemma => kernel_rfl) (by as_aux_lemma => kernel_rfl) (fun _ _ _ _ _ h => h) (fun W hS => by clear hS hHeld; unfold cEv opC; as_aux_lemma => first | (go_simp; done) | (go_simp <;> rfl)) hHeld ?_
  refine takeO 5 29 (.load 25 (.const (.pointer (some ⟨g, 1, none⟩)))) 25 (.slice V nv cv) (by as_aux_lemma => kernel_rfl) (by as_aux_lemma => kernel_rfl) (by as_aux_lemma => kernel_rfl) (fun _ _ _ _ _ h => h) (fun W hS => by have hb := hS.blk (List.mem_cons_self ..); have z0 : W.cell? ⟨g, 0, none⟩ = _ := hb.cell 0; have z1 : W.cell? ⟨g, 1, none⟩ = _ := hb.cell 1; have z2 : W.cell? ⟨g, 2, none⟩ = _ := hb.cell 2; simp at z0 z1 z2; clear hb; clear hS hHeld; unfold cEv opC; as_aux_lemma => first | (go_simp; done) | (go_simp <;> rfl)) hHeld ?_
  refine takeO 8 32 (.load 26 (.const (.pointer (some ⟨g, 0, none⟩)))) 26 (.int .u64 id) (by as_aux_lemma => kernel_rfl) (by as_aux_lemma => kernel_rfl) (by as_aux_lemma => kernel_rfl) (fun _ _ _ _ _ h => h) (fun W hS => by have hb := hS.blk (List.mem_cons_self ..); have z0 : W.cell? ⟨g, 0, none⟩ = _ := hb.cell 0; have z1 : W.cell? ⟨g, 1, none⟩ = _ := hb.cell 1; have z2 : W.cell? ⟨g, 2, none⟩ = _ := hb.cell 2; simp at z0 z1 z2; clear hb; clear hS hHeld; unfold cEv opC; as_aux_lemma => first | (go_simp; done) | (go_simp <;> rfl)) hHeld ?_
  refine takeO 3 27 (.load 25 (.const (.pointer (some ⟨X, 0, none⟩)))) 25 (.slice A qs.length c) (by as_aux_lemma => kernel_rfl) (by as_aux_lemma => kernel_rfl) (by as_aux_lemma => kernel_rfl) (fun _ _ _ _ _ h => h) (fun W hS => by obtain ⟨e0, e1, e2, e3, e4, e5⟩ := hS.p.cells; clear hS hHeld; unfold cEv opC; as_aux_lemma => first | (go_simp; done) | (go_simp <;> rfl)) hHeld ?_
  refine readyO [6, 12] (by as_aux_lemma => kernel_rfl) (by simp) ?_
  refine callO 6 30 (.call { callee := .value (.func 39), args := #[.const (.slice A qs.length c), .const (.slice V nv cv)], argTypes := #[25, 25] }) 26 39 #[.slice A qs.length c, .slice V nv cv] (by as_aux_lemma => kernel_rfl) (by as_aux_lemma => kernel_rfl) (by unfold cEv opC; go_simp) ?_ ?_
  · skip
    refine (HDx.out _ hHeld.wide.2 hHeld.wide.1).mono ?_
    rintro e _ ⟨rfl, rfl⟩
    refine ⟨_, rfl, hHeld, fun hHeld2 => ?_⟩
    clear hHeld
    have hHeld := hHeld2
    clear hHeld2
    refine takeO 9 33 (.build 42 #[(0, .const (.int .u64 d)), (1, .const (.int .u64 id))]) 42 (.agg #[.int .u64 d, .int .u64 id]) (by as_aux_lemma => kernel_rfl) (by as_aux_lemma => kernel_rfl) (by as_aux_lemma => kernel_rfl) (fun _ _ _ _ _ h => h) (fun W hS => by clear hS hHeld; unfold cEv opC; as_aux_lemma => first | (go_simp; done) | (go_simp <;> rfl)) hHeld ?_
    refine takeO 11 35 (.build 60 #[(0, .const (.agg #[.int .u64 d, .int .u64 id])), (1, .const (.int .i64 s))]) 60 (.agg #[.int .u64 d, .int .u64 id, .int .i64 s]) (by as_aux_lemma => kernel_rfl) (by as_aux_lemma => kernel_rfl) (by as_aux_lemma => kernel_rfl) (fun _ _ _ _ _ h => h) (fun W hS => by clear hS hHeld; unfold cEv opC; as_aux_lemma => first | (go_simp; done) | (go_simp <;> rfl)) hHeld ?_
    refine readyO [12] (by as_aux_lemma => kernel_rfl) (by simp) ?_
    refine memO 12 7 (.alloc 60) 0 (.pointer (some ⟨W0.heap.size, 0, none⟩)) (W0.alloc (.cells #[.int .u64 0, .int .u64 0, .int .i64 0] 60)) (by as_aux_lemma => kernel_rfl) (by as_aux_lemma => kernel_rfl) (by unfold cEv opC; go_simp) (hHeld.step (below1 _ _)) (fun hHeld2 => ?_) AllReadyH.nil
    clear hHeld
    have hHeld := hHeld2
    clear hHeld2
    have HG := hide (Blk.new W0 60 #[.int .u64 0, .int .u64 0, .int .i64 0])
    have HBa := hide (below1 W0 (.cells #[.int .u64 0, .int .u64 0, .int .i64 0] 60))
    generalize World.alloc W0 (.cells #[.int .u64 0, .int .u64 0, .int .i64 0] 60) = Wa at *
    obtain ⟨gs, hgs⟩ : ∃ gs, W0.heap.size = gs := ⟨_, rfl⟩
    have Hgs := hide hgs
    rw [hgs] at HG
    rw [hgs]
    clear hgs
    have x0 := HG.out.cell 0
    have x1 := HG.out.cell 1
    have x2 := HG.out.cell 2
    have f0 := HG.out.frozen 0
    have f1 := HG.out.frozen 1
    have f2 := HG.out.frozen 2
    simp at x0 x1 x2
    refine readyO [13] (by as_aux_lemma => kernel_rfl) (by simp) ?_
    have hst := spot_stored HG.out rfl HBa.out (by rw [Hgs.out]; exact Nat.le_refl _) ((d, id), s)
    simp only at hst
    clear HDx
    refine storeO 13 (.store 60 (.const (.pointer (some ⟨gs, 0, none⟩))) (.const (.agg #[.int .u64 d, .int .u64 id, .int .i64 s]))) 0 (((Wa.setCell ⟨gs, 0, none⟩ (.int .u64 d)).setCell ⟨gs, 1, none⟩ (.int .u64 id)).setCell ⟨gs, 2, none⟩ (.int .i64 s)) (by as_aux_lemma => kernel_rfl) (by as_aux_lemma => kernel_rfl) (by unfold cEv opC; go_simp) (H0.out.step hst.2) (fun hHeld2 => ?_) AllReadyH.nil
    clear hHeld
    have hHeld := hHeld2
    clear hHeld2
    refine doneO [(7, .pointer (some ⟨gs, 0, none⟩)), (16, .pointer (some ⟨X, 0, none⟩)), (0, .pointer (some ⟨X, 0, none⟩)), (0, .pointer (some ⟨X, 0, none⟩)), (0, .slice A qs.length c), (0, .pointer (some ⟨g, 1, none⟩)), (0, .slice V nv cv), (0, .int .u64 d), (0, .pointer (some ⟨g, 0, none⟩)), (0, .int .u64 id), (0, .agg #[.int .u64 d, .int .u64 id]), (0, .int .i64 s), (0, .agg #[.int .u64 d, .int .u64 id, .int .i64 s])] (by as_aux_lemma => kernel_rfl) (by as_aux_lemma => kernel_rfl) ?_
    simp only [fillG]
    clear x0 x1 x2 f0 f1 f2 hHeld
    have H4 := hide (H0.out.boxed hst.2 hst.1 (by rw [Hgs.out]; exact Nat.le_refl _))
    clear hst HG HBa H0
    generalize ((Wa.setCell ⟨gs, 0, none⟩ (.int .u64 d)).setCell ⟨gs, 1, none⟩ (.int .u64 id)).setCell ⟨gs, 2, none⟩ (.int .i64 s) = W4 at *
    have HC := hide (show Calls Tryz.prog 94 #[.pointer (some ⟨Q, 0, none⟩), .agg #[.int .u64 d, .int .u64 id, .int .i64 s]] W4.drew fun e w' => e = .returned (.tuple #[]) ∧ QDone W4.drew w' w.heap.size Q v (l ++ [((d, id), s)]) from qPush_any (H4.out.step (Below.refl _ _).drew).p.q H4.out.p.hq ((d, id), s) (by omega))
    obtain ⟨e0, e1, e2, e3, e4, e5⟩ := H4.out.p.cells
    go_upto_region 7 with fail
    have y0 := (H4.out.blk (List.mem_cons_self ..)).cell 0
    have y1 := (H4.out.blk (List.mem_cons_self ..)).cell 1
    have y2 := (H4.out.blk (List.mem_cons_self ..)).cell 2
    simp at y0 y1 y2
    go_region_law ((go_simp; go_at_call 94; refine HC.out.mono ?_; rintro e w6 ⟨rfl, hqd⟩; obtain ⟨l', v', hpm, hp6, ht6⟩ := (H4.out.step (Below.refl _ _).drew).p.q_ hqd; have H6 := hide ((H4.out.step (Below.refl _ _).drew).turn hp6 ht6); have HPm := hide hpm; clear hqd hpm hp6 ht6 e0 e1 e2 e3 e4 e5 y0 y1 y2 HC H4))
    all_goals
      go_upto_region 8 with fail
      obtain ⟨e0, e1, e2, e3, e4, e5⟩ := H6.out.p.cells
      have z2 := (H6.out.blk (List.mem_cons_of_mem _ (List.mem_cons_self ..))).cell 2
      simp at z2
      rcases hh : hasB mask tags with _ | _
      · have HH := hide (show ∀ W, Calls Tryz.prog 38 #[.int .u64 tags, .int .u64 mask] W fun e w' => e = .returned (.bool false) ∧ W = w' from fun W => hh ▸ has_any tags mask W)
        go_quiet (with_reducible exact quiet_left (HH.out _))
        go_wp2
        go_ret
        exact .inr ⟨HD0.out, rfl, l', v', l2, v2, by rw [HDd.out]; exact HPm.out, by rw [hh]; simp, by rw [← HM.out]; exact (H6.out.step (below_drewN (Below.refl _ _) nq)).p, (H6.out.step (below_drewN (Below.refl _ _) nq)).t⟩
      · have HH := hide (show ∀ W, Calls Tryz.prog 38 #[.int .u64 tags, .int .u64 mask] W fun e w' => e = .returned (.bool true) ∧ W = w' from fun W => hh ▸ has_any tags mask W)
        go_quiet (with_reducible exact quiet_left (HH.out _))
        have H7 := hide (H6.out.step (below_drewN (Below.refl _ _) nq))
        clear e0 e1 e2 e3 e4 e5 z2 H6
        generalize World.drewN w6 nq = w7 at *
        go_upto_region 9 with fail
        obtain ⟨e0, e1, e2, e3, e4, e5⟩ := H7.out.p.cells
        have y0 := (H7.out.blk (List.mem_cons_self ..)).cell 0
        have y1 := (H7.out.blk (List.mem_cons_self ..)).cell 1
        have y2 := (H7.out.blk (List.mem_cons_self ..)).cell 2
        simp at y0 y1 y2
        have HC := hide (show Calls Tryz.prog 95 #[.pointer (some ⟨P, 0, none⟩), .agg #[.int .u64 d, .int .u64 id, .int .i64 s]] w7.drew (OfferDone w7.drew w.heap.size P k v2 l2 ((d, id), s)) from bOffer_any (H7.out.step (Below.refl _ _).drew).p.b H7.out.p.hb ((d, id), s) (by omega))
        go_region_law ((go_simp; go_at_call 95; refine HC.out.mono ?_; rintro e w8 ⟨r, ms, rfl, ho, hbd⟩; obtain ⟨l2', v2', hpm, hp6, ht6⟩ := (H7.out.step (Below.refl _ _).drew).p.b_ hbd; have H8 := hide ((H7.out.step (Below.refl _ _).drew).turn hp6 ht6); have HPm2 := hide hpm; have HOf := hide ho; clear hbd hpm hp6 ht6 ho e0 e1 e2 e3 e4 e5 y0 y1 y2 HC H7))
        all_goals
          go_wp2
          go_ret
          exact .inr ⟨HD0.out, rfl, l', v', l2', v2', by rw [HDd.out]; exact HPm.out, by rw [hh, HDd.out]; simp only [if_true]; exact ⟨r, ms, HOf.out, HPm2.out⟩, by rw [← HM.out]; exact H8.out.p, H8.out.t⟩
  refine memO 12 7 (.alloc 60) 0 (.pointer (some ⟨W0.heap.size, 0, none⟩)) (W0.alloc (.cells #[.int .u64 0, .int .u64 0, .int .i64 0] 60)) (by as_aux_lemma => kernel_rfl) (by as_aux_lemma => kernel_rfl) (by unfold cEv opC; go_simp) (hHeld.step (below1 _ _)) (fun hHeld2 => ?_) AllReadyH.nil
  clear hHeld
  have hHeld := hHeld2
  clear hHeld2
  have HG := hide (Blk.new W0 60 #[.int .u64 0, .int .u64 0, .int .i64 0])
  have HBa := hide (below1 W0 (.cells #[.int .u64 0, .int .u64 0, .int .i64 0] 60))
  generalize World.alloc W0 (.cells #[.int .u64 0, .int .u64 0, .int .i64 0] 60) = Wa at *
  obtain ⟨gs, hgs⟩ : ∃ gs, W0.heap.size = gs := ⟨_, rfl⟩
  have Hgs := hide hgs
  rw [hgs] at HG
  rw [hgs]
  clear hgs
  have x0 := HG.out.cell 0
  have x1 := HG.out.cell 1
  have x2 := HG.out.cell 2
  have f0 := HG.out.frozen 0
  have f1 := HG.out.frozen 1
  have f2 := HG.out.frozen 2
  simp at x0 x1 x2
  refine readyO [6] (by as_aux_lemma => kernel_rfl) (by simp) ?_
  refine callO 6 30 (.call { callee := .value (.func 39), args := #[.const (.slice A qs.length c), .const (.slice V nv cv)], argTypes := #[25, 25] }) 26 39 #[.slice A qs.length c, .slice V nv cv] (by as_aux_lemma => kernel_rfl) (by as_aux_lemma => kernel_rfl) (by unfold cEv opC; go_simp) ?_ AllReadyH.nil
  refine (HDx.out _ hHeld.wide.2 hHeld.wide.1).mono ?_
  rintro e _ ⟨rfl, rfl⟩
  refine ⟨_, rfl, hHeld, fun hHeld2 => ?_⟩
  clear hHeld
  have hHeld := hHeld2
  clear hHeld2
  refine takeO 9 33 (.build 42 #[(0, .const (.int .u64 d)), (1, .const (.int .u64 id))]) 42 (.agg #[.int .u64 d, .int .u64 id]) (by as_aux_lemma => kernel_rfl) (by as_aux_lemma => kernel_rfl) (by as_aux_lemma => kernel_rfl) (fun _ _ _ _ _ h => h) (fun W hS => by clear hS hHeld; unfold cEv opC; as_aux_lemma => first | (go_simp; done) | (go_simp <;> rfl)) hHeld ?_
  refine takeO 11 35 (.build 60 #[(0, .const (.agg #[.int .u64 d, .int .u64 id])), (1, .const (.int .i64 s))]) 60 (.agg #[.int .u64 d, .int .u64 id, .int .i64 s]) (by as_aux_lemma => kernel_rfl) (by as_aux_lemma => kernel_rfl) (by as_aux_lemma => kernel_rfl) (fun _ _ _ _ _ h => h) (fun W hS => by clear hS hHeld; unfold cEv opC; as_aux_lemma => first | (go_simp; done) | (go_simp <;> rfl)) hHeld ?_
  refine readyO [13] (by as_aux_lemma => kernel_rfl) (by simp) ?_
  have hst := spot_stored HG.out rfl HBa.out (by rw [Hgs.out]; exact Nat.le_refl _) ((d, id), s)
  simp only at hst
  clear HDx
  refine storeO 13 (.store 60 (.const (.pointer (some ⟨gs, 0, none⟩))) (.const (.agg #[.int .u64 d, .int .u64 id, .int .i64 s]))) 0 (((Wa.setCell ⟨gs, 0, none⟩ (.int .u64 d)).setCell ⟨gs, 1, none⟩ (.int .u64 id)).setCell ⟨gs, 2, none⟩ (.int .i64 s)) (by as_aux_lemma => kernel_rfl) (by as_aux_lemma => kernel_rfl) (by unfold cEv opC; go_simp) (H0.out.step hst.2) (fun hHeld2 => ?_) AllReadyH.nil
  clear hHeld
  have hHeld := hHeld2
  clear hHeld2
  refine doneO [(7, .pointer (some ⟨gs, 0, none⟩)), (16, .pointer (some ⟨X, 0, none⟩)), (0, .pointer (some ⟨X, 0, none⟩)), (0, .pointer (some ⟨X, 0, none⟩)), (0, .slice A qs.length c), (0, .pointer (some ⟨g, 1, none⟩)), (0, .slice V nv cv), (0, .int .u64 d), (0, .pointer (some ⟨g, 0, none⟩)), (0, .int .u64 id), (0, .agg #[.int .u64 d, .int .u64 id]), (0, .int .i64 s), (0, .agg #[.int .u64 d, .int .u64 id, .int .i64 s])] (by as_aux_lemma => kernel_rfl) (by as_aux_lemma => kernel_rfl) ?_
  simp only [fillG]
  clear x0 x1 x2 f0 f1 f2 hHeld
  have H4 := hide (H0.out.boxed hst.2 hst.1 (by rw [Hgs.out]; exact Nat.le_refl _))
  clear hst HG HBa H0
  generalize ((Wa.setCell ⟨gs, 0, none⟩ (.int .u64 d)).setCell ⟨gs, 1, none⟩ (.int .u64 id)).setCell ⟨gs, 2, none⟩ (.int .i64 s) = W4 at *
  have HC := hide (show Calls Tryz.prog 94 #[.pointer (some ⟨Q, 0, none⟩), .agg #[.int .u64 d, .int .u64 id, .int .i64 s]] W4.drew fun e w' => e = .returned (.tuple #[]) ∧ QDone W4.drew w' w.heap.size Q v (l ++ [((d, id), s)]) from qPush_any (H4.out.step (Below.refl _ _).drew).p.q H4.out.p.hq ((d, id), s) (by omega))
  obtain ⟨e0, e1, e2, e3, e4, e5⟩ := H4.out.p.cells
  go_upto_region 7 with fail
  have y0 := (H4.out.blk (List.mem_cons_self ..)).cell 0
  have y1 := (H4.out.blk (List.mem_cons_self ..)).cell 1
  have y2 := (H4.out.blk (List.mem_cons_self ..)).cell 2
  simp at y0 y1 y2
  go_region_law ((go_simp; go_at_call 94; refine HC.out.mono ?_; rintro e w6 ⟨rfl, hqd⟩; obtain ⟨l', v', hpm, hp6, ht6⟩ := (H4.out.step (Below.refl _ _).drew).p.q_ hqd; have H6 := hide ((H4.out.step (Below.refl _ _).drew).turn hp6 ht6); have HPm := hide hpm; clear hqd hpm hp6 ht6 e0 e1 e2 e3 e4 e5 y0 y1 y2 HC H4))
  all_goals
    go_upto_region 8 with fail
    obtain ⟨e0, e1, e2, e3, e4, e5⟩ := H6.out.p.cells
    have z2 := (H6.out.blk (List.mem_cons_of_mem _ (List.mem_cons_self ..))).cell 2
    simp at z2
    rcases hh : hasB mask tags with _ | _
    · have HH := hide (show ∀ W, Calls Tryz.prog 38 #[.int .u64 tags, .int .u64 mask] W fun e w' => e = .returned (.bool false) ∧ W = w' from fun W => hh ▸ has_any tags mask W)
      go_quiet (with_reducible exact quiet_left (HH.out _))
      go_wp2
      go_ret
      exact .inr ⟨HD0.out, rfl, l', v', l2, v2, by rw [HDd.out]; exact HPm.out, by rw [hh]; simp, by rw [← HM.out]; exact (H6.out.step (below_drewN (Below.refl _ _) nq)).p, (H6.out.step (below_drewN (Below.refl _ _) nq)).t⟩
    · have HH := hide (show ∀ W, Calls Tryz.prog 38 #[.int .u64 tags, .int .u64 mask] W fun e w' => e = .returned (.bool true) ∧ W = w' from fun W => hh ▸ has_any tags mask W)
      go_quiet (with_reducible exact quiet_left (HH.out _))
      have H7 := hide (H6.out.step (below_drewN (Below.refl _ _) nq))
      clear e0 e1 e2 e3 e4 e5 z2 H6
      generalize World.drewN w6 nq = w7 at *
      go_upto_region 9 with fail
      obtain ⟨e0, e1, e2, e3, e4, e5⟩ := H7.out.p.cells
      have y0 := (H7.out.blk (List.mem_cons_self ..)).cell 0
      have y1 := (H7.out.blk (List.mem_cons_self ..)).cell 1
      have y2 := (H7.out.blk (List.mem_cons_self ..)).cell 2
      simp at y0 y1 y2
      have HC := hide (show Calls Tryz.prog 95 #[.pointer (some ⟨P, 0, none⟩), .agg #[.int .u64 d, .int .u64 id, .int .i64 s]] w7.drew (OfferDone w7.drew w.heap.size P k v2 l2 ((d, id), s)) from bOffer_any (H7.out.step (Below.refl _ _).drew).p.b H7.out.p.hb ((d, id), s) (by omega))
      go_region_law ((go_simp; go_at_call 95; refine HC.out.mono ?_; rintro e w8 ⟨r, ms, rfl, ho, hbd⟩; obtain ⟨l2', v2', hpm, hp6, ht6⟩ := (H7.out.step (Below.refl _ _).drew).p.b_ hbd; have H8 := hide ((H7.out.step (Below.refl _ _).drew).turn hp6 ht6); have HPm2 := hide hpm; have HOf := hide ho; clear hbd hpm hp6 ht6 ho e0 e1 e2 e3 e4 e5 y0 y1 y2 HC H7))
      all_goals
        go_wp2
        go_ret
        exact .inr ⟨HD0.out, rfl, l', v', l2', v2', by rw [HDd.out]; exact HPm.out, by rw [hh, HDd.out]; simp only [if_true]; exact ⟨r, ms, HOf.out, HPm2.out⟩, by rw [← HM.out]; exact H8.out.p, H8.out.t⟩
end Go.Proofs.YtgiplahhalgbdaaGreat
