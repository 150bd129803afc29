/-
  Texts of one part, put together. No condition.
-/
import Derived.Test.YtphbdffgeeicaabGreatPrbD
/-
  The document's Offer of a probe. Conditions: the slices read as lists.
-/
namespace Go.Proofs.YtphbdffgeeicaabGreat
set_option linter.unusedSimpArgs false
set_option linter.unusedVariables false
open Go.RowKit

/-- blocks of lists, none a variable of P -/
def FrP (R : Nat → Prop) (w : World) (gp gr : Nat) (W : World) (d : Nat) : Prop := Grow R w W d ∧ d ≠ gp ∧ d ≠ gr
/-- the document's function, its variables, its lists -/
structure RfP (w : World) (R : Nat → Prop) (gp gr : Nat) (cs cr : Array Value) (bx : List (Nat × TypeId × Array Value)) (Aq : Option Addr) (qs : List Int) (V : Option Addr) (vs : List Int) (Ak : Option Addr) (kn : List Int) (Aw : Option Addr) (wt : List Spt) (Ab : Option Addr) (bs : List Spt) (W : World) : Prop where
  bel : Below w.heap.size w W
  hR : ∀ d, R d → d < w.heap.size
  p : Blk W gp 61 cs
  r : Blk W gr 61 cr
  hp : w.heap.size ≤ gp
  hr : w.heap.size ≤ gr
  ne : gp ≠ gr
  bx : ∀ q ∈ bx, Blk W q.1 q.2.1 q.2.2 ∧ q.1 ≠ gp ∧ q.1 ≠ gr
  q : RdR (Sh.int .i32) W (FrP R w gp gr W) Aq qs
  v : RdR (Sh.int .i32) W (FrP R w gp gr W) V vs
  kn : RdR (Sh.int .i64) W (FrP R w gp gr W) Ak kn
  wt : RdR SP W (FrP R w gp gr W) Aw wt
  bs : RdR SP W (FrP R w gp gr W) Ab bs
section
variable {w W W' : World} {R : Nat → Prop} {gp gr : Nat} {cs cr : Array Value} {bx : List (Nat × TypeId × Array Value)} {Aq V Ak Aw Ab A : Option Addr} {qs vs kn kn' : List Int} {wt bs ls : List Spt}
theorem RfP.low (h : RfP w R gp gr cs cr bx Aq qs V vs Ak kn Aw wt Ab bs W) {d : Nat} (hd : FrP R w gp gr W d) : d < W.heap.size := hd.1.elim (fun e => Nat.lt_of_lt_of_le (h.hR d e) h.bel.size) fun e => e.2
theorem RfP.grow (h : RfP w R gp gr cs cr bx Aq qs V vs Ak kn Aw wt Ab bs W) (hs : W.heap.size ≤ W'.heap.size) {d : Nat} (hd : FrP R w gp gr W d) : FrP R w gp gr W' d := ⟨hd.1.imp id fun e => ⟨e.1, Nat.lt_of_lt_of_le e.2 hs⟩, hd.2⟩
theorem RfP.new (h : RfP w R gp gr cs cr bx Aq qs V vs Ak kn Aw wt Ab bs W) {d : Nat} (h1 : W.heap.size ≤ d) (h2 : d < W'.heap.size) : FrP R w gp gr W' d := by
  have a := h.p.lt
  have b := h.r.lt
  have c := h.bel.size
  exact ⟨.inr ⟨by omega, h2⟩, by omega, by omega⟩
theorem RfP.keep {α : Type} {S : Sh α} {xs : List α} (h : RfP w R gp gr cs cr bx Aq qs V vs Ak kn Aw wt Ab bs W) (hb : Below W.heap.size W W') (hx : RdR S W (FrP R w gp gr W) A xs) : RdR S W' (FrP R w gp gr W') A xs :=
  (hx.below hb fun d hd => h.low hd).more fun d hd => h.grow hb.size hd
theorem RfP.step (h : RfP w R gp gr cs cr bx Aq qs V vs Ak kn Aw wt Ab bs W) (hb : Below W.heap.size W W') : RfP w R gp gr cs cr bx Aq qs V vs Ak kn Aw wt Ab bs W' :=
  ⟨Below.step h.bel hb, h.hR, h.p.below hb h.p.lt, h.r.below hb h.r.lt, h.hp, h.hr, h.ne, fun q hq => ⟨(h.bx q hq).1.below hb (h.bx q hq).1.lt, (h.bx q hq).2⟩, h.keep hb h.q, h.keep hb h.v, h.keep hb h.kn, h.keep hb h.wt, h.keep hb h.bs⟩
theorem RfP.setx {α : Type} {S : Sh α} {xs : List α} {g i : Nat} {u : Value} (hg : g = gp ∨ g = gr) (hx : RdR S W (FrP R w gp gr W) A xs) : RdR S (W.setCell ⟨g, i, none⟩ u) (FrP R w gp gr (W.setCell ⟨g, i, none⟩ u)) A xs :=
  (hx.keepBlocks fun d hd => Below.heap_setCell W ⟨g, i, none⟩ u d (by rcases hg with rfl | rfl; exact hd.2.1; exact hd.2.2)).more fun d hd => ⟨hd.1.imp id fun e => ⟨e.1, by simpa using e.2⟩, hd.2⟩
theorem RfP.set_ (h : RfP w R gp gr cs cr bx Aq qs V vs Ak kn Aw wt Ab bs W) (i : Nat) (u : Value) : RfP w R gp gr (cs.setIfInBounds i u) cr bx Aq qs V vs Ak kn Aw wt Ab bs (W.setCell ⟨gp, i, none⟩ u) :=
  ⟨h.bel.setCell h.hp _, h.hR, h.p.set_ i u, h.r.far (Ne.symm h.ne) _, h.hp, h.hr, h.ne, fun q hq => ⟨(h.bx q hq).1.far (h.bx q hq).2.1 _, (h.bx q hq).2⟩, RfP.setx (.inl rfl) h.q, RfP.setx (.inl rfl) h.v, RfP.setx (.inl rfl) h.kn, RfP.setx (.inl rfl) h.wt, RfP.setx (.inl rfl) h.bs⟩
theorem RfP.setr (h : RfP w R gp gr cs cr bx Aq qs V vs Ak kn Aw wt Ab bs W) (i : Nat) (u : Value) : RfP w R gp gr cs (cr.setIfInBounds i u) bx Aq qs V vs Ak kn Aw wt Ab bs (W.setCell ⟨gr, i, none⟩ u) :=
  ⟨h.bel.setCell h.hr _, h.hR, h.p.far h.ne _, h.r.set_ i u, h.hp, h.hr, h.ne, fun q hq => ⟨(h.bx q hq).1.far (h.bx q hq).2.2 _, (h.bx q hq).2⟩, RfP.setx (.inr rfl) h.q, RfP.setx (.inr rfl) h.v, RfP.setx (.inr rfl) h.kn, RfP.setx (.inr rfl) h.wt, RfP.setx (.inr rfl) h.bs⟩
theorem RfP.boxed (h : RfP w R gp gr cs cr bx Aq qs V vs Ak kn Aw wt Ab bs W) (hb : Below W.heap.size W W') {g : Nat} {t : TypeId} {xs : Array Value} (hg : Blk W' g t xs) (hs : W.heap.size ≤ g) : RfP w R gp gr cs cr ((g, t, xs) :: bx) Aq qs V vs Ak kn Aw wt Ab bs W' := by
  have h2 := h.step hb
  refine ⟨h2.bel, h2.hR, h2.p, h2.r, h2.hp, h2.hr, h2.ne, fun q hq => ?_, h2.q, h2.v, h2.kn, h2.wt, h2.bs⟩
  rcases List.mem_cons.1 hq with rfl | hq
  · have a := h.p.lt
    have b := h.r.lt
    exact ⟨hg, by simp only; omega, by simp only; omega⟩
  · exact h2.bx q hq
theorem RfP.blk (h : RfP w R gp gr cs cr bx Aq qs V vs Ak kn Aw wt Ab bs W) {g : Nat} {t : TypeId} {xs : Array Value} (hg : (g, t, xs) ∈ bx) : Blk W g t xs := (h.bx _ hg).1
theorem RfP.kn_ (h : RfP w R gp gr cs cr bx Aq qs V vs Ak kn Aw wt Ab bs W) (hx : RdR (Sh.int .i64) W (FrP R w gp gr W) A kn') : RfP w R gp gr cs cr bx Aq qs V vs A kn' Aw wt Ab bs W := ⟨h.bel, h.hR, h.p, h.r, h.hp, h.hr, h.ne, h.bx, h.q, h.v, hx, h.wt, h.bs⟩
theorem RfP.wt_ (h : RfP w R gp gr cs cr bx Aq qs V vs Ak kn Aw wt Ab bs W) (hx : RdR SP W (FrP R w gp gr W) A ls) : RfP w R gp gr cs cr bx Aq qs V vs Ak kn A ls Ab bs W := ⟨h.bel, h.hR, h.p, h.r, h.hp, h.hr, h.ne, h.bx, h.q, h.v, h.kn, hx, h.bs⟩
theorem RfP.bs_ (h : RfP w R gp gr cs cr bx Aq qs V vs Ak kn Aw wt Ab bs W) (hx : RdR SP W (FrP R w gp gr W) A ls) : RfP w R gp gr cs cr bx Aq qs V vs Ak kn Aw wt A ls W := ⟨h.bel, h.hR, h.p, h.r, h.hp, h.hr, h.ne, h.bx, h.q, h.v, h.kn, h.wt, hx⟩
/-- a row that came later -/
theorem RfP.made {α : Type} {S : Sh α} {xs : List α} (h : RfP w R gp gr cs cr bx Aq qs V vs Ak kn Aw wt Ab bs W) (hx : RdR S W' (Btw W.heap.size W'.heap.size) A xs) : RdR S W' (FrP R w gp gr W') A xs := hx.more fun d hd => h.new hd.1 hd.2
theorem RfP.growR {α : Type} {S : Sh α} {xs : List α} (h : RfP w R gp gr cs cr bx Aq qs V vs Ak kn Aw wt Ab bs W) (hs : W.heap.size ≤ W'.heap.size) (hx : RdR S W' (Grow (FrP R w gp gr W) W W') A xs) : RdR S W' (FrP R w gp gr W') A xs := hx.more fun d hd => hd.elim (fun e => h.grow hs e) fun e => h.new e.1 e.2
theorem RfP.wide (h : RfP w R gp gr cs cr bx Aq qs V vs Ak kn Aw wt Ab bs W) : I32s W W.heap.size V vs ∧ I32s W W.heap.size Aq qs := ⟨h.v.rd fun b hb => h.low hb, h.q.rd fun b hb => h.low hb⟩
/-- P's cells are laid into the result's variable -/
theorem RfP.res {a0 a1 a2 a3 a4 a5 : Value} (h : RfP w R gp gr #[a0, a1, a2, a3, a4, a5] cr bx Aq qs V vs Ak kn Aw wt Ab bs W) (hc : cr.size = 6) : RfP w R gp gr #[a0, a1, a2, a3, a4, a5] #[a0, a1, a2, a3, a4, a5] bx Aq qs V vs Ak kn Aw wt Ab bs ((((((W.setCell ⟨gr, 0, none⟩ a0).setCell ⟨gr, 1, none⟩ a1).setCell ⟨gr, 2, none⟩ a2).setCell ⟨gr, 3, none⟩ a3).setCell ⟨gr, 4, none⟩ a4).setCell ⟨gr, 5, none⟩ a5) := by
  have k := (((((h.setr 0 a0).setr 1 a1).setr 2 a2).setr 3 a3).setr 4 a4).setr 5 a5
  have e : (((((cr.setIfInBounds 0 a0).setIfInBounds 1 a1).setIfInBounds 2 a2).setIfInBounds 3 a3).setIfInBounds 4 a4).setIfInBounds 5 a5 = #[a0, a1, a2, a3, a4, a5] := by
    obtain ⟨l⟩ := cr
    rcases l with _ | ⟨x0, _ | ⟨x1, _ | ⟨x2, _ | ⟨x3, _ | ⟨x4, _ | ⟨x5, _ | ⟨x6, l⟩⟩⟩⟩⟩⟩⟩ <;> simp at hc <;> rfl
  rwa [e] at k
/-- what stays of it for who called -/
theorem RfP.out {α : Type} {S : Sh α} {xs : List α} (h : RfP w R gp gr cs cr bx Aq qs V vs Ak kn Aw wt Ab bs W) (hx : RdR S W (FrP R w gp gr W) A xs) : RdR S W (Grow R w W) A xs := hx.more fun d hd => hd.1
theorem RfP.cells (h : RfP w R gp gr cs cr bx Aq qs V vs Ak kn Aw wt Ab bs W) : ∀ i, W.cell? ⟨gp, i, none⟩ = cs[i]? := h.p.cell
end
theorem RfP.start {w W : World} {R : Nat → Prop} {gp gr : Nat} {cs cr : Array Value} {bx : List (Nat × TypeId × Array Value)} {Aq V Ak Aw Ab : Option Addr} {qs vs kn : List Int} {wt bs : List Spt} (hb : Below w.heap.size w W) (hR : ∀ d, R d → d < w.heap.size) (p : Blk W gp 61 cs) (r : Blk W gr 61 cr) (hp : w.heap.size ≤ gp) (hr : w.heap.size ≤ gr) (ne : gp ≠ gr)
    (hx : RdR (Sh.int .i32) w R Aq qs ∧ RdR (Sh.int .i64) w R Ak kn ∧ RdR SP w R Aw wt ∧ RdR SP w R Ab bs ∧ RdR (Sh.int .i32) w R V vs) (hbx : ∀ q ∈ bx, Blk W q.1 q.2.1 q.2.2 ∧ q.1 ≠ gp ∧ q.1 ≠ gr) : RfP w R gp gr cs cr bx Aq qs V vs Ak kn Aw wt Ab bs W := by
  have hm : ∀ d, R d → FrP R w gp gr W d := fun d hd => ⟨.inl hd, by have := hR d hd; omega, by have := hR d hd; omega⟩
  exact ⟨hb, hR, p, r, hp, hr, ne, hbx, (hx.1.below hb hR).more hm, (hx.2.2.2.2.below hb hR).more hm, (hx.2.1.below hb hR).more hm, (hx.2.2.1.below hb hR).more hm, (hx.2.2.2.1.below hb hR).more hm⟩
theorem info_intP : (Tryz.prog.info? 3).map (fun i => (i.zero, i.size, i.bytes)) = some (some (.int .i64 0), 1, 8) := by kernel_rfl
theorem mem_take_snocP {l : List Int} {k : Nat} {x y : Int} (h : l[k]? = some x) : y ∈ l.take (k + 1) ↔ y ∈ l.take k ∨ y = x := by
  rw [List.take_add_one, h]; simp
/-- a P, as a value -/
def aggP (Aq : Option Addr) (nq cq : Nat) (mask ef : Int) (Ak : Option Addr) (nk ck : Nat) (Aw : Option Addr) (nw cw : Nat) (Ab : Option Addr) (nb cb : Nat) : Value := .agg #[.slice Aq nq cq, .int .u64 mask, .int .i64 ef, .slice Ak nk ck, .slice Aw nw cw, .slice Ab nb cb]
/-- what the document's Offer answers -/
def ROffP (w : World) (R : Nat → Prop) (Aq : Option Addr) (nq cq : Nat) (mask ef : Int) (Ak : Option Addr) (nk ck : Nat) (kn : List Int) (Aw : Option Addr) (nw cw : Nat) (wt : List Spt) (Ab : Option Addr) (nb cb : Nat) (bs : List Spt) (sp : Spt) (has : Bool) (e : Ending) (w' : World) : Prop :=
  Below w.heap.size w w' ∧ ((sp.2 ∈ kn ∧ e = .returned (.tuple #[aggP Aq nq cq mask ef Ak nk ck Aw nw cw Ab nb cb, .bool false])) ∨
  (sp.2 ∉ kn ∧ ∃ Ak' ck' Aw' cw' Ab' nb' cb', e = .returned (.tuple #[aggP Aq nq cq mask ef Ak' (nk + 1) ck' Aw' (nw + 1) cw' Ab' nb' cb', .bool true]) ∧ nk + 1 ≤ ck' ∧ ck' ≤ 9223372036854775807 ∧ nw + 1 ≤ cw' ∧ cw' ≤ 9223372036854775807 ∧ nb' ≤ cb' ∧ cb' ≤ 9223372036854775807 ∧ (if has = true then (offR (mostB ef) bs sp).1 else bs).length = nb' ∧
    RdR (Sh.int .i64) w' (Grow R w w') Ak' (kn ++ [sp.2]) ∧ RdR SP w' (Grow R w w') Aw' (srtS (wt ++ [sp])) ∧ RdR SP w' (Grow R w w') Ab' (if has = true then (offR (mostB ef) bs sp).1 else bs)))
set_option maxHeartbeats 8000000 in
set_option maxRecDepth 100000 in
theorem refOfferP_any {w : World} {R : Nat → Prop} (hR : ∀ d, R d → d < w.heap.size) (Aq : Option Addr) (nq cq : Nat) (qs : List Int) (mask ef : Int) (Ak : Option Addr) (nk ck : Nat) (kn : List Int) (Aw : Option Addr) (nw cw : Nat) (wt : List Spt) (Ab : Option Addr) (nb cb : Nat) (bs : List Spt) (s id tags : Int) (V : Option Addr) (nv cv : Nat) (vs : List Int)
    (hq : RdR (Sh.int .i32) w R Aq qs) (hnq : qs.length = nq) (hcq : nq ≤ cq) (hcq2 : cq ≤ 9223372036854775807) (hqi : I32 qs)
    (hk : RdR (Sh.int .i64) w R Ak kn) (hnk : kn.length = nk) (hck : nk ≤ ck) (hck2 : ck ≤ 9223372036854775807) (hk6 : nk ≤ 100000)
    (hw : RdR SP w R Aw wt) (hnw : wt.length = nw) (hcw : nw ≤ cw) (hcw2 : cw ≤ 9223372036854775807) (hw6 : nw ≤ 100000)
    (hb : RdR SP w R Ab bs) (hnb : bs.length = nb) (hcb : nb ≤ cb) (hcb2 : cb ≤ 9223372036854775807) (hb6 : nb ≤ 100000)
    (hv : RdR (Sh.int .i32) w R V vs) (hnv : vs.length = nv) (hcv : nv ≤ cv) (hcv2 : cv ≤ 9223372036854775807) (hvi : I32 vs) (hmask : 0 ≤ mask ∧ mask ≤ 18446744073709551615) :
    Calls Tryz.prog 61 #[aggP Aq nq cq mask ef Ak nk ck Aw nw cw Ab nb cb, .int .i64 s, .agg #[.int .u64 id, .slice V nv cv, .int .u64 tags]] w (ROffP w R Aq nq cq mask ef Ak nk ck kn Aw nw cw wt Ab nb cb bs ((distOf qs vs, id), s) (hasB mask tags)) := by
  have HQI := hide hqi
  have HVI := hide hvi
  have HL := hide (And.intro hnq (And.intro hnk (And.intro hnw (And.intro hnb hnv))))
  have HM := hide (has_same (t := tags) hmask)
  have hgrow : ∀ d, R d → Grow R w w d := fun d hd => .inl hd
  have HX := hide (And.intro hq (And.intro hk (And.intro hw (And.intro hb hv))))
  have H := hide (show RfP w R w.heap.size (w.heap.size + 1 + 1) #[.slice Aq nq cq, .int .u64 mask, .int .i64 ef, .slice Ak nk ck, .slice Aw nw cw, .slice Ab nb cb] #[.slice none 0 0, .int .u64 0, .int .i64 0, .slice none 0 0, .slice none 0 0, .slice none 0 0] [(w.heap.size + 1, 40, #[.int .u64 id, .slice V nv cv, .int .u64 tags])] Aq qs V vs Ak kn Aw wt Ab bs (((w.alloc (.cells #[.slice Aq nq cq, .int .u64 mask, .int .i64 ef, .slice Ak nk ck, .slice Aw nw cw, .slice Ab nb cb] 61)).alloc (.cells #[.int .u64 id, .slice V nv cv, .int .u64 tags] 40)).alloc (.cells #[.slice none 0 0, .int .u64 0, .int .i64 0, .slice none 0 0, .slice none 0 0, .slice none 0 0] 61)) from
    RfP.start ((((Below.refl _ _).alloc (Nat.le_refl _) _).alloc (by simp) _).alloc (by simp; omega) _) hR (((Blk.new w 61 #[.slice Aq nq cq, .int .u64 mask, .int .i64 ef, .slice Ak nk ck, .slice Aw nw cw, .slice Ab nb cb]).alloc _).alloc _) (by have := Blk.new ((w.alloc (.cells #[.slice Aq nq cq, .int .u64 mask, .int .i64 ef, .slice Ak nk ck, .slice Aw nw cw, .slice Ab nb cb] 61)).alloc (.cells #[.int .u64 id, .slice V nv cv, .int .u64 tags] 40)) 61 #[.slice none 0 0, .int .u64 0, .int .i64 0, .slice none 0 0, .slice none 0 0, .slice none 0 0]; simpa using this) (Nat.le_refl _) (by omega) (by omega) ⟨hq, hk, hw, hb, hv⟩
      (fun q hq => by
        obtain rfl := List.mem_singleton.1 hq
        refine ⟨Blk.alloc ?_ _, by simp only; omega, by simp only; omega⟩
        have := Blk.new (w.alloc (.cells #[.slice Aq nq cq, .int .u64 mask, .int .i64 ef, .slice Ak nk ck, .slice Aw nw cw, .slice Ab nb cb] 61)) 40 #[.int .u64 id, .slice V nv cv, .int .u64 tags]
        simpa using this))
  have HOk := hide (show Below w.heap.size w w from Below.refl _ _)
  clear hq hk hw hb hv hqi hvi hnq hnk hnw hnb hnv hR hmask hgrow HX
  have HDx := hide (fun W hx hy => refDist_any Aq V nq cq nv cv qs vs W hx HL.out.1 HQI.out hcq hcq2 hy HL.out.2.2.2.2 HVI.out hcv hcv2)
  obtain ⟨d, hd⟩ : ∃ d, (distOf qs vs : Int) = d := ⟨_, rfl⟩
  rw [hd] at HDx ⊢
  clear hd
  unfold aggP
  go_enter Tryz.func61, Tryz.ntmps61
  go_upto_region 1 with fail
  generalize World.alloc (World.alloc (World.alloc w _) _) _ = W1 at *
  generalize w.heap.size + 1 + 1 = gr at *
  generalize w.heap.size + 1 = gi at *
  obtain ⟨gp, hgp⟩ : ∃ gp, w.heap.size = gp := ⟨_, rfl⟩
  have HA : Hid (RfP w R gp gr #[.slice Aq nq cq, .int .u64 mask, .int .i64 ef, .slice Ak nk ck, .slice Aw nw cw, .slice Ab nb cb] #[.slice none 0 0, .int .u64 0, .int .i64 0, .slice none 0 0, .slice none 0 0, .slice none 0 0] [(gi, 40, #[.int .u64 id, .slice V nv cv, .int .u64 tags])] Aq qs V vs Ak kn Aw wt Ab bs W1) := by rw [← hgp]; exact H
  rw [hgp]
  clear H HOk hgp
  have c3 := HA.out.p.cell 3
  simp at c3
  go_wp2
  clear c3
  go_loopw [9, 16] (fun _ i wr => ∃ k : Nat, k ≤ nk ∧ i = .int .i64 k ∧ Hid (s ∉ kn.take k) ∧ wr = W1) (fun _ i _ => nk - (intOf i).toNat)
  case atStart => exact ⟨0, by omega, rfl, hide (by simp), rfl⟩
  case round =>
    obtain ⟨k, hk, rfl, HI, rfl⟩ := hrel
    by_cases hlt : k < nk
    · obtain ⟨ad, y, rfl, _, hv, q0⟩ := RdR.icell HA.out.kn (k := k) (by have := HL.out.2.1; omega)
      have g0 : (0 : Int) ≤ k := by omega
      have g1 : (k : Int) < nk := by omega
      by_cases e : y = s
      · have HF := hide (show s ∈ kn from by rw [← e]; exact List.mem_of_getElem? hv)
        have he : (y == s) = true := by simpa using e
        clear hv e
        have c0 := HA.out.p.cell 0; have c1 := HA.out.p.cell 1; have c2 := HA.out.p.cell 2; have c3 := HA.out.p.cell 3; have c4 := HA.out.p.cell 4; have c5 := HA.out.p.cell 5; simp at c0 c1 c2 c3 c4 c5
        have r0 := HA.out.r.cell 0; have r1 := HA.out.r.cell 1; have r2 := HA.out.r.cell 2; have r3 := HA.out.r.cell 3; have r4 := HA.out.r.cell 4; have r5 := HA.out.r.cell 5; have f0 := HA.out.r.frozen 0; have f1 := HA.out.r.frozen 1; have f2 := HA.out.r.frozen 2; have f3 := HA.out.r.frozen 3; have f4 := HA.out.r.frozen 4; have f5 := HA.out.r.frozen 5; simp at r0 r1 r2 r3 r4 r5
        go_wp2
        have HZ := hide (HA.out.res rfl)
        have q0 := HZ.out.r.cell 0
        have q1 := HZ.out.r.cell 1
        have q2 := HZ.out.r.cell 2
        have q3 := HZ.out.r.cell 3
        have q4 := HZ.out.r.cell 4
        have q5 := HZ.out.r.cell 5
        simp at q0 q1 q2 q3 q4 q5
        refine bodyPost_ret (v := .tuple #[.agg #[.slice Aq nq cq, .int .u64 mask, .int .i64 ef, .slice (some ad) nk ck, .slice Aw nw cw, .slice Ab nb cb], .bool false]) (by simp [results, Tryz.results61, go_sem, q0, q1, q2, q3, q4, q5]) rfl ?_
        exact ⟨HZ.out.bel, .inl ⟨HF.out, rfl⟩⟩
      · have HS := hide (show s ∉ kn.take (k + 1) by rw [mem_take_snocP hv]; rintro (h | h); exact HI.out h; exact e h.symm)
        have he : (y == s) = false := by simpa using e
        clear hv e
        go_wp2
        go_roundw
        case rel => exact ⟨k + 1, by omega, by go_num, HS, by first | exact rfl | trivial⟩
        case measure => simp [intOf]; omega
    obtain rfl : nk = k := by omega
    have HF := hide (show s ∉ kn by have h := HI.out; rwa [List.take_of_length_le (by have := HL.out.2.1; omega)] at h)
    clear HI hlt hk
    go_upto_region 7 with fail
    refine startO (S := (RfP w R gp gr #[.slice Aq nq cq, .int .u64 mask, .int .i64 ef, .slice Ak nk ck, .slice Aw nw cw, .slice Ab nb cb] #[.slice none 0 0, .int .u64 0, .int .i64 0, .slice none 0 0, .slice none 0 0, .slice none 0 0] [(gi, 40, #[.int .u64 id, .slice V nv cv, .int .u64 tags])] Aq qs V vs Ak kn Aw wt Ab bs)) 12 (by as_aux_lemma => kernel_rfl) (by as_aux_lemma => kernel_rfl) (HA.out.step (Below.refl _ _).drew) (fun hHeld => ?_)
    clear HA
    have H0 := hide hHeld
    generalize World.drew _ = W0 at *
    refine putsO [8] [8] [(33, .int .i64 s)] 1 rfl [33] (by as_aux_lemma => kernel_rfl) (by as_aux_lemma => kernel_rfl) rfl (fun _ _ _ _ _ h => h) hHeld ?_
    refine takeO 0 25 (.fieldAddr 61 (.const (.pointer (some ⟨gp, 0, none⟩))) 0) 0 (.pointer (some ⟨gp, 0, none⟩)) (by as_aux_lemma => kernel_rfl) (by as_aux_lemma => kernel_rfl) (by as_aux_lemma => kernel_rfl) (fun _ _ _ _ _ h => h) (fun W hS => by clear hS hHeld; unfold cEv opC; as_aux_lemma => first | (go_simp; done) | (go_simp <;> rfl)) hHeld ?_
    refine takeO 2 27 (.fieldAddr 40 (.const (.pointer (some ⟨gi, 0, none⟩))) 1) 0 (.pointer (some ⟨gi, 1, none⟩)) (by as_aux_lemma => kernel_rfl) (by as_aux_lemma => kernel_rfl) (by as_aux_lemma => kernel_rfl) (fun _ _ _ _ _ h => h) (fun W hS => by clear hS hHeld; unfold cEv opC; as_aux_lemma => first | (go_simp; done) | (go_simp <;> rfl)) hHeld ?_
    refine takeO 5 30 (.fieldAddr 40 (.const (.pointer (some ⟨gi, 0, none⟩))) 0) 0 (.pointer (some ⟨gi, 0, none⟩)) (by as_aux_lemma => kernel_rfl) (by as_aux_lemma => kernel_rfl) (by as_aux_lemma => kernel_rfl) (fun _ _ _ _ _ h => h) (fun W hS => by clear hS hHeld; unfold cEv opC; as_aux_lemma => first | (go_simp; done) | (go_simp <;> rfl)) hHeld ?_
    refine takeO 1 26 (.load 25 (.const (.pointer (some ⟨gp, 0, none⟩)))) 25 (.slice Aq nq cq) (by as_aux_lemma => kernel_rfl) (by as_aux_lemma => kernel_rfl) (by as_aux_lemma => kernel_rfl) (fun _ _ _ _ _ h => h) (fun W hS => by have z0 := hS.p.cell 0; simp at z0; clear hS hHeld; unfold cEv opC; as_aux_lemma => first | (go_simp; done) | (go_simp <;> rfl)) hHeld ?_
    refine takeO 3 28 (.load 25 (.const (.pointer (some ⟨gi, 1, none⟩)))) 25 (.slice V nv cv) (by as_aux_lemma => kernel_rfl) (by as_aux_lemma => kernel_rfl) (by as_aux_lemma => kernel_rfl) (fun _ _ _ _ _ h => h) (fun W hS => by have hb := hS.blk (List.mem_cons_self ..); have z0 := hb.cell 0; have z1 := hb.cell 1; simp at z0 z1; clear hb; clear hS hHeld; unfold cEv opC; as_aux_lemma => first | (go_simp; done) | (go_simp <;> rfl)) hHeld ?_
    refine takeO 6 31 (.load 26 (.const (.pointer (some ⟨gi, 0, none⟩)))) 26 (.int .u64 id) (by as_aux_lemma => kernel_rfl) (by as_aux_lemma => kernel_rfl) (by as_aux_lemma => kernel_rfl) (fun _ _ _ _ _ h => h) (fun W hS => by have hb := hS.blk (List.mem_cons_self ..); have z0 := hb.cell 0; have z1 := hb.cell 1; simp at z0 z1; clear hb; clear hS hHeld; unfold cEv opC; as_aux_lemma => first | (go_simp; done) | (go_simp <;> rfl)) hHeld ?_
    refine readyO [4, 10] (by as_aux_lemma => kernel_rfl) (by simp) ?_
    refine callO 4 29 (.call { callee := .value (.func 84), args := #[.const (.slice Aq nq cq), .const (.slice V nv cv)], argTypes := #[25, 25] }) 26 84 #[.slice Aq nq cq, .slice V nv cv] (by as_aux_lemma => kernel_rfl) (by as_aux_lemma => kernel_rfl) (by unfold cEv opC; go_simp) ?_ ?_
    · skip
      refine (HDx.out _ hHeld.wide.2 hHeld.wide.1).mono ?_
      rintro e _ ⟨rfl, rfl⟩
      refine ⟨_, rfl, hHeld, fun hHeld2 => ?_⟩
      clear hHeld
      have hHeld := hHeld2
      clear hHeld2
      refine takeO 7 32 (.build 49 #[(0, .const (.int .u64 d)), (1, .const (.int .u64 id))]) 49 (.agg #[.int .u64 d, .int .u64 id]) (by as_aux_lemma => kernel_rfl) (by as_aux_lemma => kernel_rfl) (by as_aux_lemma => kernel_rfl) (fun _ _ _ _ _ h => h) (fun W hS => by clear hS hHeld; unfold cEv opC; as_aux_lemma => first | (go_simp; done) | (go_simp <;> rfl)) hHeld ?_
      refine takeO 9 34 (.build 51 #[(0, .const (.agg #[.int .u64 d, .int .u64 id])), (1, .const (.int .i64 s))]) 51 (.agg #[.int .u64 d, .int .u64 id, .int .i64 s]) (by as_aux_lemma => kernel_rfl) (by as_aux_lemma => kernel_rfl) (by as_aux_lemma => kernel_rfl) (fun _ _ _ _ _ h => h) (fun W hS => by clear hS hHeld; unfold cEv opC; as_aux_lemma => first | (go_simp; done) | (go_simp <;> rfl)) hHeld ?_
      refine readyO [10] (by as_aux_lemma => kernel_rfl) (by simp) ?_
      refine memO 10 10 (.alloc 51) 0 (.pointer (some ⟨W0.heap.size, 0, none⟩)) (W0.alloc (.cells #[.int .u64 0, .int .u64 0, .int .i64 0] 51)) (by as_aux_lemma => kernel_rfl) (by as_aux_lemma => kernel_rfl) (by unfold cEv opC; go_simp) (hHeld.step (below1 _ _)) (fun hHeld2 => ?_) AllReadyH.nil
      clear hHeld
      have hHeld := hHeld2
      clear hHeld2
      have HG := hide (Blk.new W0 51 #[.int .u64 0, .int .u64 0, .int .i64 0])
      have HBa := hide (below1 W0 (.cells #[.int .u64 0, .int .u64 0, .int .i64 0] 51))
      generalize World.alloc W0 (.cells #[.int .u64 0, .int .u64 0, .int .i64 0] 51) = Wa at *
      obtain ⟨gs, hgs⟩ : ∃ gs, W0.heap.size = gs := ⟨_, rfl⟩
      have Hgs := hide hgs
      rw [hgs] at HG
      rw [hgs]
      clear hgs
      have x0 := HG.out.cell 0
      have x1 := HG.out.cell 1
      have x2 := HG.out.cell 2
      have f0 := HG.out.frozen 0
      have f1 := HG.out.frozen 1
      have f2 := HG.out.frozen 2
      simp at x0 x1 x2
      refine readyO [11] (by as_aux_lemma => kernel_rfl) (by simp) ?_
      have hst := spot_stored HG.out rfl HBa.out (by rw [Hgs.out]; exact Nat.le_refl _) ((d, id), s)
      simp only at hst
      clear HDx
      refine storeO 11 (.store 51 (.const (.pointer (some ⟨gs, 0, none⟩))) (.const (.agg #[.int .u64 d, .int .u64 id, .int .i64 s]))) 0 (((Wa.setCell ⟨gs, 0, none⟩ (.int .u64 d)).setCell ⟨gs, 1, none⟩ (.int .u64 id)).setCell ⟨gs, 2, none⟩ (.int .i64 s)) (by as_aux_lemma => kernel_rfl) (by as_aux_lemma => kernel_rfl) (by unfold cEv opC; go_simp) (H0.out.step hst.2) (fun hHeld2 => ?_) AllReadyH.nil
      clear hHeld
      have hHeld := hHeld2
      clear hHeld2
      refine doneO [(10, .pointer (some ⟨gs, 0, none⟩)), (14, .pointer (some ⟨gp, 0, none⟩)), (0, .slice Aq nq cq), (0, .pointer (some ⟨gi, 1, none⟩)), (0, .slice V nv cv), (0, .int .u64 d), (0, .pointer (some ⟨gi, 0, none⟩)), (0, .int .u64 id), (0, .agg #[.int .u64 d, .int .u64 id]), (0, .int .i64 s), (0, .agg #[.int .u64 d, .int .u64 id, .int .i64 s])] (by as_aux_lemma => kernel_rfl) (by as_aux_lemma => kernel_rfl) ?_
      simp only [fillG]
      clear x0 x1 x2 f0 f1 f2 hHeld
      have H4 := hide (H0.out.boxed hst.2 hst.1 (by rw [Hgs.out]; exact Nat.le_refl _))
      clear hst HG HBa H0
      generalize ((Wa.setCell ⟨gs, 0, none⟩ (.int .u64 d)).setCell ⟨gs, 1, none⟩ (.int .u64 id)).setCell ⟨gs, 2, none⟩ (.int .i64 s) = W4 at *
      go_upto_region 8 with fail
      have c0 := H4.out.p.cell 0; have c1 := H4.out.p.cell 1; have c2 := H4.out.p.cell 2; have c3 := H4.out.p.cell 3; have c4 := H4.out.p.cell 4; have c5 := H4.out.p.cell 5; simp at c0 c1 c2 c3 c4 c5
      have g3 := H4.out.p.frozen 3
      have c3a := (H4.out.p.alloc (.cells #[] 3)).cell 3
      simp at c3a
      have ho := hide (World.ownsRow_lit (base := W4.heap.size) (e := 3) (size := 1) W4 #[] 0 (Nat.le_refl _) (by simp [maxLen]) rfl)
      go_upto_region 9 with (first
        | (at_builtin; refine wpList_append_ints rfl (.tmp 35) (.tmp 37) 27 rfl W4.heap.size Tryz.underlying27 info_intP rfl _ 0 [] rfl ho.out W4.heap.size Ak nk ck kn rfl ((H4.out.kn.rd fun b hb => H4.out.low hb).alloc (Nat.le_refl _) _) HL.out.2.1 (by simp only [maxLen]; omega) (by omega) (by simp) ?_; intro v7 w7 hown7 hgr7 hat7; rw [Nat.zero_add, List.nil_append] at hown7; have HB7 := hide (below_own ((Below.refl W4.heap.size W4).alloc (Nat.le_refl _) _) ho.out (by simp) hgr7); have HO7 := hide hown7; clear hown7 hgr7 hat7 ho)
        | (at_builtin; refine wpList_append_elem rfl (.tmp 38) (.tmp 40) 27 rfl W4.heap.size Tryz.underlying27 info_intP rfl (by decide) v7 nk _ rfl HO7.out _ _ rfl rfl (by simp [Value.oneCell']) (by simp only [maxLen]; omega) (by omega) HB7.out.size ?_; intro v8 w8 hown8 hgr8 hat8; have HB8 := hide (below_own HB7.out HO7.out HB7.out.size hgr8); obtain ⟨A8, c8, rfl, u1, u2⟩ := own_form hown8; have HO8 := hide (H4.out.made (intR_own (xs := kn ++ [s]) (by simpa using hown8))); clear hown8 hgr8 hat8 HO7; have H8 := hide (H4.out.step HB8.out); clear c0 c1 c2 c3 c4 c5 c3a g3; have c3 := H8.out.p.cell 3; have g3 := H8.out.p.frozen 3; simp at c3))
      have H9 := hide (show RfP w R gp gr #[.slice Aq nq cq, .int .u64 mask, .int .i64 ef, .slice A8 (nk + 1) c8, .slice Aw nw cw, .slice Ab nb cb] #[.slice none 0 0, .int .u64 0, .int .i64 0, .slice none 0 0, .slice none 0 0, .slice none 0 0] [(gs, 51, #[.int .u64 d, .int .u64 id, .int .i64 s]), (gi, 40, #[.int .u64 id, .slice V nv cv, .int .u64 tags])] Aq qs V vs A8 (kn ++ [s]) Aw wt Ab bs (w8.setCell ⟨gp, 3, none⟩ (.slice A8 (nk + 1) c8)) from by have := (H8.out.kn_ HO8.out).set_ 3 (.slice A8 (nk + 1) c8); simpa using this)
      clear c3 g3 H8 HO8 H4 HB7 HB8
      generalize World.setCell w8 _ _ = w9 at *
      have c0 := H9.out.p.cell 0; have c1 := H9.out.p.cell 1; have c2 := H9.out.p.cell 2; have c3 := H9.out.p.cell 3; have c4 := H9.out.p.cell 4; have c5 := H9.out.p.cell 5; simp at c0 c1 c2 c3 c4 c5
      have hb := H9.out.blk (List.mem_cons_self ..)
      have y0 := hb.cell 0
      have y1 := hb.cell 1
      have y2 := hb.cell 2
      simp at y0 y1 y2
      clear hb
      go_upto_region 10 with (go_at_call 85; refine (refPush_any Aw nw cw wt ((d, id), s) _ (H9.out.wt.rd fun b hb => H9.out.low hb) HL.out.2.2.1 hcw hcw2 (by omega)).mono ?_; rintro e w10 ⟨v10, rfl, ho10, hb10⟩; obtain ⟨A9, c9, rfl, u3, u4⟩ := own_form ho10; have HO9 := hide (H9.out.made (flatS.own ho10)); have H10 := hide (H9.out.step hb10); clear ho10 hb10 c0 c1 c2 c3 c4 c5 y0 y1 y2; have c4 := H10.out.p.cell 4; have g4 := H10.out.p.frozen 4; simp at c4)
      have H11 := hide (show RfP w R gp gr #[.slice Aq nq cq, .int .u64 mask, .int .i64 ef, .slice A8 (nk + 1) c8, .slice A9 (nw + 1) c9, .slice Ab nb cb] #[.slice none 0 0, .int .u64 0, .int .i64 0, .slice none 0 0, .slice none 0 0, .slice none 0 0] [(gs, 51, #[.int .u64 d, .int .u64 id, .int .i64 s]), (gi, 40, #[.int .u64 id, .slice V nv cv, .int .u64 tags])] Aq qs V vs A8 (kn ++ [s]) A9 (srtS (wt ++ [((d, id), s)])) Ab bs (w10.setCell ⟨gp, 4, none⟩ (.slice A9 (nw + 1) c9)) from by have := (H10.out.wt_ HO9.out).set_ 4 (.slice A9 (nw + 1) c9); simpa using this)
      clear c4 g4 H10 HO9 H9
      generalize World.setCell w10 _ _ = w11 at *
      have c0 := H11.out.p.cell 0; have c1 := H11.out.p.cell 1; have c2 := H11.out.p.cell 2; have c3 := H11.out.p.cell 3; have c4 := H11.out.p.cell 4; have c5 := H11.out.p.cell 5; simp at c0 c1 c2 c3 c4 c5
      have hb := H11.out.blk (List.mem_cons_self ..)
      have y0 := hb.cell 0
      have y1 := hb.cell 1
      have y2 := hb.cell 2
      have hb2 := H11.out.blk (List.mem_cons_of_mem _ (List.mem_cons_self ..))
      have z2 := hb2.cell 2
      simp at y0 y1 y2 z2
      clear hb hb2
      have hM := HM.out
      rcases hh : hasB mask tags with _ | _
      · rw [hh] at hM
        go_upto_region 13 with fail
        clear hM z2 y0 y1 y2
        have r0 := H11.out.r.cell 0; have r1 := H11.out.r.cell 1; have r2 := H11.out.r.cell 2; have r3 := H11.out.r.cell 3; have r4 := H11.out.r.cell 4; have r5 := H11.out.r.cell 5; have f0 := H11.out.r.frozen 0; have f1 := H11.out.r.frozen 1; have f2 := H11.out.r.frozen 2; have f3 := H11.out.r.frozen 3; have f4 := H11.out.r.frozen 4; have f5 := H11.out.r.frozen 5; simp at r0 r1 r2 r3 r4 r5
        go_wp2
        have HZ := hide (H11.out.res rfl)
        have q0 := HZ.out.r.cell 0
        have q1 := HZ.out.r.cell 1
        have q2 := HZ.out.r.cell 2
        have q3 := HZ.out.r.cell 3
        have q4 := HZ.out.r.cell 4
        have q5 := HZ.out.r.cell 5
        simp at q0 q1 q2 q3 q4 q5
        refine bodyPost_ret (v := .tuple #[.agg #[.slice Aq nq cq, .int .u64 mask, .int .i64 ef, .slice A8 (nk + 1) c8, .slice A9 (nw + 1) c9, .slice Ab nb cb], .bool true]) (by simp [results, Tryz.results61, go_sem, q0, q1, q2, q3, q4, q5]) rfl ?_
        refine ⟨HZ.out.bel, .inr ⟨HF.out, A8, c8, A9, c9, Ab, nb, cb, rfl, u1, u2, u3, u4, hcb, hcb2, ?_⟩⟩
        rw [hh]
        exact ⟨HL.out.2.2.2.1, HZ.out.out HZ.out.kn, HZ.out.out HZ.out.wt, HZ.out.out HZ.out.bs⟩
      · rw [hh] at hM
        go_upto_region 12 with (go_at_call 86; refine (refOffer_any (R := FrP R w gp gr w11) Ab nb cb bs ef ((d, id), s) H11.out.bs (fun b hb => H11.out.low hb) HL.out.2.2.2.1 hcb hcb2 (by omega)).mono ?_; rintro e w12 ⟨A10, n10, c10, rfl, o1, o2, o3, o4, o5⟩; have HO := hide (And.intro o1 (H11.out.growR o5.size o4)); have H12 := hide (H11.out.step o5); clear o1 o4 o5 c0 c1 c2 c3 c4 c5 y0 y1 y2 z2; have c5 := H12.out.p.cell 5; have g5 := H12.out.p.frozen 5; simp at c5)
        clear hM
        go_upto_region 13 with fail
        have H13 := hide (show RfP w R gp gr #[.slice Aq nq cq, .int .u64 mask, .int .i64 ef, .slice A8 (nk + 1) c8, .slice A9 (nw + 1) c9, .slice A10 n10 c10] #[.slice none 0 0, .int .u64 0, .int .i64 0, .slice none 0 0, .slice none 0 0, .slice none 0 0] [(gs, 51, #[.int .u64 d, .int .u64 id, .int .i64 s]), (gi, 40, #[.int .u64 id, .slice V nv cv, .int .u64 tags])] Aq qs V vs A8 (kn ++ [s]) A9 (srtS (wt ++ [((d, id), s)])) A10 (offR (mostB ef) bs ((d, id), s)).1 (w12.setCell ⟨gp, 5, none⟩ (.slice A10 n10 c10)) from by have := (H12.out.bs_ HO.out.2).set_ 5 (.slice A10 n10 c10); simpa using this)
        clear c5 g5 H12 H11
        generalize World.setCell w12 _ _ = w13 at *
        have c0 := H13.out.p.cell 0; have c1 := H13.out.p.cell 1; have c2 := H13.out.p.cell 2; have c3 := H13.out.p.cell 3; have c4 := H13.out.p.cell 4; have c5 := H13.out.p.cell 5; simp at c0 c1 c2 c3 c4 c5
        have r0 := H13.out.r.cell 0; have r1 := H13.out.r.cell 1; have r2 := H13.out.r.cell 2; have r3 := H13.out.r.cell 3; have r4 := H13.out.r.cell 4; have r5 := H13.out.r.cell 5; have f0 := H13.out.r.frozen 0; have f1 := H13.out.r.frozen 1; have f2 := H13.out.r.frozen 2; have f3 := H13.out.r.frozen 3; have f4 := H13.out.r.frozen 4; have f5 := H13.out.r.frozen 5; simp at r0 r1 r2 r3 r4 r5
        go_wp2
        have HZ := hide (H13.out.res rfl)
        have q0 := HZ.out.r.cell 0
        have q1 := HZ.out.r.cell 1
        have q2 := HZ.out.r.cell 2
        have q3 := HZ.out.r.cell 3
        have q4 := HZ.out.r.cell 4
        have q5 := HZ.out.r.cell 5
        simp at q0 q1 q2 q3 q4 q5
        refine bodyPost_ret (v := .tuple #[.agg #[.slice Aq nq cq, .int .u64 mask, .int .i64 ef, .slice A8 (nk + 1) c8, .slice A9 (nw + 1) c9, .slice A10 n10 c10], .bool true]) (by simp [results, Tryz.results61, go_sem, q0, q1, q2, q3, q4, q5]) rfl ?_
        refine ⟨HZ.out.bel, .inr ⟨HF.out, A8, c8, A9, c9, A10, n10, c10, rfl, u1, u2, u3, u4, o2, o3, ?_⟩⟩
        rw [hh]
        exact ⟨HO.out.1, HZ.out.out HZ.out.kn, HZ.out.out HZ.out.wt, HZ.out.out HZ.out.bs⟩
    refine memO 10 10 (.alloc 51) 0 (.pointer (some ⟨W0.heap.size, 0, none⟩)) (W0.alloc (.cells #[.int .u64 0, .int .u64 0, .int .i64 0] 51)) (by as_aux_lemma => kernel_rfl) (by as_aux_lemma => kernel_rfl) (by unfold cEv opC; go_simp) (hHeld.step (below1 _ _)) (fun hHeld2 => ?_) AllReadyH.nil
    clear hHeld
    have hHeld := hHeld2
    clear hHeld2
    have HG := hide (Blk.new W0 51 #[.int .u64 0, .int .u64 0, .int .i64 0])
    have HBa := hide (below1 W0 (.cells #[.int .u64 0, .int .u64 0, .int .i64 0] 51))
    generalize World.alloc W0 (.cells #[.int .u64 0, .int .u64 0, .int .i64 0] 51) = Wa at *
    obtain ⟨gs, hgs⟩ : ∃ gs, W0.heap.size = gs := ⟨_, rfl⟩
    have Hgs := hide hgs
    rw [hgs] at HG
    rw [hgs]
    clear hgs
    have x0 := HG.out.cell 0
    have x1 := HG.out.cell 1
    have x2 := HG.out.cell 2
    have f0 := HG.out.frozen 0
    have f1 := HG.out.frozen 1
    have f2 := HG.out.frozen 2
    simp at x0 x1 x2
    refine readyO [4] (by as_aux_lemma => kernel_rfl) (by simp) ?_
    refine callO 4 29 (.call { callee := .value (.func 84), args := #[.const (.slice Aq nq cq), .const (.slice V nv cv)], argTypes := #[25, 25] }) 26 84 #[.slice Aq nq cq, .slice V nv cv] (by as_aux_lemma => kernel_rfl) (by as_aux_lemma => kernel_rfl) (by unfold cEv opC; go_simp) ?_ AllReadyH.nil
    refine (HDx.out _ hHeld.wide.2 hHeld.wide.1).mono ?_
    rintro e _ ⟨rfl, rfl⟩
    refine ⟨_, rfl, hHeld, fun hHeld2 => ?_⟩
    clear hHeld
    have hHeld := hHeld2
    clear hHeld2
    refine takeO 7 32 (.build 49 #[(0, .const (.int .u64 d)), (1, .const (.int .u64 id))]) 49 (.agg #[.int .u64 d, .int .u64 id]) (by as_aux_lemma => kernel_rfl) (by as_aux_lemma => kernel_rfl) (by as_aux_lemma => kernel_rfl) (fun _ _ _ _ _ h => h) (fun W hS => by clear hS hHeld; unfold cEv opC; as_aux_lemma => first | (go_simp; done) | (go_simp <;> rfl)) hHeld ?_
    refine takeO 9 34 (.build 51 #[(0, .const (.agg #[.int .u64 d, .int .u64 id])), (1, .const (.int .i64 s))]) 51 (.agg #[.int .u64 d, .int .u64 id, .int .i64 s]) (by as_aux_lemma => kernel_rfl) (by as_aux_lemma => kernel_rfl) (by as_aux_lemma => kernel_rfl) (fun _ _ _ _ _ h => h) (fun W hS => by clear hS hHeld; unfold cEv opC; as_aux_lemma => first | (go_simp; done) | (go_simp <;> rfl)) hHeld ?_
    refine readyO [11] (by as_aux_lemma => kernel_rfl) (by simp) ?_
    have hst := spot_stored HG.out rfl HBa.out (by rw [Hgs.out]; exact Nat.le_refl _) ((d, id), s)
    simp only at hst
    clear HDx
    refine storeO 11 (.store 51 (.const (.pointer (some ⟨gs, 0, none⟩))) (.const (.agg #[.int .u64 d, .int .u64 id, .int .i64 s]))) 0 (((Wa.setCell ⟨gs, 0, none⟩ (.int .u64 d)).setCell ⟨gs, 1, none⟩ (.int .u64 id)).setCell ⟨gs, 2, none⟩ (.int .i64 s)) (by as_aux_lemma => kernel_rfl) (by as_aux_lemma => kernel_rfl) (by unfold cEv opC; go_simp) (H0.out.step hst.2) (fun hHeld2 => ?_) AllReadyH.nil
    clear hHeld
    have hHeld := hHeld2
    clear hHeld2
    refine doneO [(10, .pointer (some ⟨gs, 0, none⟩)), (14, .pointer (some ⟨gp, 0, none⟩)), (0, .slice Aq nq cq), (0, .pointer (some ⟨gi, 1, none⟩)), (0, .slice V nv cv), (0, .int .u64 d), (0, .pointer (some ⟨gi, 0, none⟩)), (0, .int .u64 id), (0, .agg #[.int .u64 d, .int .u64 id]), (0, .int .i64 s), (0, .agg #[.int .u64 d, .int .u64 id, .int .i64 s])] (by as_aux_lemma => kernel_rfl) (by as_aux_lemma => kernel_rfl) ?_
    simp only [fillG]
    clear x0 x1 x2 f0 f1 f2 hHeld
    have H4 := hide (H0.out.boxed hst.2 hst.1 (by rw [Hgs.out]; exact Nat.le_refl _))
    clear hst HG HBa H0
    generalize ((Wa.setCell ⟨gs, 0, none⟩ (.int .u64 d)).setCell ⟨gs, 1, none⟩ (.int .u64 id)).setCell ⟨gs, 2, none⟩ (.int .i64 s) = W4 at *
    go_upto_region 8 with fail
    have c0 := H4.out.p.cell 0; have c1 := H4.out.p.cell 1; have c2 := H4.out.p.cell 2; have c3 := H4.out.p.cell 3; have c4 := H4.out.p.cell 4; have c5 := H4.out.p.cell 5; simp at c0 c1 c2 c3 c4 c5
    have g3 := H4.out.p.frozen 3
    have c3a := (H4.out.p.alloc (.cells #[] 3)).cell 3
    simp at c3a
    have ho := hide (World.ownsRow_lit (base := W4.heap.size) (e := 3) (size := 1) W4 #[] 0 (Nat.le_refl _) (by simp [maxLen]) rfl)
    go_upto_region 9 with (first
      | (at_builtin; refine wpList_append_ints rfl (.tmp 35) (.tmp 37) 27 rfl W4.heap.size Tryz.underlying27 info_intP rfl _ 0 [] rfl ho.out W4.heap.size Ak nk ck kn rfl ((H4.out.kn.rd fun b hb => H4.out.low hb).alloc (Nat.le_refl _) _) HL.out.2.1 (by simp only [maxLen]; omega) (by omega) (by simp) ?_; intro v7 w7 hown7 hgr7 hat7; rw [Nat.zero_add, List.nil_append] at hown7; have HB7 := hide (below_own ((Below.refl W4.heap.size W4).alloc (Nat.le_refl _) _) ho.out (by simp) hgr7); have HO7 := hide hown7; clear hown7 hgr7 hat7 ho)
      | (at_builtin; refine wpList_append_elem rfl (.tmp 38) (.tmp 40) 27 rfl W4.heap.size Tryz.underlying27 info_intP rfl (by decide) v7 nk _ rfl HO7.out _ _ rfl rfl (by simp [Value.oneCell']) (by simp only [maxLen]; omega) (by omega) HB7.out.size ?_; intro v8 w8 hown8 hgr8 hat8; have HB8 := hide (below_own HB7.out HO7.out HB7.out.size hgr8); obtain ⟨A8, c8, rfl, u1, u2⟩ := own_form hown8; have HO8 := hide (H4.out.made (intR_own (xs := kn ++ [s]) (by simpa using hown8))); clear hown8 hgr8 hat8 HO7; have H8 := hide (H4.out.step HB8.out); clear c0 c1 c2 c3 c4 c5 c3a g3; have c3 := H8.out.p.cell 3; have g3 := H8.out.p.frozen 3; simp at c3))
    have H9 := hide (show RfP w R gp gr #[.slice Aq nq cq, .int .u64 mask, .int .i64 ef, .slice A8 (nk + 1) c8, .slice Aw nw cw, .slice Ab nb cb] #[.slice none 0 0, .int .u64 0, .int .i64 0, .slice none 0 0, .slice none 0 0, .slice none 0 0] [(gs, 51, #[.int .u64 d, .int .u64 id, .int .i64 s]), (gi, 40, #[.int .u64 id, .slice V nv cv, .int .u64 tags])] Aq qs V vs A8 (kn ++ [s]) Aw wt Ab bs (w8.setCell ⟨gp, 3, none⟩ (.slice A8 (nk + 1) c8)) from by have := (H8.out.kn_ HO8.out).set_ 3 (.slice A8 (nk + 1) c8); simpa using this)
    clear c3 g3 H8 HO8 H4 HB7 HB8
    generalize World.setCell w8 _ _ = w9 at *
    have c0 := H9.out.p.cell 0; have c1 := H9.out.p.cell 1; have c2 := H9.out.p.cell 2; have c3 := H9.out.p.cell 3; have c4 := H9.out.p.cell 4; have c5 := H9.out.p.cell 5; simp at c0 c1 c2 c3 c4 c5
    have hb := H9.out.blk (List.mem_cons_self ..)
    have y0 := hb.cell 0
    have y1 := hb.cell 1
    have y2 := hb.cell 2
    simp at y0 y1 y2
    clear hb
    go_upto_region 10 with (go_at_call 85; refine (refPush_any Aw nw cw wt ((d, id), s) _ (H9.out.wt.rd fun b hb => H9.out.low hb) HL.out.2.2.1 hcw hcw2 (by omega)).mono ?_; rintro e w10 ⟨v10, rfl, ho10, hb10⟩; obtain ⟨A9, c9, rfl, u3, u4⟩ := own_form ho10; have HO9 := hide (H9.out.made (flatS.own ho10)); have H10 := hide (H9.out.step hb10); clear ho10 hb10 c0 c1 c2 c3 c4 c5 y0 y1 y2; have c4 := H10.out.p.cell 4; have g4 := H10.out.p.frozen 4; simp at c4)
    have H11 := hide (show RfP w R gp gr #[.slice Aq nq cq, .int .u64 mask, .int .i64 ef, .slice A8 (nk + 1) c8, .slice A9 (nw + 1) c9, .slice Ab nb cb] #[.slice none 0 0, .int .u64 0, .int .i64 0, .slice none 0 0, .slice none 0 0, .slice none 0 0] [(gs, 51, #[.int .u64 d, .int .u64 id, .int .i64 s]), (gi, 40, #[.int .u64 id, .slice V nv cv, .int .u64 tags])] Aq qs V vs A8 (kn ++ [s]) A9 (srtS (wt ++ [((d, id), s)])) Ab bs (w10.setCell ⟨gp, 4, none⟩ (.slice A9 (nw + 1) c9)) from by have := (H10.out.wt_ HO9.out).set_ 4 (.slice A9 (nw + 1) c9); simpa using this)
    clear c4 g4 H10 HO9 H9
    generalize World.setCell w10 _ _ = w11 at *
    have c0 := H11.out.p.cell 0; have c1 := H11.out.p.cell 1; have c2 := H11.out.p.cell 2; have c3 := H11.out.p.cell 3; have c4 := H11.out.p.cell 4; have c5 := H11.out.p.cell 5; simp at c0 c1 c2 c3 c4 c5
    have hb := H11.out.blk (List.mem_cons_self ..)
    have y0 := hb.cell 0
    have y1 := hb.cell 1
    have y2 := hb.cell 2
    have hb2 := H11.out.blk (List.mem_cons_of_mem _ (List.mem_cons_self ..))
    have z2 := hb2.cell 2
    simp at y0 y1 y2 z2
    clear hb hb2
    have hM := HM.out
    rcases hh : hasB mask tags with _ | _
    · rw [hh] at hM
      go_upto_region 13 with fail
      clear hM z2 y0 y1 y2
      have r0 := H11.out.r.cell 0; have r1 := H11.out.r.cell 1; have r2 := H11.out.r.cell 2; have r3 := H11.out.r.cell 3; have r4 := H11.out.r.cell 4; have r5 := H11.out.r.cell 5; have f0 := H11.out.r.frozen 0; have f1 := H11.out.r.frozen 1; have f2 := H11.out.r.frozen 2; have f3 := H11.out.r.frozen 3; have f4 := H11.out.r.frozen 4; have f5 := H11.out.r.frozen 5; simp at r0 r1 r2 r3 r4 r5
      go_wp2
      have HZ := hide (H11.out.res rfl)
      have q0 := HZ.out.r.cell 0
      have q1 := HZ.out.r.cell 1
      have q2 := HZ.out.r.cell 2
      have q3 := HZ.out.r.cell 3
      have q4 := HZ.out.r.cell 4
      have q5 := HZ.out.r.cell 5
      simp at q0 q1 q2 q3 q4 q5
      refine bodyPost_ret (v := .tuple #[.agg #[.slice Aq nq cq, .int .u64 mask, .int .i64 ef, .slice A8 (nk + 1) c8, .slice A9 (nw + 1) c9, .slice Ab nb cb], .bool true]) (by simp [results, Tryz.results61, go_sem, q0, q1, q2, q3, q4, q5]) rfl ?_
      refine ⟨HZ.out.bel, .inr ⟨HF.out, A8, c8, A9, c9, Ab, nb, cb, rfl, u1, u2, u3, u4, hcb, hcb2, ?_⟩⟩
      rw [hh]
      exact ⟨HL.out.2.2.2.1, HZ.out.out HZ.out.kn, HZ.out.out HZ.out.wt, HZ.out.out HZ.out.bs⟩
    · rw [hh] at hM
      go_upto_region 12 with (go_at_call 86; refine (refOffer_any (R := FrP R w gp gr w11) Ab nb cb bs ef ((d, id), s) H11.out.bs (fun b hb => H11.out.low hb) HL.out.2.2.2.1 hcb hcb2 (by omega)).mono ?_; rintro e w12 ⟨A10, n10, c10, rfl, o1, o2, o3, o4, o5⟩; have HO := hide (And.intro o1 (H11.out.growR o5.size o4)); have H12 := hide (H11.out.step o5); clear o1 o4 o5 c0 c1 c2 c3 c4 c5 y0 y1 y2 z2; have c5 := H12.out.p.cell 5; have g5 := H12.out.p.frozen 5; simp at c5)
      clear hM
      go_upto_region 13 with fail
      have H13 := hide (show RfP w R gp gr #[.slice Aq nq cq, .int .u64 mask, .int .i64 ef, .slice A8 (nk + 1) c8, .slice A9 (nw + 1) c9, .slice A10 n10 c10] #[.slice none 0 0, .int .u64 0, .int .i64 0, .slice none 0 0, .slice none 0 0, .slice none 0 0] [(gs, 51, #[.int .u64 d, .int .u64 id, .int .i64 s]), (gi, 40, #[.int .u64 id, .slice V nv cv, .int .u64 tags])] Aq qs V vs A8 (kn ++ [s]) A9 (srtS (wt ++ [((d, id), s)])) A10 (offR (mostB ef) bs ((d, id), s)).1 (w12.setCell ⟨gp, 5, none⟩ (.slice A10 n10 c10)) from by have := (H12.out.bs_ HO.out.2).set_ 5 (.slice A10 n10 c10); simpa using this)
      clear c5 g5 H12 H11
      generalize World.setCell w12 _ _ = w13 at *
      have c0 := H13.out.p.cell 0; have c1 := H13.out.p.cell 1; have c2 := H13.out.p.cell 2; have c3 := H13.out.p.cell 3; have c4 := H13.out.p.cell 4; have c5 := H13.out.p.cell 5; simp at c0 c1 c2 c3 c4 c5
      have r0 := H13.out.r.cell 0; have r1 := H13.out.r.cell 1; have r2 := H13.out.r.cell 2; have r3 := H13.out.r.cell 3; have r4 := H13.out.r.cell 4; have r5 := H13.out.r.cell 5; have f0 := H13.out.r.frozen 0; have f1 := H13.out.r.frozen 1; have f2 := H13.out.r.frozen 2; have f3 := H13.out.r.frozen 3; have f4 := H13.out.r.frozen 4; have f5 := H13.out.r.frozen 5; simp at r0 r1 r2 r3 r4 r5
      go_wp2
      have HZ := hide (H13.out.res rfl)
      have q0 := HZ.out.r.cell 0
      have q1 := HZ.out.r.cell 1
      have q2 := HZ.out.r.cell 2
      have q3 := HZ.out.r.cell 3
      have q4 := HZ.out.r.cell 4
      have q5 := HZ.out.r.cell 5
      simp at q0 q1 q2 q3 q4 q5
      refine bodyPost_ret (v := .tuple #[.agg #[.slice Aq nq cq, .int .u64 mask, .int .i64 ef, .slice A8 (nk + 1) c8, .slice A9 (nw + 1) c9, .slice A10 n10 c10], .bool true]) (by simp [results, Tryz.results61, go_sem, q0, q1, q2, q3, q4, q5]) rfl ?_
      refine ⟨HZ.out.bel, .inr ⟨HF.out, A8, c8, A9, c9, A10, n10, c10, rfl, u1, u2, u3, u4, o2, o3, ?_⟩⟩
      rw [hh]
      exact ⟨HO.out.1, HZ.out.out HZ.out.kn, HZ.out.out HZ.out.wt, HZ.out.out HZ.out.bs⟩
end Go.Proofs.YtphbdffgeeicaabGreat

/-
  The document's Want of a probe. Conditions: the slices read as lists.
-/
namespace Go.Proofs.YtphbdffgeeicaabGreat
set_option linter.unusedSimpArgs false
set_option linter.unusedVariables false
open Go.RowKit

/-- what the document's Want answers -/
def RWantP (w : World) (R : Nat → Prop) (Aq : Option Addr) (nq cq : Nat) (mask ef : Int) (Ak : Option Addr) (nk ck : Nat) (Aw : Option Addr) (nw cw : Nat) (wt : List Spt) (Ab : Option Addr) (nb cb : Nat) (bs : List Spt) (e : Ending) (w' : World) : Prop :=
  Below w.heap.size w w' ∧ ((doneR (mostB ef) wt bs = true ∧ e = .returned (.tuple #[aggP Aq nq cq mask ef Ak nk ck Aw nw cw Ab nb cb, .int .i64 0, .bool false])) ∨
  (doneR (mostB ef) wt bs = false ∧ ∃ A' c', e = .returned (.tuple #[aggP Aq nq cq mask ef Ak nk ck A' (nw - 1) c' Ab nb cb, .int .i64 (fstS wt).2, .bool true]) ∧ nw - 1 ≤ c' ∧ c' ≤ 9223372036854775807 ∧ RdR SP w' (Grow R w w') A' (wt.drop 1)))
theorem mostB_le_P (n : Int) : mostB n ≤ 4096 := by unfold mostB; omega
theorem RdR.scellP {w : World} {R : Nat → Prop} {ad : Addr} {l : List Spt} (h : RdR SP w R (some ad) l) {k : Nat} {s : Spt} (hx : l[k]? = some s) : w.cell? (ad.add (k * 3)) = some (.int .u64 s.1.1) ∧ w.cell? ⟨(ad.add (k * 3)).block, (ad.add (k * 3)).off + 1, none⟩ = some (.int .u64 s.1.2) ∧ w.cell? ⟨(ad.add (k * 3)).block, (ad.add (k * 3)).off + 2, none⟩ = some (.int .i64 s.2) := by
  obtain ⟨ad', x, e, _, hv, h1, h2, h3⟩ := h.scell (k := k) (List.getElem?_eq_some_iff.1 hx).1
  injection e with e
  subst e
  rw [hx] at hv
  injection hv with hv
  subst hv
  exact ⟨h1, h2, h3⟩
theorem RdR.some_ofP {w : World} {R : Nat → Prop} {A : Option Addr} {l : List Spt} (h : RdR SP w R A l) (hl : 0 < l.length) : ∃ ad, A = some ad := by
  obtain ⟨ad, e, _⟩ := h (by rintro rfl; simp at hl)
  exact ⟨ad, e⟩
theorem rd_add3 {α : Type} {S : Sh α} {w : World} {R : Nat → Prop} {ad : Addr} {l : List α} (h : RdR S w R (some (ad.add 3)) l) : RdR S w R (some ⟨ad.block, ad.off + 3, none⟩) l := by
  have e : ad.add (2 + 1) = ⟨ad.block, ad.off + (2 + 1), none⟩ := by rw [add_succ']
  rw [show (⟨ad.block, ad.off + 3, none⟩ : Addr) = ad.add 3 from e.symm]
  exact h
theorem fstS_at {l : List Spt} (h : 0 < l.length) : l[0]? = some (fstS l) := by unfold fstS; rw [List.getElem?_eq_getElem h]; rfl
theorem lstS_at {l : List Spt} {j : Nat} (h : l.length = j + 1) : l[j]? = some (lstS l) := by
  unfold lstS
  rw [show l.length - 1 = j by omega, List.getElem?_eq_getElem (by omega)]; rfl
set_option maxHeartbeats 8000000 in
set_option maxRecDepth 100000 in
theorem refWantP_any {w : World} {R : Nat → Prop} (hR : ∀ d, R d → d < w.heap.size) (Aq : Option Addr) (nq cq : Nat) (mask ef : Int) (Ak : Option Addr) (nk ck : Nat) (Aw : Option Addr) (nw cw : Nat) (wt : List Spt) (Ab : Option Addr) (nb cb : Nat) (bs : List Spt)
    (hw : RdR SP w R Aw wt) (hnw : wt.length = nw) (hcw : nw ≤ cw) (hcw2 : cw ≤ 9223372036854775807)
    (hb : RdR SP w R Ab bs) (hnb : bs.length = nb) (hcb : nb ≤ cb) (hcb2 : cb ≤ 9223372036854775807) :
    Calls Tryz.prog 39 #[aggP Aq nq cq mask ef Ak nk ck Aw nw cw Ab nb cb] w (RWantP w R Aq nq cq mask ef Ak nk ck Aw nw cw wt Ab nb cb bs) := by
  have HL := hide (And.intro hnw hnb)
  have H := hide (show RfP w R w.heap.size (w.heap.size + 1) #[.slice Aq nq cq, .int .u64 mask, .int .i64 ef, .slice Ak nk ck, .slice Aw nw cw, .slice Ab nb cb] #[.slice none 0 0, .int .u64 0, .int .i64 0, .slice none 0 0, .slice none 0 0, .slice none 0 0] [] none [] none [] none [] Aw wt Ab bs ((w.alloc (.cells #[.slice Aq nq cq, .int .u64 mask, .int .i64 ef, .slice Ak nk ck, .slice Aw nw cw, .slice Ab nb cb] 61)).alloc (.cells #[.slice none 0 0, .int .u64 0, .int .i64 0, .slice none 0 0, .slice none 0 0, .slice none 0 0] 61)) from
    RfP.start (((Below.refl _ _).alloc (Nat.le_refl _) _).alloc (by simp) _) hR ((Blk.new w 61 #[.slice Aq nq cq, .int .u64 mask, .int .i64 ef, .slice Ak nk ck, .slice Aw nw cw, .slice Ab nb cb]).alloc _) (by have := Blk.new (w.alloc (.cells #[.slice Aq nq cq, .int .u64 mask, .int .i64 ef, .slice Ak nk ck, .slice Aw nw cw, .slice Ab nb cb] 61)) 61 #[.slice none 0 0, .int .u64 0, .int .i64 0, .slice none 0 0, .slice none 0 0, .slice none 0 0]; simpa using this) (Nat.le_refl _) (by omega) (by omega) ⟨RdR.nil, RdR.nil, hw, hb, RdR.nil⟩ (fun q hq => by simp at hq))
  have HMo := hide (fun W => refMost_any ef W)
  have hmo := mostB_le_P ef
  obtain ⟨K, hK⟩ : ∃ K, mostB ef = K := ⟨_, rfl⟩
  rw [hK] at HMo hmo
  have HK := hide hK
  clear hK hw hb hR hnw hnb
  unfold aggP
  go_enter Tryz.func39, Tryz.ntmps39
  go_upto_region 1 with fail
  generalize World.alloc (World.alloc w _) _ = W1 at *
  generalize w.heap.size + 1 = gr at *
  obtain ⟨gp, hgp⟩ : ∃ gp, w.heap.size = gp := ⟨_, rfl⟩
  have HA : Hid (RfP w R gp gr #[.slice Aq nq cq, .int .u64 mask, .int .i64 ef, .slice Ak nk ck, .slice Aw nw cw, .slice Ab nb cb] #[.slice none 0 0, .int .u64 0, .int .i64 0, .slice none 0 0, .slice none 0 0, .slice none 0 0] [] none [] none [] none [] Aw wt Ab bs W1) := by rw [← hgp]; exact H
  rw [hgp]
  clear H hgp
  have c2 := HA.out.p.cell 2
  simp at c2
  go_upto_region 2 with (go_at_call 63; refine (HMo.out _).mono ?_; rintro e _ ⟨rfl, rfl⟩)
  clear c2 HMo
  by_cases h0 : nw = 0
  · subst h0
    have HD := hide (show doneR K wt bs = true by unfold doneR; rw [HL.out.1]; rfl)
    refine startO (S := (RfP w R gp gr #[.slice Aq nq cq, .int .u64 mask, .int .i64 ef, .slice Ak nk ck, .slice Aw 0 cw, .slice Ab nb cb] #[.slice none 0 0, .int .u64 0, .int .i64 0, .slice none 0 0, .slice none 0 0, .slice none 0 0] [] none [] none [] none [] Aw wt Ab bs)) 28 (by as_aux_lemma => kernel_rfl) (by as_aux_lemma => kernel_rfl) (HA.out.step (Below.refl _ _).drew) (fun hHeld => ?_)
    clear HA
    generalize World.drew _ = Wd at *
    refine takeO 0 10 (.fieldAddr 61 (.const (.pointer (some ⟨gp, 0, none⟩))) 4) 0 (.pointer (some ⟨gp, 4, none⟩)) (by as_aux_lemma => kernel_rfl) (by as_aux_lemma => kernel_rfl) (by as_aux_lemma => kernel_rfl) (fun _ _ _ _ _ h => h) (fun W hS => by clear hS hHeld; unfold cEv opC; as_aux_lemma => first | (go_simp; done) | (go_simp <;> rfl)) hHeld ?_
    refine takeO 1 11 (.load 31 (.const (.pointer (some ⟨gp, 4, none⟩)))) 31 (.slice Aw 0 cw) (by as_aux_lemma => kernel_rfl) (by as_aux_lemma => kernel_rfl) (by as_aux_lemma => kernel_rfl) (fun _ _ _ _ _ h => h) (fun W hS => by have z4 := hS.p.cell 4; have z5 := hS.p.cell 5; simp at z4 z5; clear hS hHeld; unfold cEv opC; as_aux_lemma => first | (go_simp; done) | (go_simp <;> rfl)) hHeld ?_
    refine takeO 2 12 (.call { callee := .builtin .len, args := #[.const (.slice Aw 0 cw)], argTypes := #[31] }) 3 (.int .i64 0) (by as_aux_lemma => kernel_rfl) (by as_aux_lemma => kernel_rfl) (by as_aux_lemma => kernel_rfl) (fun _ _ _ _ _ h => h) (fun W hS => by clear hS hHeld; unfold cEv opC; as_aux_lemma => first | (go_simp; done) | (go_simp <;> rfl)) hHeld ?_
    refine takeO 3 13 (.binOp .eql 3 (.const (.int .i64 0)) (.const (.int .i64 0)) 3) 4 (.bool true) (by as_aux_lemma => kernel_rfl) (by as_aux_lemma => kernel_rfl) (by as_aux_lemma => kernel_rfl) (fun _ _ _ _ _ h => h) (fun W hS => by clear hS hHeld; unfold cEv opC; as_aux_lemma => first | (go_simp; done) | (go_simp <;> rfl)) hHeld ?_
    refine putsO [4, 5, 6, 7, 8, 9, 12, 10, 11, 13, 14, 15, 17, 21, 16, 18, 22, 19, 23, 20, 24, 25, 26, 27] [27, 26, 25, 24, 20, 23, 19, 22, 18, 16, 21, 17, 15, 14, 13, 11, 10, 12, 9, 8, 7, 6, 5, 4] [(37, .bool true), (36, undef), (35, undef), (34, undef), (30, undef), (33, undef), (29, undef), (32, undef), (28, undef), (26, undef), (31, undef), (27, undef), (25, undef), (24, undef), (23, undef), (21, undef), (20, undef), (22, undef), (19, undef), (18, .bool true), (17, .bool true), (16, undef), (15, undef), (14, .bool true)] 24 rfl [14, 15, 16, 17, 18, 19, 22, 20, 21, 23, 24, 25, 27, 31, 26, 28, 32, 29, 33, 30, 34, 35, 36, 37] (by as_aux_lemma => kernel_rfl) (by as_aux_lemma => kernel_rfl) rfl (fun _ _ _ _ _ h => h) hHeld ?_
    refine doneO [(10, .pointer (some ⟨gp, 4, none⟩)), (0, .slice Aw 0 cw), (0, .int .i64 0), (0, .bool true), (0, .bool true), (0, undef), (0, undef), (0, .bool true), (0, .bool true), (0, undef), (0, undef), (0, undef), (0, undef), (0, undef), (0, undef), (0, undef), (0, undef), (0, undef), (0, undef), (0, undef), (0, undef), (0, undef), (0, undef), (0, undef), (0, undef), (0, undef), (0, undef), (0, .bool true)] (by as_aux_lemma => kernel_rfl) (by as_aux_lemma => kernel_rfl) ?_
    simp only [fillG]
    have HD2 := hide hHeld
    clear hHeld
    have c0 := HD2.out.p.cell 0; have c1 := HD2.out.p.cell 1; have c2 := HD2.out.p.cell 2; have c3 := HD2.out.p.cell 3; have c4 := HD2.out.p.cell 4; have c5 := HD2.out.p.cell 5; simp at c0 c1 c2 c3 c4 c5
    have r0 := HD2.out.r.cell 0; have r1 := HD2.out.r.cell 1; have r2 := HD2.out.r.cell 2; have r3 := HD2.out.r.cell 3; have r4 := HD2.out.r.cell 4; have r5 := HD2.out.r.cell 5; have f0 := HD2.out.r.frozen 0; have f1 := HD2.out.r.frozen 1; have f2 := HD2.out.r.frozen 2; have f3 := HD2.out.r.frozen 3; have f4 := HD2.out.r.frozen 4; have f5 := HD2.out.r.frozen 5; simp at r0 r1 r2 r3 r4 r5
    go_wp2
    have HZ := hide (HD2.out.res rfl)
    have q0 := HZ.out.r.cell 0
    have q1 := HZ.out.r.cell 1
    have q2 := HZ.out.r.cell 2
    have q3 := HZ.out.r.cell 3
    have q4 := HZ.out.r.cell 4
    have q5 := HZ.out.r.cell 5
    simp at q0 q1 q2 q3 q4 q5
    refine bodyPost_ret (v := .tuple #[.agg #[.slice Aq nq cq, .int .u64 mask, .int .i64 ef, .slice Ak nk ck, .slice Aw 0 cw, .slice Ab nb cb], .int .i64 0, .bool false]) (by simp [results, Tryz.results39, go_sem, q0, q1, q2, q3, q4, q5]) rfl ?_
    exact ⟨HZ.out.bel, .inl ⟨by rw [HK.out]; exact HD.out, rfl⟩⟩
  obtain ⟨adw, rfl⟩ := HA.out.wt.some_ofP (by have := HL.out.1; omega)
  have e_wa : (((nw : Nat) : Int) == 0) = false := by rw [beq_eq_false_iff_ne]; omega
  have e_wb : decide (((nw : Nat) : Int) = 0) = false := by simp; omega
  have e_wc : decide (nw = 0) = false := by simp; omega
  have e_wd : (nw == 0) = false := by simp; omega
  obtain ⟨⟨⟨a0, a1⟩, a2⟩, hf⟩ : ∃ x, fstS wt = x := ⟨_, rfl⟩
  have HF := hide (show wt[0]? = some ((a0, a1), a2) by rw [← hf]; exact fstS_at (by have := HL.out.1; omega))
  have HFs := hide hf
  have i0 : (0 : Int) < nw := by omega
  have i1 : (1 : Int) ≤ nw := by omega
  have i2 : 0 < nw := by omega
  have i3 : 1 ≤ nw := by omega
  have h0f : decide (wt.length = 0) = false := decide_eq_false (by have := HL.out.1; omega)
  by_cases h1 : K = 0
  · subst h1
    have HD := hide (show doneR 0 wt bs = true by unfold doneR; rw [h0f]; rfl)
    clear hf
    refine startO (S := (RfP w R gp gr #[.slice Aq nq cq, .int .u64 mask, .int .i64 ef, .slice Ak nk ck, .slice (some adw) nw cw, .slice Ab nb cb] #[.slice none 0 0, .int .u64 0, .int .i64 0, .slice none 0 0, .slice none 0 0, .slice none 0 0] [] none [] none [] none [] (some adw) wt Ab bs)) 28 (by as_aux_lemma => kernel_rfl) (by as_aux_lemma => kernel_rfl) (HA.out.step (Below.refl _ _).drew) (fun hHeld => ?_)
    clear HA
    generalize World.drew _ = Wd at *
    refine takeO 0 10 (.fieldAddr 61 (.const (.pointer (some ⟨gp, 0, none⟩))) 4) 0 (.pointer (some ⟨gp, 4, none⟩)) (by as_aux_lemma => kernel_rfl) (by as_aux_lemma => kernel_rfl) (by as_aux_lemma => kernel_rfl) (fun _ _ _ _ _ h => h) (fun W hS => by clear hS hHeld; unfold cEv opC; as_aux_lemma => first | (go_simp; done) | (go_simp <;> rfl)) hHeld ?_
    refine takeO 1 11 (.load 31 (.const (.pointer (some ⟨gp, 4, none⟩)))) 31 (.slice (some adw) nw cw) (by as_aux_lemma => kernel_rfl) (by as_aux_lemma => kernel_rfl) (by as_aux_lemma => kernel_rfl) (fun _ _ _ _ _ h => h) (fun W hS => by have z4 := hS.p.cell 4; have z5 := hS.p.cell 5; simp at z4 z5; clear hS hHeld; unfold cEv opC; as_aux_lemma => first | (go_simp; done) | (go_simp <;> rfl)) hHeld ?_
    refine takeO 2 12 (.call { callee := .builtin .len, args := #[.const (.slice (some adw) nw cw)], argTypes := #[31] }) 3 (.int .i64 nw) (by as_aux_lemma => kernel_rfl) (by as_aux_lemma => kernel_rfl) (by as_aux_lemma => kernel_rfl) (fun _ _ _ _ _ h => h) (fun W hS => by clear hS hHeld; unfold cEv opC; as_aux_lemma => first | (go_simp; done) | (go_simp <;> rfl)) hHeld ?_
    refine takeO 3 13 (.binOp .eql 3 (.const (.int .i64 nw)) (.const (.int .i64 0)) 3) 4 (.bool false) (by as_aux_lemma => kernel_rfl) (by as_aux_lemma => kernel_rfl) (by as_aux_lemma => kernel_rfl) (fun _ _ _ _ _ h => h) (fun W hS => by clear hS hHeld; unfold cEv opC; as_aux_lemma => first | (go_simp; done) | (go_simp <;> rfl)) hHeld ?_
    refine putsO [4, 5] [5, 4] [(15, .int .i64 0), (14, .bool false)] 2 rfl [14, 15] (by as_aux_lemma => kernel_rfl) (by as_aux_lemma => kernel_rfl) rfl (fun _ _ _ _ _ h => h) hHeld ?_
    refine takeO 6 16 (.binOp .eql 3 (.const (.int .i64 0)) (.const (.int .i64 0)) 3) 4 (.bool true) (by as_aux_lemma => kernel_rfl) (by as_aux_lemma => kernel_rfl) (by as_aux_lemma => kernel_rfl) (fun _ _ _ _ _ h => h) (fun W hS => by clear hS hHeld; unfold cEv opC; as_aux_lemma => first | (go_simp; done) | (go_simp <;> rfl)) hHeld ?_
    refine putsO [7, 8, 9, 12, 10, 11, 13, 14, 15, 17, 21, 16, 18, 22, 19, 23, 20, 24, 25, 26, 27] [27, 26, 25, 24, 20, 23, 19, 22, 18, 16, 21, 17, 15, 14, 13, 11, 10, 12, 9, 8, 7] [(37, .bool true), (36, undef), (35, undef), (34, undef), (30, undef), (33, undef), (29, undef), (32, undef), (28, undef), (26, undef), (31, undef), (27, undef), (25, undef), (24, undef), (23, undef), (21, undef), (20, undef), (22, undef), (19, undef), (18, .bool true), (17, .bool true)] 21 rfl [17, 18, 19, 22, 20, 21, 23, 24, 25, 27, 31, 26, 28, 32, 29, 33, 30, 34, 35, 36, 37] (by as_aux_lemma => kernel_rfl) (by as_aux_lemma => kernel_rfl) rfl (fun _ _ _ _ _ h => h) hHeld ?_
    refine doneO [(10, .pointer (some ⟨gp, 4, none⟩)), (0, .slice (some adw) nw cw), (0, .int .i64 nw), (0, .bool false), (0, .bool false), (0, .int .i64 0), (0, .bool true), (0, .bool true), (0, .bool true), (0, undef), (0, undef), (0, undef), (0, undef), (0, undef), (0, undef), (0, undef), (0, undef), (0, undef), (0, undef), (0, undef), (0, undef), (0, undef), (0, undef), (0, undef), (0, undef), (0, undef), (0, undef), (0, .bool true)] (by as_aux_lemma => kernel_rfl) (by as_aux_lemma => kernel_rfl) ?_
    simp only [fillG]
    have HD2 := hide hHeld
    clear hHeld
    have c0 := HD2.out.p.cell 0; have c1 := HD2.out.p.cell 1; have c2 := HD2.out.p.cell 2; have c3 := HD2.out.p.cell 3; have c4 := HD2.out.p.cell 4; have c5 := HD2.out.p.cell 5; simp at c0 c1 c2 c3 c4 c5
    have r0 := HD2.out.r.cell 0; have r1 := HD2.out.r.cell 1; have r2 := HD2.out.r.cell 2; have r3 := HD2.out.r.cell 3; have r4 := HD2.out.r.cell 4; have r5 := HD2.out.r.cell 5; have f0 := HD2.out.r.frozen 0; have f1 := HD2.out.r.frozen 1; have f2 := HD2.out.r.frozen 2; have f3 := HD2.out.r.frozen 3; have f4 := HD2.out.r.frozen 4; have f5 := HD2.out.r.frozen 5; simp at r0 r1 r2 r3 r4 r5
    go_wp2
    have HZ := hide (HD2.out.res rfl)
    have q0 := HZ.out.r.cell 0
    have q1 := HZ.out.r.cell 1
    have q2 := HZ.out.r.cell 2
    have q3 := HZ.out.r.cell 3
    have q4 := HZ.out.r.cell 4
    have q5 := HZ.out.r.cell 5
    simp at q0 q1 q2 q3 q4 q5
    refine bodyPost_ret (v := .tuple #[.agg #[.slice Aq nq cq, .int .u64 mask, .int .i64 ef, .slice Ak nk ck, .slice (some adw) nw cw, .slice Ab nb cb], .int .i64 0, .bool false]) (by simp [results, Tryz.results39, go_sem, q0, q1, q2, q3, q4, q5]) rfl ?_
    exact ⟨HZ.out.bel, .inl ⟨by rw [HK.out]; exact HD.out, rfl⟩⟩
  have e_ka : (((K : Nat) : Int) == 0) = false := by rw [beq_eq_false_iff_ne]; omega
  have e_kb : decide (((K : Nat) : Int) = 0) = false := by simp; omega
  have e_kc : decide (K = 0) = false := by simp; omega
  have e_kd : (K == 0) = false := by simp; omega
  have h1f : decide (K = 0) = false := decide_eq_false h1
  by_cases h2 : nb = K
  · subst h2
    obtain ⟨j, hj⟩ : ∃ j, nb = j + 1 := ⟨nb - 1, by omega⟩
    obtain ⟨adb, rfl⟩ := HA.out.bs.some_ofP (by have := HL.out.2; omega)
    have h2f : decide (bs.length = nb) = true := decide_eq_true HL.out.2
    have j0 : (0 : Int) ≤ j := by omega
    have j1 : (j : Int) < (nb : Int) := by omega
    have j2 : j < nb := by omega
    have hw1 : IntKind.i64.wrap (j : Int) = j := IntWalk.i64_in _ (by omega)
    have hw2 : IntKind.i64.wrap ((nb : Int) - 1) = j := by rw [IntWalk.i64_in _ (by omega)]; omega
    have hw3 : (nb : Int) - 1 = j := by omega
    obtain ⟨⟨⟨b0, b1⟩, b2⟩, hl⟩ : ∃ x, lstS bs = x := ⟨_, rfl⟩
    have HB := hide (show bs[j]? = some ((b0, b1), b2) by rw [← hl]; exact lstS_at (by rw [HL.out.2]; exact hj))
    have HSp := hide (fun W => refSpot_any ((b0, b1), b2) ((a0, a1), a2) W)
    have hd : doneR nb wt bs = sptLt ((b0, b1), b2) ((a0, a1), a2) := by unfold doneR; rw [h0f, h1f, h2f, hl, hf]; rfl
    clear hl hf h0f h1f h2f hj
    rcases ht : sptLt ((b0, b1), b2) ((a0, a1), a2) with _ | _
    · rw [ht] at HSp hd
      have HD := hide hd
      clear ht hd
      refine startO (S := (RfP w R gp gr #[.slice Aq nq cq, .int .u64 mask, .int .i64 ef, .slice Ak nk ck, .slice (some adw) nw cw, .slice (some adb) nb cb] #[.slice none 0 0, .int .u64 0, .int .i64 0, .slice none 0 0, .slice none 0 0, .slice none 0 0] [] none [] none [] none [] (some adw) wt (some adb) bs)) 28 (by as_aux_lemma => kernel_rfl) (by as_aux_lemma => kernel_rfl) (HA.out.step (Below.refl _ _).drew) (fun hHeld => ?_)
      clear HA
      generalize World.drew _ = Wd at *
      refine takeO 0 10 (.fieldAddr 61 (.const (.pointer (some ⟨gp, 0, none⟩))) 4) 0 (.pointer (some ⟨gp, 4, none⟩)) (by as_aux_lemma => kernel_rfl) (by as_aux_lemma => kernel_rfl) (by as_aux_lemma => kernel_rfl) (fun _ _ _ _ _ h => h) (fun W hS => by clear hS hHeld; unfold cEv opC; as_aux_lemma => first | (go_simp; done) | (go_simp <;> rfl)) hHeld ?_
      refine takeO 1 11 (.load 31 (.const (.pointer (some ⟨gp, 4, none⟩)))) 31 (.slice (some adw) nw cw) (by as_aux_lemma => kernel_rfl) (by as_aux_lemma => kernel_rfl) (by as_aux_lemma => kernel_rfl) (fun _ _ _ _ _ h => h) (fun W hS => by have z4 := hS.p.cell 4; have z5 := hS.p.cell 5; simp at z4 z5; clear hS hHeld; unfold cEv opC; as_aux_lemma => first | (go_simp; done) | (go_simp <;> rfl)) hHeld ?_
      refine takeO 2 12 (.call { callee := .builtin .len, args := #[.const (.slice (some adw) nw cw)], argTypes := #[31] }) 3 (.int .i64 nw) (by as_aux_lemma => kernel_rfl) (by as_aux_lemma => kernel_rfl) (by as_aux_lemma => kernel_rfl) (fun _ _ _ _ _ h => h) (fun W hS => by clear hS hHeld; unfold cEv opC; as_aux_lemma => first | (go_simp; done) | (go_simp <;> rfl)) hHeld ?_
      refine takeO 3 13 (.binOp .eql 3 (.const (.int .i64 nw)) (.const (.int .i64 0)) 3) 4 (.bool false) (by as_aux_lemma => kernel_rfl) (by as_aux_lemma => kernel_rfl) (by as_aux_lemma => kernel_rfl) (fun _ _ _ _ _ h => h) (fun W hS => by clear hS hHeld; unfold cEv opC; as_aux_lemma => first | (go_simp; done) | (go_simp <;> rfl)) hHeld ?_
      refine putsO [4, 5] [5, 4] [(15, .int .i64 nb), (14, .bool false)] 2 rfl [14, 15] (by as_aux_lemma => kernel_rfl) (by as_aux_lemma => kernel_rfl) rfl (fun _ _ _ _ _ h => h) hHeld ?_
      refine takeO 6 16 (.binOp .eql 3 (.const (.int .i64 nb)) (.const (.int .i64 0)) 3) 4 (.bool false) (by as_aux_lemma => kernel_rfl) (by as_aux_lemma => kernel_rfl) (by as_aux_lemma => kernel_rfl) (fun _ _ _ _ _ h => h) (fun W hS => by clear hS hHeld; unfold cEv opC; as_aux_lemma => first | (go_simp; done) | (go_simp <;> rfl)) hHeld ?_
      refine putsO [7, 8, 12] [12, 8, 7] [(22, .int .i64 nb), (18, .bool false), (17, .bool false)] 3 rfl [17, 18, 22] (by as_aux_lemma => kernel_rfl) (by as_aux_lemma => kernel_rfl) rfl (fun _ _ _ _ _ h => h) hHeld ?_
      refine takeO 9 19 (.fieldAddr 61 (.const (.pointer (some ⟨gp, 0, none⟩))) 5) 0 (.pointer (some ⟨gp, 5, none⟩)) (by as_aux_lemma => kernel_rfl) (by as_aux_lemma => kernel_rfl) (by as_aux_lemma => kernel_rfl) (fun _ _ _ _ _ h => h) (fun W hS => by clear hS hHeld; unfold cEv opC; as_aux_lemma => first | (go_simp; done) | (go_simp <;> rfl)) hHeld ?_
      refine takeO 10 20 (.load 31 (.const (.pointer (some ⟨gp, 5, none⟩)))) 31 (.slice (some adb) nb cb) (by as_aux_lemma => kernel_rfl) (by as_aux_lemma => kernel_rfl) (by as_aux_lemma => kernel_rfl) (fun _ _ _ _ _ h => h) (fun W hS => by have z4 := hS.p.cell 4; have z5 := hS.p.cell 5; simp at z4 z5; clear hS hHeld; unfold cEv opC; as_aux_lemma => first | (go_simp; done) | (go_simp <;> rfl)) hHeld ?_
      refine takeO 11 21 (.call { callee := .builtin .len, args := #[.const (.slice (some adb) nb cb)], argTypes := #[31] }) 3 (.int .i64 nb) (by as_aux_lemma => kernel_rfl) (by as_aux_lemma => kernel_rfl) (by as_aux_lemma => kernel_rfl) (fun _ _ _ _ _ h => h) (fun W hS => by clear hS hHeld; unfold cEv opC; as_aux_lemma => first | (go_simp; done) | (go_simp <;> rfl)) hHeld ?_
      refine takeO 13 23 (.binOp .eql 3 (.const (.int .i64 nb)) (.const (.int .i64 nb)) 3) 4 (.bool true) (by as_aux_lemma => kernel_rfl) (by as_aux_lemma => kernel_rfl) (by as_aux_lemma => kernel_rfl) (fun _ _ _ _ _ h => h) (fun W hS => by clear hS hHeld; unfold cEv opC; as_aux_lemma => first | (go_simp; done) | (go_simp <;> rfl)) hHeld ?_
      refine putsO [14, 17] [17, 14] [(27, .int .i64 nb), (24, .bool true)] 2 rfl [24, 27] (by as_aux_lemma => kernel_rfl) (by as_aux_lemma => kernel_rfl) rfl (fun _ _ _ _ _ h => h) hHeld ?_
      refine takeO 15 25 (.fieldAddr 61 (.const (.pointer (some ⟨gp, 0, none⟩))) 5) 0 (.pointer (some ⟨gp, 5, none⟩)) (by as_aux_lemma => kernel_rfl) (by as_aux_lemma => kernel_rfl) (by as_aux_lemma => kernel_rfl) (fun _ _ _ _ _ h => h) (fun W hS => by clear hS hHeld; unfold cEv opC; as_aux_lemma => first | (go_simp; done) | (go_simp <;> rfl)) hHeld ?_
      refine takeO 18 28 (.binOp .sub 3 (.const (.int .i64 nb)) (.const (.int .i64 1)) 3) 3 (.int .i64 j) (by as_aux_lemma => kernel_rfl) (by as_aux_lemma => kernel_rfl) (by as_aux_lemma => kernel_rfl) (fun _ _ _ _ _ h => h) (fun W hS => by clear hS hHeld; unfold cEv opC; as_aux_lemma => first | (go_simp; done) | (go_simp <;> rfl)) hHeld ?_
      refine takeO 21 31 (.fieldAddr 61 (.const (.pointer (some ⟨gp, 0, none⟩))) 4) 0 (.pointer (some ⟨gp, 4, none⟩)) (by as_aux_lemma => kernel_rfl) (by as_aux_lemma => kernel_rfl) (by as_aux_lemma => kernel_rfl) (fun _ _ _ _ _ h => h) (fun W hS => by clear hS hHeld; unfold cEv opC; as_aux_lemma => first | (go_simp; done) | (go_simp <;> rfl)) hHeld ?_
      refine takeO 16 26 (.load 31 (.const (.pointer (some ⟨gp, 5, none⟩)))) 31 (.slice (some adb) nb cb) (by as_aux_lemma => kernel_rfl) (by as_aux_lemma => kernel_rfl) (by as_aux_lemma => kernel_rfl) (fun _ _ _ _ _ h => h) (fun W hS => by have z4 := hS.p.cell 4; have z5 := hS.p.cell 5; simp at z4 z5; clear hS hHeld; unfold cEv opC; as_aux_lemma => first | (go_simp; done) | (go_simp <;> rfl)) hHeld ?_
      refine takeO 22 32 (.load 31 (.const (.pointer (some ⟨gp, 4, none⟩)))) 31 (.slice (some adw) nw cw) (by as_aux_lemma => kernel_rfl) (by as_aux_lemma => kernel_rfl) (by as_aux_lemma => kernel_rfl) (fun _ _ _ _ _ h => h) (fun W hS => by have z4 := hS.p.cell 4; have z5 := hS.p.cell 5; simp at z4 z5; clear hS hHeld; unfold cEv opC; as_aux_lemma => first | (go_simp; done) | (go_simp <;> rfl)) hHeld ?_
      refine takeO 19 29 (.indexAddr 31 (.const (.slice (some adb) nb cb)) (.const (.int .i64 j))) 0 (.pointer (some (adb.add (j * 3)))) (by as_aux_lemma => kernel_rfl) (by as_aux_lemma => kernel_rfl) (by as_aux_lemma => kernel_rfl) (fun _ _ _ _ _ h => h) (fun W hS => by clear hS hHeld; unfold cEv opC; as_aux_lemma => first | (go_simp; done) | (go_simp <;> rfl)) hHeld ?_
      refine takeO 23 33 (.indexAddr 31 (.const (.slice (some adw) nw cw)) (.const (.int .i64 0))) 0 (.pointer (some adw)) (by as_aux_lemma => kernel_rfl) (by as_aux_lemma => kernel_rfl) (by as_aux_lemma => kernel_rfl) (fun _ _ _ _ _ h => h) (fun W hS => by clear hS hHeld; unfold cEv opC; as_aux_lemma => first | (go_simp; done) | (go_simp <;> rfl)) hHeld ?_
      refine takeO 20 30 (.load 51 (.const (.pointer (some (adb.add (j * 3)))))) 51 (.agg #[.int .u64 b0, .int .u64 b1, .int .i64 b2]) (by as_aux_lemma => kernel_rfl) (by as_aux_lemma => kernel_rfl) (by as_aux_lemma => kernel_rfl) (fun _ _ _ _ _ h => h) (fun W hS => by obtain ⟨z0, z1, z2⟩ := RdR.scellP hS.bs HB.out; simp only at z0 z1 z2; clear hS hHeld; unfold cEv opC; as_aux_lemma => first | (go_simp; done) | (go_simp <;> rfl)) hHeld ?_
      refine takeO 24 34 (.load 51 (.const (.pointer (some adw)))) 51 (.agg #[.int .u64 a0, .int .u64 a1, .int .i64 a2]) (by as_aux_lemma => kernel_rfl) (by as_aux_lemma => kernel_rfl) (by as_aux_lemma => kernel_rfl) (fun _ _ _ _ _ h => h) (fun W hS => by obtain ⟨z0, z1, z2⟩ := RdR.scellP hS.wt HF.out; rw [Nat.zero_mul, add_zero'] at z0 z1 z2; simp only at z0 z1 z2; clear hS hHeld; unfold cEv opC; as_aux_lemma => first | (go_simp; done) | (go_simp <;> rfl)) hHeld ?_
      refine readyO [25] (by as_aux_lemma => kernel_rfl) (by simp) ?_
      refine callO 25 35 (.call { callee := .value (.func 64), args := #[.const (.agg #[.int .u64 b0, .int .u64 b1, .int .i64 b2]), .const (.agg #[.int .u64 a0, .int .u64 a1, .int .i64 a2])], argTypes := #[51, 51] }) 4 64 #[.agg #[.int .u64 b0, .int .u64 b1, .int .i64 b2], .agg #[.int .u64 a0, .int .u64 a1, .int .i64 a2]] (by as_aux_lemma => kernel_rfl) (by as_aux_lemma => kernel_rfl) (by unfold cEv opC; go_simp) ?_ AllReadyH.nil
      refine (HSp.out _).mono ?_
      rintro e wq ⟨rfl, hbq⟩
      refine ⟨_, rfl, (hHeld.step hbq), fun hHeld2 => ?_⟩
      clear hHeld
      have hHeld := hHeld2
      clear hHeld2
      clear hbq
      refine putsO [26, 27] [27, 26] [(37, .bool false), (36, .bool false)] 2 rfl [36, 37] (by as_aux_lemma => kernel_rfl) (by as_aux_lemma => kernel_rfl) rfl (fun _ _ _ _ _ h => h) hHeld ?_
      refine doneO [(10, .pointer (some ⟨gp, 4, none⟩)), (0, .slice (some adw) nw cw), (0, .int .i64 nw), (0, .bool false), (0, .bool false), (0, .int .i64 nb), (0, .bool false), (0, .bool false), (0, .bool false), (0, .pointer (some ⟨gp, 5, none⟩)), (0, .slice (some adb) nb cb), (0, .int .i64 nb), (0, .int .i64 nb), (0, .bool true), (0, .bool true), (0, .pointer (some ⟨gp, 5, none⟩)), (0, .slice (some adb) nb cb), (0, .int .i64 nb), (0, .int .i64 j), (0, .pointer (some (adb.add (j * 3)))), (0, .agg #[.int .u64 b0, .int .u64 b1, .int .i64 b2]), (0, .pointer (some ⟨gp, 4, none⟩)), (0, .slice (some adw) nw cw), (0, .pointer (some adw)), (0, .agg #[.int .u64 a0, .int .u64 a1, .int .i64 a2]), (0, .bool false), (0, .bool false), (0, .bool false)] (by as_aux_lemma => kernel_rfl) (by as_aux_lemma => kernel_rfl) ?_
      simp only [fillG]
      have HD2 := hide hHeld
      clear hHeld
      have c0 := HD2.out.p.cell 0; have c1 := HD2.out.p.cell 1; have c2 := HD2.out.p.cell 2; have c3 := HD2.out.p.cell 3; have c4 := HD2.out.p.cell 4; have c5 := HD2.out.p.cell 5; simp at c0 c1 c2 c3 c4 c5
      have g4 := HD2.out.p.frozen 4
      obtain ⟨z0, z1, z2⟩ := RdR.scellP HD2.out.wt HF.out
      rw [Nat.zero_mul, add_zero'] at z0 z1 z2
      simp only at z0 z1 z2
      have HC := hide (RdR.cut (k := 1) HD2.out.wt (show 1 ≤ nw by omega) HL.out.1 hcw)
      by_cases hc1 : cw = 1
      · subst hc1
        obtain rfl : nw = 1 := by omega
        have hnil : wt.drop 1 = [] := List.eq_nil_of_length_eq_zero (by rw [List.length_drop, HL.out.1])
        go_upto_region 6 with fail
        have H3 := hide (show RfP w R gp gr #[.slice Aq nq cq, .int .u64 mask, .int .i64 ef, .slice Ak nk ck, .slice (some adw) 0 0, .slice (some adb) nb cb] #[.slice none 0 0, .int .u64 0, .int .i64 0, .slice none 0 0, .slice none 0 0, .slice none 0 0] [] none [] none [] none [] (some adw) (wt.drop 1) _ bs _ from by have := (HD2.out.wt_ (A := some adw) (ls := wt.drop 1) (by rw [hnil]; exact RdR.nil)).set_ 4 (.slice (some adw) 0 0); simpa using this)
        clear c0 c1 c2 c3 c4 c5 g4 z0 z1 z2 HD2 HC
        generalize World.setCell _ _ _ = W3 at *
        have c0 := H3.out.p.cell 0; have c1 := H3.out.p.cell 1; have c2 := H3.out.p.cell 2; have c3 := H3.out.p.cell 3; have c4 := H3.out.p.cell 4; have c5 := H3.out.p.cell 5; simp at c0 c1 c2 c3 c4 c5
        have r0 := H3.out.r.cell 0; have r1 := H3.out.r.cell 1; have r2 := H3.out.r.cell 2; have r3 := H3.out.r.cell 3; have r4 := H3.out.r.cell 4; have r5 := H3.out.r.cell 5; have f0 := H3.out.r.frozen 0; have f1 := H3.out.r.frozen 1; have f2 := H3.out.r.frozen 2; have f3 := H3.out.r.frozen 3; have f4 := H3.out.r.frozen 4; have f5 := H3.out.r.frozen 5; simp at r0 r1 r2 r3 r4 r5
        go_wp2
        have HZ := hide (H3.out.res rfl)
        have q0 := HZ.out.r.cell 0
        have q1 := HZ.out.r.cell 1
        have q2 := HZ.out.r.cell 2
        have q3 := HZ.out.r.cell 3
        have q4 := HZ.out.r.cell 4
        have q5 := HZ.out.r.cell 5
        simp at q0 q1 q2 q3 q4 q5
        refine bodyPost_ret (v := .tuple #[.agg #[.slice Aq nq cq, .int .u64 mask, .int .i64 ef, .slice Ak nk ck, .slice (some adw) 0 0, .slice (some adb) nb cb], .int .i64 a2, .bool true]) (by simp [results, Tryz.results39, go_sem, q0, q1, q2, q3, q4, q5]) rfl ?_
        exact ⟨HZ.out.bel, .inr ⟨by rw [HK.out]; exact HD.out, some adw, 0, by rw [HFs.out]; rfl, by omega, by omega, HZ.out.out HZ.out.wt⟩⟩
      · have hc2 : 1 ≤ cw - 1 ∨ cw = 0 := by omega
        rw [if_neg hc1] at HC
        go_upto_region 6 with fail
        have H3 := hide (show RfP w R gp gr #[.slice Aq nq cq, .int .u64 mask, .int .i64 ef, .slice Ak nk ck, .slice (some ⟨adw.block, adw.off + 3, none⟩) (nw - 1) (cw - 1), .slice (some adb) nb cb] #[.slice none 0 0, .int .u64 0, .int .i64 0, .slice none 0 0, .slice none 0 0, .slice none 0 0] [] none [] none [] none [] (some ⟨adw.block, adw.off + 3, none⟩) (wt.drop 1) _ bs _ from by have := (HD2.out.wt_ (A := some ⟨adw.block, adw.off + 3, none⟩) (ls := wt.drop 1) (rd_add3 HC.out)).set_ 4 (.slice (some ⟨adw.block, adw.off + 3, none⟩) (nw - 1) (cw - 1)); simpa using this)
        clear c0 c1 c2 c3 c4 c5 g4 z0 z1 z2 HD2 HC
        generalize World.setCell _ _ _ = W3 at *
        have c0 := H3.out.p.cell 0; have c1 := H3.out.p.cell 1; have c2 := H3.out.p.cell 2; have c3 := H3.out.p.cell 3; have c4 := H3.out.p.cell 4; have c5 := H3.out.p.cell 5; simp at c0 c1 c2 c3 c4 c5
        have r0 := H3.out.r.cell 0; have r1 := H3.out.r.cell 1; have r2 := H3.out.r.cell 2; have r3 := H3.out.r.cell 3; have r4 := H3.out.r.cell 4; have r5 := H3.out.r.cell 5; have f0 := H3.out.r.frozen 0; have f1 := H3.out.r.frozen 1; have f2 := H3.out.r.frozen 2; have f3 := H3.out.r.frozen 3; have f4 := H3.out.r.frozen 4; have f5 := H3.out.r.frozen 5; simp at r0 r1 r2 r3 r4 r5
        go_wp2
        have HZ := hide (H3.out.res rfl)
        have q0 := HZ.out.r.cell 0
        have q1 := HZ.out.r.cell 1
        have q2 := HZ.out.r.cell 2
        have q3 := HZ.out.r.cell 3
        have q4 := HZ.out.r.cell 4
        have q5 := HZ.out.r.cell 5
        simp at q0 q1 q2 q3 q4 q5
        refine bodyPost_ret (v := .tuple #[.agg #[.slice Aq nq cq, .int .u64 mask, .int .i64 ef, .slice Ak nk ck, .slice (some ⟨adw.block, adw.off + 3, none⟩) (nw - 1) (cw - 1), .slice (some adb) nb cb], .int .i64 a2, .bool true]) (by simp [results, Tryz.results39, go_sem, q0, q1, q2, q3, q4, q5]) rfl ?_
        exact ⟨HZ.out.bel, .inr ⟨by rw [HK.out]; exact HD.out, some ⟨adw.block, adw.off + 3, none⟩, cw - 1, by rw [HFs.out]; rfl, by omega, by omega, HZ.out.out HZ.out.wt⟩⟩
    · rw [ht] at HSp hd
      have HD := hide hd
      clear ht hd
      refine startO (S := (RfP w R gp gr #[.slice Aq nq cq, .int .u64 mask, .int .i64 ef, .slice Ak nk ck, .slice (some adw) nw cw, .slice (some adb) nb cb] #[.slice none 0 0, .int .u64 0, .int .i64 0, .slice none 0 0, .slice none 0 0, .slice none 0 0] [] none [] none [] none [] (some adw) wt (some adb) bs)) 28 (by as_aux_lemma => kernel_rfl) (by as_aux_lemma => kernel_rfl) (HA.out.step (Below.refl _ _).drew) (fun hHeld => ?_)
      clear HA
      generalize World.drew _ = Wd at *
      refine takeO 0 10 (.fieldAddr 61 (.const (.pointer (some ⟨gp, 0, none⟩))) 4) 0 (.pointer (some ⟨gp, 4, none⟩)) (by as_aux_lemma => kernel_rfl) (by as_aux_lemma => kernel_rfl) (by as_aux_lemma => kernel_rfl) (fun _ _ _ _ _ h => h) (fun W hS => by clear hS hHeld; unfold cEv opC; as_aux_lemma => first | (go_simp; done) | (go_simp <;> rfl)) hHeld ?_
      refine takeO 1 11 (.load 31 (.const (.pointer (some ⟨gp, 4, none⟩)))) 31 (.slice (some adw) nw cw) (by as_aux_lemma => kernel_rfl) (by as_aux_lemma => kernel_rfl) (by as_aux_lemma => kernel_rfl) (fun _ _ _ _ _ h => h) (fun W hS => by have z4 := hS.p.cell 4; have z5 := hS.p.cell 5; simp at z4 z5; clear hS hHeld; unfold cEv opC; as_aux_lemma => first | (go_simp; done) | (go_simp <;> rfl)) hHeld ?_
      refine takeO 2 12 (.call { callee := .builtin .len, args := #[.const (.slice (some adw) nw cw)], argTypes := #[31] }) 3 (.int .i64 nw) (by as_aux_lemma => kernel_rfl) (by as_aux_lemma => kernel_rfl) (by as_aux_lemma => kernel_rfl) (fun _ _ _ _ _ h => h) (fun W hS => by clear hS hHeld; unfold cEv opC; as_aux_lemma => first | (go_simp; done) | (go_simp <;> rfl)) hHeld ?_
      refine takeO 3 13 (.binOp .eql 3 (.const (.int .i64 nw)) (.const (.int .i64 0)) 3) 4 (.bool false) (by as_aux_lemma => kernel_rfl) (by as_aux_lemma => kernel_rfl) (by as_aux_lemma => kernel_rfl) (fun _ _ _ _ _ h => h) (fun W hS => by clear hS hHeld; unfold cEv opC; as_aux_lemma => first | (go_simp; done) | (go_simp <;> rfl)) hHeld ?_
      refine putsO [4, 5] [5, 4] [(15, .int .i64 nb), (14, .bool false)] 2 rfl [14, 15] (by as_aux_lemma => kernel_rfl) (by as_aux_lemma => kernel_rfl) rfl (fun _ _ _ _ _ h => h) hHeld ?_
      refine takeO 6 16 (.binOp .eql 3 (.const (.int .i64 nb)) (.const (.int .i64 0)) 3) 4 (.bool false) (by as_aux_lemma => kernel_rfl) (by as_aux_lemma => kernel_rfl) (by as_aux_lemma => kernel_rfl) (fun _ _ _ _ _ h => h) (fun W hS => by clear hS hHeld; unfold cEv opC; as_aux_lemma => first | (go_simp; done) | (go_simp <;> rfl)) hHeld ?_
      refine putsO [7, 8, 12] [12, 8, 7] [(22, .int .i64 nb), (18, .bool false), (17, .bool false)] 3 rfl [17, 18, 22] (by as_aux_lemma => kernel_rfl) (by as_aux_lemma => kernel_rfl) rfl (fun _ _ _ _ _ h => h) hHeld ?_
      refine takeO 9 19 (.fieldAddr 61 (.const (.pointer (some ⟨gp, 0, none⟩))) 5) 0 (.pointer (some ⟨gp, 5, none⟩)) (by as_aux_lemma => kernel_rfl) (by as_aux_lemma => kernel_rfl) (by as_aux_lemma => kernel_rfl) (fun _ _ _ _ _ h => h) (fun W hS => by clear hS hHeld; unfold cEv opC; as_aux_lemma => first | (go_simp; done) | (go_simp <;> rfl)) hHeld ?_
      refine takeO 10 20 (.load 31 (.const (.pointer (some ⟨gp, 5, none⟩)))) 31 (.slice (some adb) nb cb) (by as_aux_lemma => kernel_rfl) (by as_aux_lemma => kernel_rfl) (by as_aux_lemma => kernel_rfl) (fun _ _ _ _ _ h => h) (fun W hS => by have z4 := hS.p.cell 4; have z5 := hS.p.cell 5; simp at z4 z5; clear hS hHeld; unfold cEv opC; as_aux_lemma => first | (go_simp; done) | (go_simp <;> rfl)) hHeld ?_
      refine takeO 11 21 (.call { callee := .builtin .len, args := #[.const (.slice (some adb) nb cb)], argTypes := #[31] }) 3 (.int .i64 nb) (by as_aux_lemma => kernel_rfl) (by as_aux_lemma => kernel_rfl) (by as_aux_lemma => kernel_rfl) (fun _ _ _ _ _ h => h) (fun W hS => by clear hS hHeld; unfold cEv opC; as_aux_lemma => first | (go_simp; done) | (go_simp <;> rfl)) hHeld ?_
      refine takeO 13 23 (.binOp .eql 3 (.const (.int .i64 nb)) (.const (.int .i64 nb)) 3) 4 (.bool true) (by as_aux_lemma => kernel_rfl) (by as_aux_lemma => kernel_rfl) (by as_aux_lemma => kernel_rfl) (fun _ _ _ _ _ h => h) (fun W hS => by clear hS hHeld; unfold cEv opC; as_aux_lemma => first | (go_simp; done) | (go_simp <;> rfl)) hHeld ?_
      refine putsO [14, 17] [17, 14] [(27, .int .i64 nb), (24, .bool true)] 2 rfl [24, 27] (by as_aux_lemma => kernel_rfl) (by as_aux_lemma => kernel_rfl) rfl (fun _ _ _ _ _ h => h) hHeld ?_
      refine takeO 15 25 (.fieldAddr 61 (.const (.pointer (some ⟨gp, 0, none⟩))) 5) 0 (.pointer (some ⟨gp, 5, none⟩)) (by as_aux_lemma => kernel_rfl) (by as_aux_lemma => kernel_rfl) (by as_aux_lemma => kernel_rfl) (fun _ _ _ _ _ h => h) (fun W hS => by clear hS hHeld; unfold cEv opC; as_aux_lemma => first | (go_simp; done) | (go_simp <;> rfl)) hHeld ?_
      refine takeO 18 28 (.binOp .sub 3 (.const (.int .i64 nb)) (.const (.int .i64 1)) 3) 3 (.int .i64 j) (by as_aux_lemma => kernel_rfl) (by as_aux_lemma => kernel_rfl) (by as_aux_lemma => kernel_rfl) (fun _ _ _ _ _ h => h) (fun W hS => by clear hS hHeld; unfold cEv opC; as_aux_lemma => first | (go_simp; done) | (go_simp <;> rfl)) hHeld ?_
      refine takeO 21 31 (.fieldAddr 61 (.const (.pointer (some ⟨gp, 0, none⟩))) 4) 0 (.pointer (some ⟨gp, 4, none⟩)) (by as_aux_lemma => kernel_rfl) (by as_aux_lemma => kernel_rfl) (by as_aux_lemma => kernel_rfl) (fun _ _ _ _ _ h => h) (fun W hS => by clear hS hHeld; unfold cEv opC; as_aux_lemma => first | (go_simp; done) | (go_simp <;> rfl)) hHeld ?_
      refine takeO 16 26 (.load 31 (.const (.pointer (some ⟨gp, 5, none⟩)))) 31 (.slice (some adb) nb cb) (by as_aux_lemma => kernel_rfl) (by as_aux_lemma => kernel_rfl) (by as_aux_lemma => kernel_rfl) (fun _ _ _ _ _ h => h) (fun W hS => by have z4 := hS.p.cell 4; have z5 := hS.p.cell 5; simp at z4 z5; clear hS hHeld; unfold cEv opC; as_aux_lemma => first | (go_simp; done) | (go_simp <;> rfl)) hHeld ?_
      refine takeO 22 32 (.load 31 (.const (.pointer (some ⟨gp, 4, none⟩)))) 31 (.slice (some adw) nw cw) (by as_aux_lemma => kernel_rfl) (by as_aux_lemma => kernel_rfl) (by as_aux_lemma => kernel_rfl) (fun _ _ _ _ _ h => h) (fun W hS => by have z4 := hS.p.cell 4; have z5 := hS.p.cell 5; simp at z4 z5; clear hS hHeld; unfold cEv opC; as_aux_lemma => first | (go_simp; done) | (go_simp <;> rfl)) hHeld ?_
      refine takeO 19 29 (.indexAddr 31 (.const (.slice (some adb) nb cb)) (.const (.int .i64 j))) 0 (.pointer (some (adb.add (j * 3)))) (by as_aux_lemma => kernel_rfl) (by as_aux_lemma => kernel_rfl) (by as_aux_lemma => kernel_rfl) (fun _ _ _ _ _ h => h) (fun W hS => by clear hS hHeld; unfold cEv opC; as_aux_lemma => first | (go_simp; done) | (go_simp <;> rfl)) hHeld ?_
      refine takeO 23 33 (.indexAddr 31 (.const (.slice (some adw) nw cw)) (.const (.int .i64 0))) 0 (.pointer (some adw)) (by as_aux_lemma => kernel_rfl) (by as_aux_lemma => kernel_rfl) (by as_aux_lemma => kernel_rfl) (fun _ _ _ _ _ h => h) (fun W hS => by clear hS hHeld; unfold cEv opC; as_aux_lemma => first | (go_simp; done) | (go_simp <;> rfl)) hHeld ?_
      refine takeO 20 30 (.load 51 (.const (.pointer (some (adb.add (j * 3)))))) 51 (.agg #[.int .u64 b0, .int .u64 b1, .int .i64 b2]) (by as_aux_lemma => kernel_rfl) (by as_aux_lemma => kernel_rfl) (by as_aux_lemma => kernel_rfl) (fun _ _ _ _ _ h => h) (fun W hS => by obtain ⟨z0, z1, z2⟩ := RdR.scellP hS.bs HB.out; simp only at z0 z1 z2; clear hS hHeld; unfold cEv opC; as_aux_lemma => first | (go_simp; done) | (go_simp <;> rfl)) hHeld ?_
      refine takeO 24 34 (.load 51 (.const (.pointer (some adw)))) 51 (.agg #[.int .u64 a0, .int .u64 a1, .int .i64 a2]) (by as_aux_lemma => kernel_rfl) (by as_aux_lemma => kernel_rfl) (by as_aux_lemma => kernel_rfl) (fun _ _ _ _ _ h => h) (fun W hS => by obtain ⟨z0, z1, z2⟩ := RdR.scellP hS.wt HF.out; rw [Nat.zero_mul, add_zero'] at z0 z1 z2; simp only at z0 z1 z2; clear hS hHeld; unfold cEv opC; as_aux_lemma => first | (go_simp; done) | (go_simp <;> rfl)) hHeld ?_
      refine readyO [25] (by as_aux_lemma => kernel_rfl) (by simp) ?_
      refine callO 25 35 (.call { callee := .value (.func 64), args := #[.const (.agg #[.int .u64 b0, .int .u64 b1, .int .i64 b2]), .const (.agg #[.int .u64 a0, .int .u64 a1, .int .i64 a2])], argTypes := #[51, 51] }) 4 64 #[.agg #[.int .u64 b0, .int .u64 b1, .int .i64 b2], .agg #[.int .u64 a0, .int .u64 a1, .int .i64 a2]] (by as_aux_lemma => kernel_rfl) (by as_aux_lemma => kernel_rfl) (by unfold cEv opC; go_simp) ?_ AllReadyH.nil
      refine (HSp.out _).mono ?_
      rintro e wq ⟨rfl, hbq⟩
      refine ⟨_, rfl, (hHeld.step hbq), fun hHeld2 => ?_⟩
      clear hHeld
      have hHeld := hHeld2
      clear hHeld2
      clear hbq
      refine putsO [26, 27] [27, 26] [(37, .bool true), (36, .bool true)] 2 rfl [36, 37] (by as_aux_lemma => kernel_rfl) (by as_aux_lemma => kernel_rfl) rfl (fun _ _ _ _ _ h => h) hHeld ?_
      refine doneO [(10, .pointer (some ⟨gp, 4, none⟩)), (0, .slice (some adw) nw cw), (0, .int .i64 nw), (0, .bool false), (0, .bool false), (0, .int .i64 nb), (0, .bool false), (0, .bool false), (0, .bool false), (0, .pointer (some ⟨gp, 5, none⟩)), (0, .slice (some adb) nb cb), (0, .int .i64 nb), (0, .int .i64 nb), (0, .bool true), (0, .bool true), (0, .pointer (some ⟨gp, 5, none⟩)), (0, .slice (some adb) nb cb), (0, .int .i64 nb), (0, .int .i64 j), (0, .pointer (some (adb.add (j * 3)))), (0, .agg #[.int .u64 b0, .int .u64 b1, .int .i64 b2]), (0, .pointer (some ⟨gp, 4, none⟩)), (0, .slice (some adw) nw cw), (0, .pointer (some adw)), (0, .agg #[.int .u64 a0, .int .u64 a1, .int .i64 a2]), (0, .bool true), (0, .bool true), (0, .bool true)] (by as_aux_lemma => kernel_rfl) (by as_aux_lemma => kernel_rfl) ?_
      simp only [fillG]
      have HD2 := hide hHeld
      clear hHeld
      have c0 := HD2.out.p.cell 0; have c1 := HD2.out.p.cell 1; have c2 := HD2.out.p.cell 2; have c3 := HD2.out.p.cell 3; have c4 := HD2.out.p.cell 4; have c5 := HD2.out.p.cell 5; simp at c0 c1 c2 c3 c4 c5
      have r0 := HD2.out.r.cell 0; have r1 := HD2.out.r.cell 1; have r2 := HD2.out.r.cell 2; have r3 := HD2.out.r.cell 3; have r4 := HD2.out.r.cell 4; have r5 := HD2.out.r.cell 5; have f0 := HD2.out.r.frozen 0; have f1 := HD2.out.r.frozen 1; have f2 := HD2.out.r.frozen 2; have f3 := HD2.out.r.frozen 3; have f4 := HD2.out.r.frozen 4; have f5 := HD2.out.r.frozen 5; simp at r0 r1 r2 r3 r4 r5
      go_wp2
      have HZ := hide (HD2.out.res rfl)
      have q0 := HZ.out.r.cell 0
      have q1 := HZ.out.r.cell 1
      have q2 := HZ.out.r.cell 2
      have q3 := HZ.out.r.cell 3
      have q4 := HZ.out.r.cell 4
      have q5 := HZ.out.r.cell 5
      simp at q0 q1 q2 q3 q4 q5
      refine bodyPost_ret (v := .tuple #[.agg #[.slice Aq nq cq, .int .u64 mask, .int .i64 ef, .slice Ak nk ck, .slice (some adw) nw cw, .slice (some adb) nb cb], .int .i64 0, .bool false]) (by simp [results, Tryz.results39, go_sem, q0, q1, q2, q3, q4, q5]) rfl ?_
      exact ⟨HZ.out.bel, .inl ⟨by rw [HK.out]; exact HD.out, rfl⟩⟩
  have HD := hide (show doneR K wt bs = false by unfold doneR; rw [h0f, h1f, decide_eq_false (show ¬ bs.length = K by rw [HL.out.2]; exact h2)]; rfl)
  have e_ba : (((nb : Nat) : Int) == (K : Int)) = false := by rw [beq_eq_false_iff_ne]; omega
  have e_bb : decide (((nb : Nat) : Int) = (K : Int)) = false := by simp; omega
  have e_bc : decide (nb = K) = false := by simp; omega
  have e_bd : (nb == K) = false := by simp; omega
  clear hf h0f h1f
  refine startO (S := (RfP w R gp gr #[.slice Aq nq cq, .int .u64 mask, .int .i64 ef, .slice Ak nk ck, .slice (some adw) nw cw, .slice Ab nb cb] #[.slice none 0 0, .int .u64 0, .int .i64 0, .slice none 0 0, .slice none 0 0, .slice none 0 0] [] none [] none [] none [] (some adw) wt Ab bs)) 28 (by as_aux_lemma => kernel_rfl) (by as_aux_lemma => kernel_rfl) (HA.out.step (Below.refl _ _).drew) (fun hHeld => ?_)
  clear HA
  generalize World.drew _ = Wd at *
  refine takeO 0 10 (.fieldAddr 61 (.const (.pointer (some ⟨gp, 0, none⟩))) 4) 0 (.pointer (some ⟨gp, 4, none⟩)) (by as_aux_lemma => kernel_rfl) (by as_aux_lemma => kernel_rfl) (by as_aux_lemma => kernel_rfl) (fun _ _ _ _ _ h => h) (fun W hS => by clear hS hHeld; unfold cEv opC; as_aux_lemma => first | (go_simp; done) | (go_simp <;> rfl)) hHeld ?_
  refine takeO 1 11 (.load 31 (.const (.pointer (some ⟨gp, 4, none⟩)))) 31 (.slice (some adw) nw cw) (by as_aux_lemma => kernel_rfl) (by as_aux_lemma => kernel_rfl) (by as_aux_lemma => kernel_rfl) (fun _ _ _ _ _ h => h) (fun W hS => by have z4 := hS.p.cell 4; have z5 := hS.p.cell 5; simp at z4 z5; clear hS hHeld; unfold cEv opC; as_aux_lemma => first | (go_simp; done) | (go_simp <;> rfl)) hHeld ?_
  refine takeO 2 12 (.call { callee := .builtin .len, args := #[.const (.slice (some adw) nw cw)], argTypes := #[31] }) 3 (.int .i64 nw) (by as_aux_lemma => kernel_rfl) (by as_aux_lemma => kernel_rfl) (by as_aux_lemma => kernel_rfl) (fun _ _ _ _ _ h => h) (fun W hS => by clear hS hHeld; unfold cEv opC; as_aux_lemma => first | (go_simp; done) | (go_simp <;> rfl)) hHeld ?_
  refine takeO 3 13 (.binOp .eql 3 (.const (.int .i64 nw)) (.const (.int .i64 0)) 3) 4 (.bool false) (by as_aux_lemma => kernel_rfl) (by as_aux_lemma => kernel_rfl) (by as_aux_lemma => kernel_rfl) (fun _ _ _ _ _ h => h) (fun W hS => by clear hS hHeld; unfold cEv opC; as_aux_lemma => first | (go_simp; done) | (go_simp <;> rfl)) hHeld ?_
  refine putsO [4, 5] [5, 4] [(15, .int .i64 K), (14, .bool false)] 2 rfl [14, 15] (by as_aux_lemma => kernel_rfl) (by as_aux_lemma => kernel_rfl) rfl (fun _ _ _ _ _ h => h) hHeld ?_
  refine takeO 6 16 (.binOp .eql 3 (.const (.int .i64 K)) (.const (.int .i64 0)) 3) 4 (.bool false) (by as_aux_lemma => kernel_rfl) (by as_aux_lemma => kernel_rfl) (by as_aux_lemma => kernel_rfl) (fun _ _ _ _ _ h => h) (fun W hS => by clear hS hHeld; unfold cEv opC; as_aux_lemma => first | (go_simp; done) | (go_simp <;> rfl)) hHeld ?_
  refine putsO [7, 8, 12] [12, 8, 7] [(22, .int .i64 K), (18, .bool false), (17, .bool false)] 3 rfl [17, 18, 22] (by as_aux_lemma => kernel_rfl) (by as_aux_lemma => kernel_rfl) rfl (fun _ _ _ _ _ h => h) hHeld ?_
  refine takeO 9 19 (.fieldAddr 61 (.const (.pointer (some ⟨gp, 0, none⟩))) 5) 0 (.pointer (some ⟨gp, 5, none⟩)) (by as_aux_lemma => kernel_rfl) (by as_aux_lemma => kernel_rfl) (by as_aux_lemma => kernel_rfl) (fun _ _ _ _ _ h => h) (fun W hS => by clear hS hHeld; unfold cEv opC; as_aux_lemma => first | (go_simp; done) | (go_simp <;> rfl)) hHeld ?_
  refine takeO 10 20 (.load 31 (.const (.pointer (some ⟨gp, 5, none⟩)))) 31 (.slice Ab nb cb) (by as_aux_lemma => kernel_rfl) (by as_aux_lemma => kernel_rfl) (by as_aux_lemma => kernel_rfl) (fun _ _ _ _ _ h => h) (fun W hS => by have z4 := hS.p.cell 4; have z5 := hS.p.cell 5; simp at z4 z5; clear hS hHeld; unfold cEv opC; as_aux_lemma => first | (go_simp; done) | (go_simp <;> rfl)) hHeld ?_
  refine takeO 11 21 (.call { callee := .builtin .len, args := #[.const (.slice Ab nb cb)], argTypes := #[31] }) 3 (.int .i64 nb) (by as_aux_lemma => kernel_rfl) (by as_aux_lemma => kernel_rfl) (by as_aux_lemma => kernel_rfl) (fun _ _ _ _ _ h => h) (fun W hS => by clear hS hHeld; unfold cEv opC; as_aux_lemma => first | (go_simp; done) | (go_simp <;> rfl)) hHeld ?_
  refine takeO 13 23 (.binOp .eql 3 (.const (.int .i64 nb)) (.const (.int .i64 K)) 3) 4 (.bool false) (by as_aux_lemma => kernel_rfl) (by as_aux_lemma => kernel_rfl) (by as_aux_lemma => kernel_rfl) (fun _ _ _ _ _ h => h) (fun W hS => by clear hS hHeld; unfold cEv opC; as_aux_lemma => first | (go_simp; done) | (go_simp <;> rfl)) hHeld ?_
  refine putsO [14, 15, 17, 21, 16, 18, 22, 19, 23, 20, 24, 25, 26, 27] [27, 26, 25, 24, 20, 23, 19, 22, 18, 16, 21, 17, 15, 14] [(37, .bool false), (36, .bool false), (35, undef), (34, undef), (30, undef), (33, undef), (29, undef), (32, undef), (28, undef), (26, undef), (31, undef), (27, undef), (25, undef), (24, .bool false)] 14 rfl [24, 25, 27, 31, 26, 28, 32, 29, 33, 30, 34, 35, 36, 37] (by as_aux_lemma => kernel_rfl) (by as_aux_lemma => kernel_rfl) rfl (fun _ _ _ _ _ h => h) hHeld ?_
  refine doneO [(10, .pointer (some ⟨gp, 4, none⟩)), (0, .slice (some adw) nw cw), (0, .int .i64 nw), (0, .bool false), (0, .bool false), (0, .int .i64 K), (0, .bool false), (0, .bool false), (0, .bool false), (0, .pointer (some ⟨gp, 5, none⟩)), (0, .slice Ab nb cb), (0, .int .i64 nb), (0, .int .i64 K), (0, .bool false), (0, .bool false), (0, undef), (0, undef), (0, undef), (0, undef), (0, undef), (0, undef), (0, undef), (0, undef), (0, undef), (0, undef), (0, undef), (0, .bool false), (0, .bool false)] (by as_aux_lemma => kernel_rfl) (by as_aux_lemma => kernel_rfl) ?_
  simp only [fillG]
  have HD2 := hide hHeld
  clear hHeld
  have c0 := HD2.out.p.cell 0; have c1 := HD2.out.p.cell 1; have c2 := HD2.out.p.cell 2; have c3 := HD2.out.p.cell 3; have c4 := HD2.out.p.cell 4; have c5 := HD2.out.p.cell 5; simp at c0 c1 c2 c3 c4 c5
  have g4 := HD2.out.p.frozen 4
  obtain ⟨z0, z1, z2⟩ := RdR.scellP HD2.out.wt HF.out
  rw [Nat.zero_mul, add_zero'] at z0 z1 z2
  simp only at z0 z1 z2
  have HC := hide (RdR.cut (k := 1) HD2.out.wt (show 1 ≤ nw by omega) HL.out.1 hcw)
  by_cases hc1 : cw = 1
  · subst hc1
    obtain rfl : nw = 1 := by omega
    have hnil : wt.drop 1 = [] := List.eq_nil_of_length_eq_zero (by rw [List.length_drop, HL.out.1])
    go_upto_region 6 with fail
    have H3 := hide (show RfP w R gp gr #[.slice Aq nq cq, .int .u64 mask, .int .i64 ef, .slice Ak nk ck, .slice (some adw) 0 0, .slice Ab nb cb] #[.slice none 0 0, .int .u64 0, .int .i64 0, .slice none 0 0, .slice none 0 0, .slice none 0 0] [] none [] none [] none [] (some adw) (wt.drop 1) _ bs _ from by have := (HD2.out.wt_ (A := some adw) (ls := wt.drop 1) (by rw [hnil]; exact RdR.nil)).set_ 4 (.slice (some adw) 0 0); simpa using this)
    clear c0 c1 c2 c3 c4 c5 g4 z0 z1 z2 HD2 HC
    generalize World.setCell _ _ _ = W3 at *
    have c0 := H3.out.p.cell 0; have c1 := H3.out.p.cell 1; have c2 := H3.out.p.cell 2; have c3 := H3.out.p.cell 3; have c4 := H3.out.p.cell 4; have c5 := H3.out.p.cell 5; simp at c0 c1 c2 c3 c4 c5
    have r0 := H3.out.r.cell 0; have r1 := H3.out.r.cell 1; have r2 := H3.out.r.cell 2; have r3 := H3.out.r.cell 3; have r4 := H3.out.r.cell 4; have r5 := H3.out.r.cell 5; have f0 := H3.out.r.frozen 0; have f1 := H3.out.r.frozen 1; have f2 := H3.out.r.frozen 2; have f3 := H3.out.r.frozen 3; have f4 := H3.out.r.frozen 4; have f5 := H3.out.r.frozen 5; simp at r0 r1 r2 r3 r4 r5
    go_wp2
    have HZ := hide (H3.out.res rfl)
    have q0 := HZ.out.r.cell 0
    have q1 := HZ.out.r.cell 1
    have q2 := HZ.out.r.cell 2
    have q3 := HZ.out.r.cell 3
    have q4 := HZ.out.r.cell 4
    have q5 := HZ.out.r.cell 5
    simp at q0 q1 q2 q3 q4 q5
    refine bodyPost_ret (v := .tuple #[.agg #[.slice Aq nq cq, .int .u64 mask, .int .i64 ef, .slice Ak nk ck, .slice (some adw) 0 0, .slice Ab nb cb], .int .i64 a2, .bool true]) (by simp [results, Tryz.results39, go_sem, q0, q1, q2, q3, q4, q5]) rfl ?_
    exact ⟨HZ.out.bel, .inr ⟨by rw [HK.out]; exact HD.out, some adw, 0, by rw [HFs.out]; rfl, by omega, by omega, HZ.out.out HZ.out.wt⟩⟩
  · have hc2 : 1 ≤ cw - 1 ∨ cw = 0 := by omega
    rw [if_neg hc1] at HC
    go_upto_region 6 with fail
    have H3 := hide (show RfP w R gp gr #[.slice Aq nq cq, .int .u64 mask, .int .i64 ef, .slice Ak nk ck, .slice (some ⟨adw.block, adw.off + 3, none⟩) (nw - 1) (cw - 1), .slice Ab nb cb] #[.slice none 0 0, .int .u64 0, .int .i64 0, .slice none 0 0, .slice none 0 0, .slice none 0 0] [] none [] none [] none [] (some ⟨adw.block, adw.off + 3, none⟩) (wt.drop 1) _ bs _ from by have := (HD2.out.wt_ (A := some ⟨adw.block, adw.off + 3, none⟩) (ls := wt.drop 1) (rd_add3 HC.out)).set_ 4 (.slice (some ⟨adw.block, adw.off + 3, none⟩) (nw - 1) (cw - 1)); simpa using this)
    clear c0 c1 c2 c3 c4 c5 g4 z0 z1 z2 HD2 HC
    generalize World.setCell _ _ _ = W3 at *
    have c0 := H3.out.p.cell 0; have c1 := H3.out.p.cell 1; have c2 := H3.out.p.cell 2; have c3 := H3.out.p.cell 3; have c4 := H3.out.p.cell 4; have c5 := H3.out.p.cell 5; simp at c0 c1 c2 c3 c4 c5
    have r0 := H3.out.r.cell 0; have r1 := H3.out.r.cell 1; have r2 := H3.out.r.cell 2; have r3 := H3.out.r.cell 3; have r4 := H3.out.r.cell 4; have r5 := H3.out.r.cell 5; have f0 := H3.out.r.frozen 0; have f1 := H3.out.r.frozen 1; have f2 := H3.out.r.frozen 2; have f3 := H3.out.r.frozen 3; have f4 := H3.out.r.frozen 4; have f5 := H3.out.r.frozen 5; simp at r0 r1 r2 r3 r4 r5
    go_wp2
    have HZ := hide (H3.out.res rfl)
    have q0 := HZ.out.r.cell 0
    have q1 := HZ.out.r.cell 1
    have q2 := HZ.out.r.cell 2
    have q3 := HZ.out.r.cell 3
    have q4 := HZ.out.r.cell 4
    have q5 := HZ.out.r.cell 5
    simp at q0 q1 q2 q3 q4 q5
    refine bodyPost_ret (v := .tuple #[.agg #[.slice Aq nq cq, .int .u64 mask, .int .i64 ef, .slice Ak nk ck, .slice (some ⟨adw.block, adw.off + 3, none⟩) (nw - 1) (cw - 1), .slice Ab nb cb], .int .i64 a2, .bool true]) (by simp [results, Tryz.results39, go_sem, q0, q1, q2, q3, q4, q5]) rfl ?_
    exact ⟨HZ.out.bel, .inr ⟨by rw [HK.out]; exact HD.out, some ⟨adw.block, adw.off + 3, none⟩, cw - 1, by rw [HFs.out]; rfl, by omega, by omega, HZ.out.out HZ.out.wt⟩⟩
end Go.Proofs.YtphbdffgeeicaabGreat
