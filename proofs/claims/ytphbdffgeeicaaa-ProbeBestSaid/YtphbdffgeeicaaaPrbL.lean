/-
  A probe and the document's P beside it. Condition: they lie as said.
-/
import Derived.Test.YtphbdffgeeicaaaPrbV
import Derived.Test.YtphbdffgeeicaaaPrbF
namespace Go.Proofs.Ytphbdffgeeicaaa
set_option linter.unusedSimpArgs false
set_option linter.unusedVariables false
open Go.RowKit

section
variable {w wr : World} {X M Q P k n : Nat} {mask ef : Int} {A : Option Addr} {c : Nat} {qs kn : List Int} {m : List (Int × Int)} {v v2 : Value} {l l2 wt bs : List Spt}
/-- a variable beside the probe is written -/
theorem PrAt.far (h : PrAt w wr X M Q P k mask ef A c qs m v v2 l l2) {g : Nat} (hX : X ≠ g) (hg : FreeP wr M Q P v v2 g) (hB : w.heap.size ≤ g) (hv : RdR (Sh.int .i32) wr (fun d => FreeP wr M Q P v v2 d ∧ d ≠ g) A qs) (i : Nat) (u : Value) : PrAt w (wr.setCell ⟨g, i, none⟩ u) X M Q P k mask ef A c qs m v v2 l l2 := by
  have hk : ∀ d, d ≠ g → (wr.setCell ⟨g, i, none⟩ u).heap[d]? = wr.heap[d]? := fun d hd => Below.heap_setCell _ _ _ _ hd
  have hf : ∀ d, FreeP wr M Q P v v2 d → FreeP (wr.setCell ⟨g, i, none⟩ u) M Q P v v2 d := fun d hd => ⟨by simpa using hd.1, hd.2⟩
  have nQ : Q ≠ g := fun e => hg.2.2.1 e.symm
  have nP : P ≠ g := fun e => hg.2.2.2.1 e.symm
  have nM : M ≠ g := fun e => hg.2.1 e.symm
  exact ⟨(hk X hX).trans h.x, hf X h.fx, h.c1, h.c2, (hv.keepBlocks fun d hd => hk d hd.2).more fun d hd => hf d hd.1, h.m.block (hk M nM), h.hM,
    ⟨(hk Q nQ).trans h.q.q, own_keep h.q.own fun d hd => hk d fun e => hg.2.2.2.2.1 (e ▸ hd), h.q.ne, h.q.hQ⟩, ⟨(hk P nP).trans h.b.q, own_keep h.b.own fun d hd => hk d fun e => hg.2.2.2.2.2 (e ▸ hd), h.b.ne, h.b.hQ⟩, h.hq, h.hb, h.ne, h.ap, h.bel.setCell hB _⟩
theorem PrV.far (h : PrV w wr X M Q P mask ef A c qs v v2 n kn wt bs) {g : Nat} (hX : X ≠ g) (hg : FreeP wr M Q P v v2 g) (hB : w.heap.size ≤ g) (hv : RdR (Sh.int .i32) wr (fun d => FreeP wr M Q P v v2 d ∧ d ≠ g) A qs) (i : Nat) (u : Value) : PrV w (wr.setCell ⟨g, i, none⟩ u) X M Q P mask ef A c qs v v2 n kn wt bs := by
  obtain ⟨m, l, l2, h1, h2⟩ := h
  exact ⟨m, l, l2, h1.far hX hg hB hv i u, h2⟩
theorem PrV.blkX (h : PrV w wr X M Q P mask ef A c qs v v2 n kn wt bs) {g : Nat} {cs : Array Value} (hg : Blk wr g 31 cs) : X ≠ g := by
  obtain ⟨m, l, l2, h1, h2⟩ := h
  exact h1.x.ne_ hg (by decide)
theorem PrV.vec (h : PrV w wr X M Q P mask ef A c qs v v2 n kn wt bs) : RdR (Sh.int .i32) wr (FreeP wr M Q P v v2) A qs := by
  obtain ⟨m, l, l2, h1, h2⟩ := h
  exact h1.vec
end
/-- blocks in which the document's lists may lie -/
def FrL (M Q P : Nat) (v v2 : Value) (gx : Nat) (W : World) (d : Nat) : Prop := FreeP W M Q P v v2 d ∧ d ≠ gx
/-- a probe; the document's P in the variable gx, its lists; other variables -/
structure PrL (w : World) (X M Q P : Nat) (mask ef : Int) (A : Option Addr) (c : Nat) (qs : List Int) (gx : Nat) (v v2 : Value) (n : Nat) (kn : List Int) (wt bs : List Spt) (cx : Array Value) (bx : List (Nat × TypeId × Array Value)) (Ak : Option Addr) (kr : List Int) (Aw : Option Addr) (tr : List Spt) (Ab : Option Addr) (br : List Spt) (W : World) : Prop where
  pv : PrV w W X M Q P mask ef A c qs v v2 n kn wt bs
  x : Blk W gx 31 cx
  fx : FreeP W M Q P v v2 gx
  hx : w.heap.size ≤ gx
  vec : RdR (Sh.int .i32) W (FrL M Q P v v2 gx W) A qs
  bx : ∀ q ∈ bx, Blk W q.1 q.2.1 q.2.2 ∧ FrL M Q P v v2 gx W q.1
  kr : RdR (Sh.int .i64) W (FrL M Q P v v2 gx W) Ak kr
  tr : RdR SP W (FrL M Q P v v2 gx W) Aw tr
  br : RdR SP W (FrL M Q P v v2 gx W) Ab br
section
variable {w W W' : World} {X M Q P n n' gx : Nat} {mask ef : Int} {A B Ak Aw Ab : Option Addr} {c : Nat} {qs kn kr kn' kr' : List Int} {v v2 v' v2' : Value} {wt bs tr br wt' bs' ls : List Spt} {cx : Array Value} {bx bx' : List (Nat × TypeId × Array Value)}
theorem TurnP.rdL {α : Type} {S : Sh α} {xs : List α} (h : TurnP W W' M Q P v v2 v' v2') (hx : RdR S W (FrL M Q P v v2 gx W) B xs) : RdR S W' (FrL M Q P v' v2' gx W') B xs :=
  (hx.keepBlocks fun d hd => (h.block d hd.1).1).more fun d hd => ⟨(h.block d hd.1).2, hd.2⟩
theorem PrL.turn (h : PrL w X M Q P mask ef A c qs gx v v2 n kn wt bs cx bx Ak kr Aw tr Ab br W) (hp : PrV w W' X M Q P mask ef A c qs v' v2' n' kn' wt' bs') (ht : TurnP W W' M Q P v v2 v' v2') : PrL w X M Q P mask ef A c qs gx v' v2' n' kn' wt' bs' cx bx Ak kr Aw tr Ab br W' :=
  ⟨hp, (ht.blk h.x h.fx).1, (ht.blk h.x h.fx).2, h.hx, ht.rdL h.vec, fun q hq => ⟨(ht.blk (h.bx q hq).1 (h.bx q hq).2.1).1, (ht.blk (h.bx q hq).1 (h.bx q hq).2.1).2, (h.bx q hq).2.2⟩, ht.rdL h.kr, ht.rdL h.tr, ht.rdL h.br⟩
theorem PrL.step (h : PrL w X M Q P mask ef A c qs gx v v2 n kn wt bs cx bx Ak kr Aw tr Ab br W) (hb : Below W.heap.size W W') : PrL w X M Q P mask ef A c qs gx v v2 n kn wt bs cx bx Ak kr Aw tr Ab br W' := h.turn (h.pv.step hb) (TurnP.of_below hb)
theorem PrL.new (h : PrL w X M Q P mask ef A c qs gx v v2 n kn wt bs cx bx Ak kr Aw tr Ab br W) {d : Nat} (h1 : W.heap.size ≤ d) (h2 : d < W'.heap.size) : FrL M Q P v v2 gx W' d := ⟨h.pv.new h1 h2, by have := h.x.lt; omega⟩
theorem PrL.made {α : Type} {S : Sh α} {xs : List α} (h : PrL w X M Q P mask ef A c qs gx v v2 n kn wt bs cx bx Ak kr Aw tr Ab br W) (hx : RdR S W' (Btw W.heap.size W'.heap.size) B xs) : RdR S W' (FrL M Q P v v2 gx W') B xs := hx.more fun d hd => h.new hd.1 hd.2
theorem PrL.grow {α : Type} {S : Sh α} {xs : List α} (h : PrL w X M Q P mask ef A c qs gx v v2 n kn wt bs cx bx Ak kr Aw tr Ab br W) (hs : W.heap.size ≤ W'.heap.size) (hx : RdR S W' (Grow (FrL M Q P v v2 gx W) W W') B xs) : RdR S W' (FrL M Q P v v2 gx W') B xs :=
  hx.more fun d hd => hd.elim (fun e => ⟨⟨Nat.lt_of_lt_of_le e.1.1 hs, e.1.2⟩, e.2⟩) fun e => h.new e.1 e.2
theorem PrL.wide {α : Type} {S : Sh α} {xs : List α} (h : PrL w X M Q P mask ef A c qs gx v v2 n kn wt bs cx bx Ak kr Aw tr Ab br W) (hs : W.heap.size ≤ W'.heap.size) (hx : RdR S W' (FrL M Q P v v2 gx W) B xs) : RdR S W' (FrL M Q P v v2 gx W') B xs :=
  hx.more fun d e => ⟨⟨Nat.lt_of_lt_of_le e.1.1 hs, e.1.2⟩, e.2⟩
theorem PrL.low (h : PrL w X M Q P mask ef A c qs gx v v2 n kn wt bs cx bx Ak kr Aw tr Ab br W) : ∀ d, FrL M Q P v v2 gx W d → d < W.heap.size := fun d hd => hd.1.1
/-- lists that came in with the call -/
theorem PrL.old {α : Type} {S : Sh α} {xs : List α} (h : PrL w X M Q P mask ef A c qs gx v v2 n kn wt bs cx bx Ak kr Aw tr Ab br W) (hx : Rd S w w.heap.size B xs) : RdR S W (FrL M Q P v v2 gx W) B xs :=
  (hx.below h.pv.bel (Nat.le_refl _)) |> fun k => RdR.more k fun d hd => ⟨h.pv.old hd, by have := h.hx; omega⟩
theorem PrL.boxed (h : PrL w X M Q P mask ef A c qs gx v v2 n kn wt bs cx bx Ak kr Aw tr Ab br W) (hb : Below W.heap.size W W') {g : Nat} {t : TypeId} {cs : Array Value} (hg : Blk W' g t cs) (hs : W.heap.size ≤ g) : PrL w X M Q P mask ef A c qs gx v v2 n kn wt bs cx ((g, t, cs) :: bx) Ak kr Aw tr Ab br W' := by
  have h2 := h.step hb
  refine ⟨h2.pv, h2.x, h2.fx, h2.hx, h2.vec, fun q hq => ?_, h2.kr, h2.tr, h2.br⟩
  rcases List.mem_cons.1 hq with rfl | hq
  · exact ⟨hg, h.new hs hg.lt⟩
  · exact h2.bx q hq
theorem PrL.box (h : PrL w X M Q P mask ef A c qs gx v v2 n kn wt bs cx bx Ak kr Aw tr Ab br W) (t : TypeId) (cs : Array Value) : PrL w X M Q P mask ef A c qs gx v v2 n kn wt bs cx ((W.heap.size, t, cs) :: bx) Ak kr Aw tr Ab br (W.alloc (.cells cs t)) := h.boxed (below1 _ _) (Blk.new _ _ _) (Nat.le_refl _)
theorem PrL.drop (h : PrL w X M Q P mask ef A c qs gx v v2 n kn wt bs cx bx Ak kr Aw tr Ab br W) (hs : ∀ q ∈ bx', q ∈ bx) : PrL w X M Q P mask ef A c qs gx v v2 n kn wt bs cx bx' Ak kr Aw tr Ab br W := ⟨h.pv, h.x, h.fx, h.hx, h.vec, fun q hq => h.bx q (hs q hq), h.kr, h.tr, h.br⟩
theorem PrL.blk (h : PrL w X M Q P mask ef A c qs gx v v2 n kn wt bs cx bx Ak kr Aw tr Ab br W) {g : Nat} {t : TypeId} {xs : Array Value} (hg : (g, t, xs) ∈ bx) : Blk W g t xs := (h.bx _ hg).1
theorem PrL.kr_ (h : PrL w X M Q P mask ef A c qs gx v v2 n kn wt bs cx bx Ak kr Aw tr Ab br W) (hx : RdR (Sh.int .i64) W (FrL M Q P v v2 gx W) B kr') : PrL w X M Q P mask ef A c qs gx v v2 n kn wt bs cx bx B kr' Aw tr Ab br W := ⟨h.pv, h.x, h.fx, h.hx, h.vec, h.bx, hx, h.tr, h.br⟩
theorem PrL.tr_ (h : PrL w X M Q P mask ef A c qs gx v v2 n kn wt bs cx bx Ak kr Aw tr Ab br W) (hx : RdR SP W (FrL M Q P v v2 gx W) B ls) : PrL w X M Q P mask ef A c qs gx v v2 n kn wt bs cx bx Ak kr B ls Ab br W := ⟨h.pv, h.x, h.fx, h.hx, h.vec, h.bx, h.kr, hx, h.br⟩
theorem PrL.br_ (h : PrL w X M Q P mask ef A c qs gx v v2 n kn wt bs cx bx Ak kr Aw tr Ab br W) (hx : RdR SP W (FrL M Q P v v2 gx W) B ls) : PrL w X M Q P mask ef A c qs gx v v2 n kn wt bs cx bx Ak kr Aw tr B ls W := ⟨h.pv, h.x, h.fx, h.hx, h.vec, h.bx, h.kr, h.tr, hx⟩
theorem PrL.setx {α : Type} {S : Sh α} {xs : List α} {i : Nat} {u : Value} (hx : RdR S W (FrL M Q P v v2 gx W) B xs) : RdR S (W.setCell ⟨gx, i, none⟩ u) (FrL M Q P v v2 gx (W.setCell ⟨gx, i, none⟩ u)) B xs :=
  (hx.keepBlocks fun d hd => Below.heap_setCell W ⟨gx, i, none⟩ u d hd.2).more fun d hd => ⟨⟨by simpa using hd.1.1, hd.1.2⟩, hd.2⟩
theorem PrL.set_ (h : PrL w X M Q P mask ef A c qs gx v v2 n kn wt bs cx bx Ak kr Aw tr Ab br W) (i : Nat) (u : Value) : PrL w X M Q P mask ef A c qs gx v v2 n kn wt bs (cx.setIfInBounds i u) bx Ak kr Aw tr Ab br (W.setCell ⟨gx, i, none⟩ u) :=
  ⟨h.pv.far (h.pv.blkX h.x) h.fx h.hx h.vec i u, h.x.set_ i u, ⟨by simpa using h.fx.1, h.fx.2⟩, h.hx, PrL.setx h.vec, fun q hq => ⟨(h.bx q hq).1.far (h.bx q hq).2.2 _, ⟨by simpa using (h.bx q hq).2.1.1, (h.bx q hq).2.1.2⟩, (h.bx q hq).2.2⟩, PrL.setx h.kr, PrL.setx h.tr, PrL.setx h.br⟩
/-- all cells of the variable are written -/
theorem PrL.all_ (h : PrL w X M Q P mask ef A c qs gx v v2 n kn wt bs cx bx Ak kr Aw tr Ab br W) (hc : cx.size = 6) (a0 a1 a2 a3 a4 a5 : Value) : PrL w X M Q P mask ef A c qs gx v v2 n kn wt bs #[a0, a1, a2, a3, a4, a5] bx Ak kr Aw tr Ab br ((((((W.setCell ⟨gx, 0, none⟩ a0).setCell ⟨gx, 1, none⟩ a1).setCell ⟨gx, 2, none⟩ a2).setCell ⟨gx, 3, none⟩ a3).setCell ⟨gx, 4, none⟩ a4).setCell ⟨gx, 5, none⟩ a5) := by
  have k := (((((h.set_ 0 a0).set_ 1 a1).set_ 2 a2).set_ 3 a3).set_ 4 a4).set_ 5 a5
  have e : (((((cx.setIfInBounds 0 a0).setIfInBounds 1 a1).setIfInBounds 2 a2).setIfInBounds 3 a3).setIfInBounds 4 a4).setIfInBounds 5 a5 = #[a0, a1, a2, a3, a4, a5] := by
    obtain ⟨l⟩ := cx
    rcases l with _ | ⟨x0, _ | ⟨x1, _ | ⟨x2, _ | ⟨x3, _ | ⟨x4, _ | ⟨x5, _ | ⟨x6, l⟩⟩⟩⟩⟩⟩⟩ <;> simp at hc <;> rfl
  rwa [e] at k
/-- a variable is made for P -/
theorem PrL.start (hp : PrV w W X M Q P mask ef A c qs v v2 n kn wt bs) (cx : Array Value) (hw : w.heap.size ≤ W.heap.size) : PrL w X M Q P mask ef A c qs W.heap.size v v2 n kn wt bs cx [] none [] none [] none [] (W.alloc (.cells cx 31)) := by
  have hb := below1 W (.cells cx 31)
  have ht : TurnP W (W.alloc (.cells cx 31)) M Q P v v2 v v2 := TurnP.of_below hb
  exact ⟨hp.step hb, Blk.new _ _ _, hp.new (Nat.le_refl _) (by simp), hw, (hp.vec.below hb fun d hd => hd.1).more fun d hd => ⟨(ht.block d hd).2, by have := hd.1; omega⟩, fun q hq => by simp at hq, RdR.nil, RdR.nil, RdR.nil⟩
end
end Go.Proofs.Ytphbdffgeeicaaa
