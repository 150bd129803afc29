/-
  The law QueuePlays: a queue and a best list, and the document's lists beside them. No condition.
-/
import Derived.Test.YtknljldmjicfgaeQueL
namespace Go.Proofs.Ytknljldmjicfgae
set_option linter.unusedSimpArgs false
set_option linter.unusedVariables false
open Go.RowKit

/-- blocks in which the document's lists may lie -/
def FreeQ (W : World) (Q P : Nat) (v v2 : Value) (d : Nat) : Prop := d < W.heap.size ∧ d ≠ Q ∧ d ≠ P ∧ v.ownBlock ≠ some d ∧ v2.ownBlock ≠ some d
/-- the queue (at Q), the best list (at P), the document's lists lx, ly -/
structure PlQ (w wr : World) (Q P k : Nat) (v v2 : Value) (l l2 : List Spt) (Ax Ay : Option Addr) (lx ly : List Spt) : Prop where
  q : QAt wr w.heap.size Q v l
  b : BAt wr w.heap.size P k v2 l2
  hq : Heap sptLt l
  hb : Heap sptGt l2
  ne : Q ≠ P
  ap : Apart v v2
  bel : Below w.heap.size w wr
  x : RdR SP wr (FreeQ wr Q P v v2) Ax lx
  y : RdR SP wr (FreeQ wr Q P v v2) Ay ly
section
variable {w wr wr' : World} {Q P k : Nat} {v v2 : Value} {l l2 lx ly m : List Spt} {Ax Ay A : Option Addr}
theorem FreeQ.size (hs : wr.heap.size ≤ wr'.heap.size) {d : Nat} (h : FreeQ wr Q P v v2 d) : FreeQ wr' Q P v v2 d := ⟨Nat.lt_of_lt_of_le h.1 hs, h.2⟩
theorem PlQ.step (h : PlQ w wr Q P k v v2 l l2 Ax Ay lx ly) (hbl : Below wr.heap.size wr wr') : PlQ w wr' Q P k v v2 l l2 Ax Ay lx ly :=
  ⟨h.q.below hbl, h.b.below hbl, h.hq, h.hb, h.ne, h.ap, Below.step h.bel hbl, (h.x.below hbl fun _ hd => hd.1).more fun _ hd => hd.size hbl.size, (h.y.below hbl fun _ hd => hd.1).more fun _ hd => hd.size hbl.size⟩
/-- a block that came later than the two -/
theorem PlQ.new (h : PlQ w wr Q P k v v2 l l2 Ax Ay lx ly) {d : Nat} (h1 : wr.heap.size ≤ d) (h2 : d < wr'.heap.size) : FreeQ wr' Q P v v2 d := by
  obtain ⟨a1, a2⟩ := h.q.low
  obtain ⟨a3, a4⟩ := h.b.low
  exact ⟨h2, by omega, by omega, fun e => by have := a2 d e; omega, fun e => by have := a4 d e; omega⟩
theorem PlQ.setX (h : PlQ w wr Q P k v v2 l l2 Ax Ay lx ly) (hx : RdR SP wr (FreeQ wr Q P v v2) A m) : PlQ w wr Q P k v v2 l l2 A Ay m ly := ⟨h.q, h.b, h.hq, h.hb, h.ne, h.ap, h.bel, hx, h.y⟩
theorem PlQ.setY (h : PlQ w wr Q P k v v2 l l2 Ax Ay lx ly) (hy : RdR SP wr (FreeQ wr Q P v v2) A m) : PlQ w wr Q P k v v2 l l2 Ax A lx m := ⟨h.q, h.b, h.hq, h.hb, h.ne, h.ap, h.bel, h.x, hy⟩
/-- a call that makes a list -/
theorem PlQ.made (h : PlQ w wr Q P k v v2 l l2 Ax Ay lx ly) (hr : RdR SP wr' (Btw wr.heap.size wr'.heap.size) A m) : RdR SP wr' (FreeQ wr' Q P v v2) A m := hr.more fun _ hd => h.new hd.1 hd.2
theorem PlQ.grow (h : PlQ w wr Q P k v v2 l l2 Ax Ay lx ly) (hs : wr.heap.size ≤ wr'.heap.size) (hr : RdR SP wr' (Grow (FreeQ wr Q P v v2) wr wr') A m) : RdR SP wr' (FreeQ wr' Q P v v2) A m := hr.more fun _ hd => hd.elim (fun e => e.size hs) fun e => h.new e.1 e.2
/-- the queue has turned -/
theorem PlQ.q_ (h : PlQ w wr Q P k v v2 l l2 Ax Ay lx ly) (hd : QDone wr wr' w.heap.size Q v m) : ∃ l' v', l'.Perm m ∧ PlQ w wr' Q P k v' v2 l' l2 Ax Ay lx ly ∧ TurnH wr wr' Q v := by
  obtain ⟨l', v', r1, r2, r3, r4, r5⟩ := hd
  have hk : ∀ A m, RdR SP wr (FreeQ wr Q P v v2) A m → RdR SP wr' (FreeQ wr' Q P v' v2) A m := fun A m hx =>
    (hx.keepBlocks fun d hd => r4.block d hd.1 hd.2.1 fun e => hd.2.2.2.1 e.symm).more fun d hd => ⟨Nat.lt_of_lt_of_le hd.1 r4.size, hd.2.1, hd.2.2.1, fun e => by
      rcases r5 d e with e | e
      · exact hd.2.2.2.1 e
      · have := hd.1; omega, hd.2.2.2.2⟩
  exact ⟨l', v', r2, ⟨r3, h.q.other h.b h.ap h.ne r4, r1, h.hb, h.ne, h.ap.turned h.b r5, h.q.turn h.bel r4 h.bel.size, hk _ _ h.x, hk _ _ h.y⟩, r4⟩
/-- the best list has turned -/
theorem PlQ.b_ (h : PlQ w wr Q P k v v2 l l2 Ax Ay lx ly) (hd : BDone wr wr' w.heap.size P k v2 m) : ∃ l' v', l'.Perm m ∧ PlQ w wr' Q P k v v' l l' Ax Ay lx ly ∧ TurnH wr wr' P v2 := by
  obtain ⟨l', v', r1, r2, r3, r4, r5⟩ := hd
  have hk : ∀ A m, RdR SP wr (FreeQ wr Q P v v2) A m → RdR SP wr' (FreeQ wr' Q P v v') A m := fun A m hx =>
    (hx.keepBlocks fun d hd => r4.block d hd.1 hd.2.2.1 fun e => hd.2.2.2.2 e.symm).more fun d hd => ⟨Nat.lt_of_lt_of_le hd.1 r4.size, hd.2.1, hd.2.2.1, hd.2.2.2.1, fun e => by
      rcases r5 d e with e | e
      · exact hd.2.2.2.2 e
      · have := hd.1; omega⟩
  exact ⟨l', v', r2, ⟨h.b.other h.q h.ap.symm h.ne.symm r4, r3, h.hq, r1, h.ne, (h.ap.symm.turned h.q r5).symm, h.b.turn h.bel r4 h.bel.size, hk _ _ h.x, hk _ _ h.y⟩, r4⟩
end
/-- a deed: its kind, its spot -/
abbrev DeedQ := Int × Spt
def SDQ : Sh DeedQ := Sh.pair (Sh.int .i64) SP
theorem Rd.deedq {w : World} {B : Nat} {A : Option Addr} {l : List DeedQ} (h : Rd SDQ w B A l) {k : Nat} (hk : k < l.length) : ∃ ad d, A = some ad ∧ ad.block < B ∧ l[k]? = some d ∧ w.cell? (ad.add (k * 4)) = some (.int .i64 d.1) ∧ w.cell? ⟨(ad.add (k * 4)).block, (ad.add (k * 4)).off + 1, none⟩ = some (.int .u64 d.2.1.1) ∧ w.cell? ⟨(ad.add (k * 4)).block, (ad.add (k * 4)).off + 2, none⟩ = some (.int .u64 d.2.1.2) ∧ w.cell? ⟨(ad.add (k * 4)).block, (ad.add (k * 4)).off + 3, none⟩ = some (.int .i64 d.2.2) := by
  obtain ⟨ad, x, cs, e, hb, hx, hr, hc⟩ := h.at_ hk
  obtain ⟨c, d, rfl, hr1, hr2⟩ := hr
  obtain ⟨c', d', rfl, hr3, hr4⟩ := hr2
  obtain ⟨c2, d2, rfl, hr5, hr6⟩ := hr3
  have h1 : c = [.int .i64 x.1] := hr1
  have h2 : c2 = [.int .u64 x.2.1.1] := hr5
  have h3 : d2 = [.int .u64 x.2.1.2] := hr6
  have h4 : d' = [.int .i64 x.2.2] := hr4
  subst h1 h2 h3 h4
  have c0 := hc 0 _ rfl
  have c1 := hc 1 _ rfl
  have c2 := hc 2 _ rfl
  have c3 := hc 3 _ rfl
  rw [show SDQ.size = 4 from rfl, ← add_of_add] at c1 c2 c3
  refine ⟨ad, x, e, hb, hx, ?_, c1, c2, c3⟩
  simpa [SDQ, SP, SH, Sh.pair, Sh.int] using c0
end Go.Proofs.Ytknljldmjicfgae
