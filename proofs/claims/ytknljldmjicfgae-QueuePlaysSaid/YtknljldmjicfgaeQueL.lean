/-
  Several heaps side by side: what one turns leaves the others. No condition.
-/
import Derived.Test.YtknljldmjicfgaeQueK
namespace Go.Proofs.Ytknljldmjicfgae
set_option linter.unusedSimpArgs false
set_option linter.unusedVariables false
open Go.RowKit

/-- two slices have no block of their own in common -/
def Apart (v v2 : Value) : Prop := ∀ d, v.ownBlock = some d → v2.ownBlock ≠ some d
theorem Apart.symm {v v2 : Value} (h : Apart v v2) : Apart v2 v := fun d h2 h1 => h d h1 h2
theorem Apart.nil (v : Value) : Apart (.slice none 0 0) v := fun d h => by simp [Value.ownBlock] at h
section
variable {w w' : World} {B B2 Q Q2 : Nat} {t t2 : TypeId} {ex ex2 : Array Value} {f f2 : FuncId} {lt : Spt → Spt → Bool} {v v2 : Value} {l l2 m : List Spt}
theorem HpAt.other (h : HpAt w B Q t ex f v l) (h2 : HpAt w B2 Q2 t2 ex2 f2 v2 l2) (ap : Apart v v2) (hQ : Q ≠ Q2) (ht : TurnH w w' Q v) : HpAt w' B2 Q2 t2 ex2 f2 v2 l2 := by
  have n1 := own_blk_ne h.own h2.q h2.ne
  have n2 := own_blk_ne h2.own h.q h.ne
  refine ⟨(ht.block Q2 h2.q.lt (Ne.symm hQ) (fun e => n1 e.symm)).trans h2.q, own_keep h2.own fun g hg => ht.block g (h2.own.lt g hg).2 (fun e => n2 (e ▸ hg)) (fun e => ap g e.symm hg), h2.ne, h2.hQ⟩
/-- a block of another type than a spot's and the heap's stays, and one that neither is -/
theorem HpAt.blk {g : Nat} {u : TypeId} {cs : Array Value} (ht : TurnH w w' Q v) (hg : Blk w g u cs) (h1 : g ≠ Q) (h2 : v.ownBlock ≠ some g) : Blk w' g u cs :=
  (ht.block g hg.lt h1 (fun e => h2 e.symm)).trans hg
theorem Apart.turned {v' : Value} (h2 : HpAt w B2 Q2 t2 ex2 f2 v2 l2) (ap : Apart v v2) (h5 : ∀ d, v'.ownBlock = some d → v.ownBlock = some d ∨ w.heap.size ≤ d) : Apart v' v2 := fun d hd h => by
  rcases h5 d hd with e | e
  · exact ap d e h
  · have := (h2.own.lt d h).2; omega
/-- a heap has turned: the heap, and another one beside it -/
theorem HpDone.beside (h : HpAt w B Q t ex f v l) (h2 : HpAt w B2 Q2 t2 ex2 f2 v2 l2) (ap : Apart v v2) (hQ : Q ≠ Q2) (hd : HpDone w w' B Q t ex f lt v m) :
    ∃ (l' : List Spt) (v' : Value), Heap lt l' ∧ l'.Perm m ∧ HpAt w' B Q t ex f v' l' ∧ HpAt w' B2 Q2 t2 ex2 f2 v2 l2 ∧ Apart v' v2 ∧ TurnH w w' Q v ∧ ∀ d, v'.ownBlock = some d → v.ownBlock = some d ∨ w.heap.size ≤ d := by
  obtain ⟨l', v', r1, r2, r3, r4, r5⟩ := hd
  exact ⟨l', v', r1, r2, r3, h.other h2 ap hQ r4, ap.turned h2 r5, r4, r5⟩
end
/-- three heaps side by side: a queue and two best lists, all from block B on, and what lies in memory beside them -/
structure Tri (w0 w : World) (Q Q2 Q3 k2 k3 : Nat) (v v2 v3 : Value) (l l2 l3 : List Spt) : Prop where
  q : QAt w w0.heap.size Q v l
  b : BAt w w0.heap.size Q2 k2 v2 l2
  c : BAt w w0.heap.size Q3 k3 v3 l3
  hq : Heap sptLt l
  hb : Heap sptGt l2
  hc : Heap sptGt l3
  n12 : Q ≠ Q2
  n13 : Q ≠ Q3
  n23 : Q2 ≠ Q3
  a12 : Apart v v2
  a13 : Apart v v3
  a23 : Apart v2 v3
  bel : Below w0.heap.size w0 w
section
variable {w0 w w' : World} {Q Q2 Q3 k2 k3 : Nat} {v v2 v3 : Value} {l l2 l3 m : List Spt}
theorem Tri.below (h : Tri w0 w Q Q2 Q3 k2 k3 v v2 v3 l l2 l3) (hb : Below w.heap.size w w') : Tri w0 w' Q Q2 Q3 k2 k3 v v2 v3 l l2 l3 :=
  ⟨h.q.below hb, h.b.below hb, h.c.below hb, h.hq, h.hb, h.hc, h.n12, h.n13, h.n23, h.a12, h.a13, h.a23, Below.step h.bel hb⟩
/-- the queue has turned -/
theorem Tri.q_ (h : Tri w0 w Q Q2 Q3 k2 k3 v v2 v3 l l2 l3) (hd : QDone w w' w0.heap.size Q v m) : ∃ l' v', l'.Perm m ∧ Tri w0 w' Q Q2 Q3 k2 k3 v' v2 v3 l' l2 l3 ∧ TurnH w w' Q v ∧ ∀ d, v'.ownBlock = some d → v.ownBlock = some d ∨ w.heap.size ≤ d := by
  obtain ⟨l', v', r1, r2, r3, r4, r5⟩ := hd
  exact ⟨l', v', r2, ⟨r3, h.q.other h.b h.a12 h.n12 r4, h.q.other h.c h.a13 h.n13 r4, r1, h.hb, h.hc, h.n12, h.n13, h.n23, h.a12.turned h.b r5, h.a13.turned h.c r5, h.a23, h.q.turn h.bel r4 h.bel.size⟩, r4, r5⟩
/-- the first best list has turned -/
theorem Tri.b_ (h : Tri w0 w Q Q2 Q3 k2 k3 v v2 v3 l l2 l3) (hd : BDone w w' w0.heap.size Q2 k2 v2 m) : ∃ l' v', l'.Perm m ∧ Tri w0 w' Q Q2 Q3 k2 k3 v v' v3 l l' l3 ∧ TurnH w w' Q2 v2 ∧ ∀ d, v'.ownBlock = some d → v2.ownBlock = some d ∨ w.heap.size ≤ d := by
  obtain ⟨l', v', r1, r2, r3, r4, r5⟩ := hd
  exact ⟨l', v', r2, ⟨h.b.other h.q h.a12.symm h.n12.symm r4, r3, h.b.other h.c h.a23 h.n23 r4, h.hq, r1, h.hc, h.n12, h.n13, h.n23, (h.a12.symm.turned h.q r5).symm, h.a13, h.a23.turned h.c r5, h.b.turn h.bel r4 h.bel.size⟩, r4, r5⟩
/-- the second best list has turned -/
theorem Tri.c_ (h : Tri w0 w Q Q2 Q3 k2 k3 v v2 v3 l l2 l3) (hd : BDone w w' w0.heap.size Q3 k3 v3 m) : ∃ l' v', l'.Perm m ∧ Tri w0 w' Q Q2 Q3 k2 k3 v v2 v' l l2 l' ∧ TurnH w w' Q3 v3 ∧ ∀ d, v'.ownBlock = some d → v3.ownBlock = some d ∨ w.heap.size ≤ d := by
  obtain ⟨l', v', r1, r2, r3, r4, r5⟩ := hd
  exact ⟨l', v', r2, ⟨h.c.other h.q h.a13.symm h.n13.symm r4, h.c.other h.b h.a23.symm h.n23.symm r4, r3, h.hq, h.hb, r1, h.n12, h.n13, h.n23, h.a12, (h.a13.symm.turned h.q r5).symm, (h.a23.symm.turned h.b r5).symm, h.c.turn h.bel r4 h.bel.size⟩, r4, r5⟩
end
end Go.Proofs.Ytknljldmjicfgae
