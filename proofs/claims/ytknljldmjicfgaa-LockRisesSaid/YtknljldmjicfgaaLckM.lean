/-
  The law LockPlays: the table and the document's, side by side. No condition.
-/
import Derived.Test.YtknljldmjicfgaaLckL
namespace Go.Proofs.Ytknljldmjicfgaa
open Go.RowKit

/-- blocks in which what the document's table refers to may lie -/
def FreeT (W : World) (T hb wb X d : Nat) : Prop := d < W.heap.size ∧ d ≠ T ∧ d ≠ hb ∧ d ≠ wb ∧ d ≠ X
/-- the table (state sa) and the document's (state sr), kept in the variable at X -/
structure PlT (w wr : World) (T hb wb X : Nat) (a b c : Value) (sa sr : Tab) : Prop where
  tab : TabAt wr w.heap.size T hb wb sa
  x : Blk wr X 28 #[a, b, c]
  ref : RefT wr (FreeT wr T hb wb X) sr (.agg #[a, b, c])
  bel : Below w.heap.size w wr
  hX : w.heap.size ≤ X
theorem tab_blk {W W' : World} {B T hb wb g : Nat} {s : Tab} {t : TypeId} {cs : Array Value} (h : TabAt W B T hb wb s) (hg : Blk W g t cs) (ht : t ≠ 46) (hU : TurnT W W' T hb wb) : Blk W' g t cs := by
  refine (hU.block g hg.lt (fun e => ?_) (fun e => ?_) (fun e => ?_)).trans hg
  · subst e; exact Blk.ne_ h.t hg (fun e => ht e.symm) rfl
  · subst e; obtain ⟨es, cl, h1, _⟩ := h.h; unfold Blk at hg; rw [h1] at hg; cases hg
  · subst e; obtain ⟨es, cl, h1, _⟩ := h.ws; unfold Blk at hg; rw [h1] at hg; cases hg
section
variable {w wr wr' : World} {T hb wb X : Nat} {a b c a' b' c' : Value} {sa sa' sr sr' : Tab}
theorem PlT.lt (h : PlT w wr T hb wb X a b c sa sr) : ∀ d, FreeT wr T hb wb X d → d < wr.heap.size := fun _ hd => hd.1
theorem PlT.step (h : PlT w wr T hb wb X a b c sa sr) (hbl : Below wr.heap.size wr wr') : PlT w wr' T hb wb X a b c sa sr :=
  ⟨h.tab.below hbl, h.x.below hbl h.x.lt, (h.ref.below hbl h.lt).more fun _ hd => ⟨Nat.lt_of_lt_of_le hd.1 hbl.size, hd.2⟩, Below.step h.bel hbl, h.hX⟩
theorem PlT.drew (h : PlT w wr T hb wb X a b c sa sr) : PlT w wr.drew T hb wb X a b c sa sr := h.step (Below.refl _ _).drew
theorem PlT.call (h : PlT w wr T hb wb X a b c sa sr) : RefT wr (fun b => b < wr.heap.size) sr (.agg #[a, b, c]) := h.ref.more fun _ hd => hd.1
theorem PlT.grow (h : PlT w wr T hb wb X a b c sa sr) (hs : wr.heap.size ≤ wr'.heap.size) {d : Nat} (hd : Grow (FreeT wr T hb wb X) wr wr' d) : FreeT wr' T hb wb X d := by
  rcases hd with hd | hd
  · exact ⟨Nat.lt_of_lt_of_le hd.1 hs, hd.2⟩
  · obtain ⟨l1, l2, l3⟩ := h.tab.lt
    have l4 := h.x.lt
    exact ⟨hd.2, by omega, by omega, by omega, by omega⟩
theorem PlT.neX (h : PlT w wr T hb wb X a b c sa sr) : X ≠ T ∧ X ≠ hb ∧ X ≠ wb := by
  have hx := h.x
  refine ⟨fun e => ?_, fun e => ?_, fun e => ?_⟩
  · subst e; exact Blk.ne_ h.tab.t hx (by decide) rfl
  · subst e; obtain ⟨es, cl, h1, _⟩ := h.tab.h; unfold Blk at hx; rw [h1] at hx; cases hx
  · subst e; obtain ⟨es, cl, h1, _⟩ := h.tab.ws; unfold Blk at hx; rw [h1] at hx; cases hx
theorem PlT.turned (h : PlT w wr T hb wb X a b c sa sr) (ht : TurnT wr wr' T hb wb) (ha : TabAt wr' w.heap.size T hb wb sa') : PlT w wr' T hb wb X a b c sa' sr :=
  ⟨ha, tab_blk h.tab h.x (by decide) ht, (h.ref.keep fun d hd => ht.block d hd.1 hd.2.1 hd.2.2.1 hd.2.2.2.1).more fun d hd => ⟨Nat.lt_of_lt_of_le hd.1 ht.size, hd.2⟩, h.tab.turn h.bel ht h.bel.size, h.hX⟩
theorem PlT.storeX (h : PlT w wr T hb wb X a b c sa sr) (hr : RefT wr (FreeT wr T hb wb X) sr' (.agg #[a', b', c'])) :
    PlT w (((wr.setCell ⟨X, 0, none⟩ a').setCell ⟨X, 1, none⟩ b').setCell ⟨X, 2, none⟩ c') T hb wb X a' b' c' sa sr' := by
  have hk : ∀ d, d ≠ X → (((wr.setCell ⟨X, 0, none⟩ a').setCell ⟨X, 1, none⟩ b').setCell ⟨X, 2, none⟩ c').heap[d]? = wr.heap[d]? := fun d hd => by
    rw [Below.heap_setCell _ _ _ _ hd, Below.heap_setCell _ _ _ _ hd, Below.heap_setCell _ _ _ _ hd]
  have hs : (((wr.setCell ⟨X, 0, none⟩ a').setCell ⟨X, 1, none⟩ b').setCell ⟨X, 2, none⟩ c').heap.size = wr.heap.size := by simp
  obtain ⟨n1, n2, n3⟩ := h.neX
  exact ⟨h.tab.blocks (hk _ n1.symm) (hk _ n2.symm) (hk _ n3.symm), ((h.x.set_ 0 a').set_ 1 b').set_ 2 c', (hr.keep fun d hd => hk d hd.2.2.2.2).more fun d hd => ⟨by rw [hs]; exact hd.1, hd.2⟩, ((h.bel.setCell h.hX _).setCell h.hX _).setCell h.hX _, h.hX⟩
theorem PlT.xs (h : PlT w wr T hb wb X a b c sa sr) : wr.cell? ⟨X, 0, none⟩ = some a ∧ wr.cell? ⟨X, 1, none⟩ = some b ∧ wr.cell? ⟨X, 2, none⟩ = some c :=
  ⟨by rw [h.x.cell]; rfl, by rw [h.x.cell]; rfl, by rw [h.x.cell]; rfl⟩
end
/-- a deed: is it a giving back, a worker, a mutex -/
abbrev Deed := Bool × Int × Int
def SDeed : Sh Deed := Sh.pair Sh.bool (Sh.pair (Sh.int .i64) (Sh.int .i64))
theorem Rd.deed {w : World} {B : Nat} {A : Option Addr} {l : List Deed} (h : Rd SDeed w B A l) {k : Nat} (hk : k < l.length) : ∃ ad d, A = some ad ∧ ad.block < B ∧ l[k]? = some d ∧ w.cell? (ad.add (k * 3)) = some (.bool d.1) ∧ w.cell? ⟨(ad.add (k * 3)).block, (ad.add (k * 3)).off + 1, none⟩ = some (.int .i64 d.2.1) ∧ w.cell? ⟨(ad.add (k * 3)).block, (ad.add (k * 3)).off + 2, none⟩ = some (.int .i64 d.2.2) := by
  obtain ⟨ad, x, cs, e, hb, hx, hr, hc⟩ := h.at_ hk
  obtain ⟨c, d, rfl, hr1, hr2⟩ := hr
  obtain ⟨c', d', rfl, hr3, hr4⟩ := hr2
  have h1 : c = [.bool x.1] := hr1
  have h2 : c' = [.int .i64 x.2.1] := hr3
  have h3 : d' = [.int .i64 x.2.2] := hr4
  subst h1 h2 h3
  have c0 := hc 0 _ rfl
  have c1 := hc 1 _ rfl
  have c2 := hc 2 _ rfl
  rw [show SDeed.size = 3 from rfl, ← add_of_add] at c1 c2
  exact ⟨ad, x, e, hb, hx, by simpa [SDeed, Sh.pair, Sh.int, Sh.bool] using c0, c1, c2⟩
def stepA (s : Tab) (d : Deed) : Tab × Bool := if d.1 = true then giveF s d.2.1 d.2.2 else takeF s d.2.1 d.2.2
def stepR (s : Tab) (d : Deed) : Tab × Bool := if d.1 = true then giveF s d.2.1 d.2.2 else takeR s d.2.1 d.2.2
theorem Sim.step {s r : Tab} (h : Sim s r) (d : Deed) : Sim (stepA s d).1 (stepR r d).1 ∧ (stepR r d).2 = (stepA s d).2 := by
  unfold stepA stepR
  by_cases e : d.1 = true
  · simp only [if_pos e]; exact h.give _ _
  · simp only [if_neg e]; exact h.take _ _
theorem Tab.Ok.step {s : Tab} (h : s.Ok) (d : Deed) : (stepA s d).1.Ok := by
  unfold stepA
  split
  · exact h.give _ _
  · exact h.take _ _
theorem stepR_len {s : Tab} {k : Nat} (h : s.h.length ≤ k ∧ s.ws.length ≤ k) (d : Deed) : (stepR s d).1.h.length ≤ k + 1 ∧ (stepR s d).1.ws.length ≤ k + 1 := by
  have d1 : ∀ (m : List (Int × Int)) (x : Int), (dropF m x).length ≤ m.length := fun m x => List.length_filter_le _ _
  have a1 := d1 s.h d.2.2
  have a2 := d1 s.ws d.2.1
  unfold stepR giveF takeR
  split
  · split
    · simp only; omega
    · simp only; omega
  · split
    · simp only; omega
    · split
      · simp only [List.length_append, List.length_cons, List.length_nil]; omega
      · simp only [List.length_append, List.length_cons, List.length_nil]; omega
/-- what the rest of a round needs -/
structure PS (w : World) (T hb wb X g : Nat) (a b c : Value) (sa sr : Tab) (d : Deed) (W : World) : Prop where
  pl : PlT w W T hb wb X a b c sa sr
  g : Blk W g 30 #[.bool d.1, .int .i64 d.2.1, .int .i64 d.2.2]
section
variable {w W W' : World} {T hb wb X g : Nat} {a b c : Value} {sa sr : Tab} {d : Deed}
theorem PS.step (h : PS w T hb wb X g a b c sa sr d W) (hbl : Below W.heap.size W W') : PS w T hb wb X g a b c sa sr d W' := ⟨h.pl.step hbl, h.g.below hbl h.g.lt⟩
theorem PS.drew (h : PS w T hb wb X g a b c sa sr d W) : PS w T hb wb X g a b c sa sr d W.drew := h.step (Below.refl _ _).drew
theorem PS.gs (h : PS w T hb wb X g a b c sa sr d W) : W.cell? ⟨g, 0, none⟩ = some (.bool d.1) ∧ W.cell? ⟨g, 1, none⟩ = some (.int .i64 d.2.1) ∧ W.cell? ⟨g, 2, none⟩ = some (.int .i64 d.2.2) :=
  ⟨by rw [h.g.cell]; rfl, by rw [h.g.cell]; rfl, by rw [h.g.cell]; rfl⟩
end
end Go.Proofs.Ytknljldmjicfgaa
