/-
  Rows of far ones in a block of the call's own. No condition.
-/
import Derived.Test.YtlnbeeflifmnjacSkY
namespace Go.Proofs.Ytlnbeeflifmnjac
set_option linter.unusedSimpArgs false
set_option linter.unusedVariables false
open Go.RowKit

theorem fcsF_set : ∀ (l : List Far) (i : Nat) (x : Far), i < l.length → fcs encFr (l.set i x) = ((fcs encFr l).set (i * 2) (.int .i64 (x.1.val : Nat))).set (i * 2 + 1) (.int .i64 (x.2.val : Nat))
  | [], i, x, h => by simp at h
  | y :: l, 0, x, h => by simp [fcs, encFr]
  | y :: l, i + 1, x, h => by
    have e := fcsF_set l i x (by simpa using h)
    rw [List.set_cons_succ, fcs_cons, e, fcs_cons, show (i + 1) * 2 = i * 2 + 1 + 1 by omega]
    simp [encFr]
theorem encFr_at {l : List Far} {i : Nat} {x : Far} (hx : l[i]? = some x) : (fcs encFr l)[i * 2]? = some (.int .i64 (x.1.val : Nat)) ∧ (fcs encFr l)[i * 2 + 1]? = some (.int .i64 (x.2.val : Nat)) :=
  ⟨flatFr.at_ hx (j := 0) (by decide), flatFr.at_ hx (j := 1) (by decide)⟩
/-- a row of far ones in a block of the call's own -/
def RowF (w : World) (base g n cap : Nat) (l : List Far) : Prop := w.ownsRow base 47 2 (.slice (some ⟨g, 0, none⟩) n cap) n (fcs encFr l)
section
variable {w w' : World} {base g n cap : Nat} {l : List Far}
theorem RowF.len (h : RowF w base g n cap l) : l.length = n := by have := h.1; rw [flatFr.clen] at this; exact Nat.eq_of_mul_eq_mul_right flatFr.pos this
theorem RowF.blk (h : RowF w base g n cap l) : base ≤ g ∧ ∃ cur, Blk w g 47 cur ∧ cur.size = cap * 2 ∧ cur.toList.take (n * 2) = fcs encFr l ∧ n ≤ cap ∧ cap ≤ maxLen := by
  rcases h.2 with ⟨h, _⟩ | ⟨g', cap', cur, e, h0, h1, h2, h5, h3, h4⟩
  · cases h
  · injection e with e _ e3
    injection e with e
    injection e with e
    subst e e3
    exact ⟨h0, cur, h1, h3, h4, h2, h5⟩
theorem RowF.lt (h : RowF w base g n cap l) : g < w.heap.size := by obtain ⟨_, cur, h1, _⟩ := h.blk; exact h1.lt
theorem RowF.below {B : Nat} (h : RowF w base g n cap l) (hb : Below B w w') (hB : g < B) : RowF w' base g n cap l := by
  obtain ⟨h0, cur, h1, h3, h4, h2, h5⟩ := h.blk
  exact ⟨h.1, .inr ⟨g, cap, cur, rfl, h0, (hb.block g hB).trans h1, h2, h5, h3, h4⟩⟩
theorem RowF.cells (h : RowF w base g n cap l) {i : Nat} {x : Far} (hx : l[i]? = some x) : w.cell? ⟨g, i * 2, none⟩ = some (.int .i64 (x.1.val : Nat)) ∧ w.cell? ⟨g, i * 2 + 1, none⟩ = some (.int .i64 (x.2.val : Nat)) := by
  obtain ⟨h0, cur, h1, h3, h4, _⟩ := h.blk
  obtain ⟨e0, e1⟩ := encFr_at hx
  have k : ∀ {j : Nat} {u : Value}, (fcs encFr l)[j]? = some u → w.cell? ⟨g, j, none⟩ = some u := fun {j u} hu => by
    rw [h1.cell j, ← Array.getElem?_toList]
    rw [← h4, List.getElem?_take] at hu
    split at hu
    · exact hu
    · cases hu
  exact ⟨k e0, k e1⟩
theorem RowF.frozen (h : RowF w base g n cap l) (j : Nat) : w.frozen? ⟨g, j, none⟩ = false := by obtain ⟨_, cur, h1, _⟩ := h.blk; exact h1.frozen j
theorem RowF.set (h : RowF w base g n cap l) {i : Nat} (hi : i < n) (x : Far) : RowF ((w.setCell ⟨g, i * 2, none⟩ (.int .i64 (x.1.val : Nat))).setCell ⟨g, i * 2 + 1, none⟩ (.int .i64 (x.2.val : Nat))) base g n cap (l.set i x) := by
  obtain ⟨h0, cur, h1, h3, h4, h2, h5⟩ := h.blk
  have k1 := h1.set_ (i * 2) (.int .i64 (x.1.val : Nat))
  have k2 := k1.set_ (i * 2 + 1) (.int .i64 (x.2.val : Nat))
  have hl := h.len
  refine ⟨by rw [flatFr.clen, List.length_set, hl]; rfl, .inr ⟨g, cap, _, rfl, h0, k2, h2, h5, by simpa using h3, ?_⟩⟩
  rw [fcsF_set _ _ _ (by omega), ← h4]
  simp only [Array.toList_setIfInBounds, List.take_set]
end
end Go.Proofs.Ytlnbeeflifmnjac
