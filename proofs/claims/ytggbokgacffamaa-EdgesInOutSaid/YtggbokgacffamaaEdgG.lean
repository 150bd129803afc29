/-
  The package edges: rows of ints in a block of the call's own; the builtin clear. No condition.
-/
import Derived.Test.YtggbokgacffamaaEdgF
import Derived.Lib.SlBuf
namespace Go.Proofs.Ytggbokgacffamaa
open Go.RowKit

theorem fcsI (l : List Int) : fcs encI l = l.map (Value.int .i64) := by
  unfold fcs encI
  induction l with
  | nil => rfl
  | cons x l ih => simp [ih]
/-- a row of ints in a block of the call's own -/
def RowN (w : World) (base g n cap : Nat) (l : List Int) : Prop := w.ownsRow base 3 1 (.slice (some ⟨g, 0, none⟩) n cap) n (fcs encI l)
section
variable {w w' : World} {base g n cap : Nat} {l : List Int}
theorem RowN.len (h : RowN w base g n cap l) : l.length = n := by have := h.1; rw [fcsI, List.length_map] at this; omega
theorem RowN.blk (h : RowN w base g n cap l) : base ≤ g ∧ ∃ cur, Blk w g 3 cur ∧ cur.size = cap ∧ cur.toList.take n = l.map (Value.int .i64) ∧ n ≤ cap ∧ cap ≤ maxLen := by
  rcases h.2 with ⟨h, _⟩ | ⟨g', cap', cur, e, h0, h1, h2, h5, h3, h4⟩
  · cases h
  · injection e with e _ e3
    injection e with e
    injection e with e
    subst e e3
    rw [fcsI, Nat.mul_one] at h4
    exact ⟨h0, cur, h1, by rw [h3, Nat.mul_one], h4, h2, h5⟩
theorem RowN.of (h0 : base ≤ g) {cur : Array Value} (h1 : Blk w g 3 cur) (h2 : cur.size = cap) (h3 : cur.toList.take n = l.map (Value.int .i64)) (h4 : n ≤ cap) (h5 : cap ≤ maxLen) (hl : l.length = n) : RowN w base g n cap l :=
  ⟨by rw [fcsI, List.length_map, hl, Nat.mul_one], .inr ⟨g, cap, cur, rfl, h0, h1, h4, h5, by rw [h2, Nat.mul_one], by rw [fcsI, Nat.mul_one]; exact h3⟩⟩
theorem RowN.lt (h : RowN w base g n cap l) : g < w.heap.size := by obtain ⟨_, cur, h1, _⟩ := h.blk; exact h1.lt
theorem RowN.below {B : Nat} (h : RowN w base g n cap l) (hb : Below B w w') (hB : g < B) : RowN w' base g n cap l := by
  obtain ⟨h0, cur, h1, h3, h4, h2, h5⟩ := h.blk
  exact .of h0 ((hb.block g hB).trans h1) h3 h4 h2 h5 h.len
theorem RowN.cell (h : RowN w base g n cap l) {i : Nat} {x : Int} (hx : l[i]? = some x) : w.cell? ⟨g, i, none⟩ = some (.int .i64 x) := by
  obtain ⟨h0, cur, h1, h3, h4, _⟩ := h.blk
  have hu : (l.map (Value.int .i64))[i]? = some (.int .i64 x) := by rw [List.getElem?_map, hx]; rfl
  rw [h1.cell i, ← Array.getElem?_toList]
  rw [← h4, List.getElem?_take] at hu
  split at hu
  · exact hu
  · cases hu
theorem RowN.frozen (h : RowN w base g n cap l) (j : Nat) : w.frozen? ⟨g, j, none⟩ = false := by obtain ⟨_, cur, h1, _⟩ := h.blk; exact h1.frozen j
theorem RowN.set (h : RowN w base g n cap l) {i : Nat} (x : Int) : RowN (w.setCell ⟨g, i, none⟩ (.int .i64 x)) base g n cap (l.set i x) := by
  obtain ⟨h0, cur, h1, h3, h4, h2, h5⟩ := h.blk
  refine .of h0 (h1.set_ i (.int .i64 x)) (by simpa using h3) ?_ h2 h5 (by rw [List.length_set, h.len])
  rw [List.map_set, ← h4]
  simp only [Array.toList_setIfInBounds, List.take_set]
theorem RowN.take (h : RowN w base g n cap l) {i : Nat} (hi : i ≤ n) : RowN w base g i cap (l.take i) := by
  obtain ⟨h0, cur, h1, h3, h4, h2, h5⟩ := h.blk
  refine .of h0 h1 h3 ?_ (by omega) h5 (by rw [List.length_take, h.len]; omega)
  rw [List.map_take, ← h4, List.take_take, Nat.min_eq_left hi]
theorem RowN.rdr (h : RowN w base g n cap l) {R : Nat → Prop} (hR : R g) : RdR (Sh.int .i64) w R (some ⟨g, 0, none⟩) l :=
  flatI.mk_ (R := R) (ad := ⟨g, 0, none⟩) hR fun j u hu => by
    rw [add_mk, Nat.zero_add]
    rw [fcsI, List.getElem?_map, Option.map_eq_some_iff] at hu
    obtain ⟨x, hx, rfl⟩ := hu
    exact h.cell hx
end
end Go.Proofs.Ytggbokgacffamaa
