/-
  Rows of words in a block of the call's own. No condition.
-/
import Derived.Test.YtlnbeeflifmnjacRowN
namespace Go.Proofs.Ytlnbeeflifmnjac
set_option linter.unusedSimpArgs false
set_option linter.unusedVariables false
open Go.RowKit

def encU (x : Int) : List Value := [.int .u64 x]
theorem flatU : Flat (Sh.int .u64) encU := flatInt .u64
theorem info_word : (Try.prog.info? 23).map (fun i => (i.zero, i.size, i.bytes)) = some (some (.int .u64 0), 1, 8) := by kernel_rfl
theorem fcsU (l : List Int) : fcs encU l = l.map (Value.int .u64) := by
  unfold fcs encU
  induction l with
  | nil => rfl
  | cons x l ih => simp [ih]
theorem fcsU_snoc (l : List Int) (x : Int) : fcs encU (l ++ [x]) = fcs encU l ++ [.int .u64 x] := fcs_snoc l x
/-- a row of words in a block of the call's own -/
def RowU (w : World) (base g n cap : Nat) (l : List Int) : Prop := w.ownsRow base 23 1 (.slice (some ⟨g, 0, none⟩) n cap) n (fcs encU l)
section
variable {w w' : World} {base g n cap : Nat} {l : List Int}
theorem RowU.len (h : RowU w base g n cap l) : l.length = n := by have := h.1; rw [fcsU, List.length_map] at this; omega
theorem RowU.blk (h : RowU w base g n cap l) : base ≤ g ∧ ∃ cur, Blk w g 23 cur ∧ cur.size = cap ∧ cur.toList.take n = l.map (Value.int .u64) ∧ n ≤ cap ∧ cap ≤ maxLen := by
  rcases h.2 with ⟨h, _⟩ | ⟨g', cap', cur, e, h0, h1, h2, h5, h3, h4⟩
  · cases h
  · injection e with e _ e3
    injection e with e
    injection e with e
    subst e e3
    rw [fcsU, Nat.mul_one] at h4
    exact ⟨h0, cur, h1, by rw [h3, Nat.mul_one], h4, h2, h5⟩
theorem RowU.of (h0 : base ≤ g) {cur : Array Value} (h1 : Blk w g 23 cur) (h2 : cur.size = cap) (h3 : cur.toList.take n = l.map (Value.int .u64)) (h4 : n ≤ cap) (h5 : cap ≤ maxLen) (hl : l.length = n) : RowU w base g n cap l :=
  ⟨by rw [fcsU, List.length_map, hl, Nat.mul_one], .inr ⟨g, cap, cur, rfl, h0, h1, h4, h5, by rw [h2, Nat.mul_one], by rw [fcsU, Nat.mul_one]; exact h3⟩⟩
theorem RowU.lt (h : RowU w base g n cap l) : g < w.heap.size := by obtain ⟨_, cur, h1, _⟩ := h.blk; exact h1.lt
theorem RowU.below {B : Nat} (h : RowU w base g n cap l) (hb : Below B w w') (hB : g < B) : RowU w' base g n cap l := by
  obtain ⟨h0, cur, h1, h3, h4, h2, h5⟩ := h.blk
  exact .of h0 ((hb.block g hB).trans h1) h3 h4 h2 h5 h.len
theorem RowU.cell (h : RowU w base g n cap l) {i : Nat} {x : Int} (hx : l[i]? = some x) : w.cell? ⟨g, i, none⟩ = some (.int .u64 x) := by
  obtain ⟨h0, cur, h1, h3, h4, _⟩ := h.blk
  have hu : (l.map (Value.int .u64))[i]? = some (.int .u64 x) := by rw [List.getElem?_map, hx]; rfl
  rw [h1.cell i, ← Array.getElem?_toList]
  rw [← h4, List.getElem?_take] at hu
  split at hu
  · exact hu
  · cases hu
theorem RowU.frozen (h : RowU w base g n cap l) (j : Nat) : w.frozen? ⟨g, j, none⟩ = false := by obtain ⟨_, cur, h1, _⟩ := h.blk; exact h1.frozen j
theorem RowU.set (h : RowU w base g n cap l) {i : Nat} (x : Int) : RowU (w.setCell ⟨g, i, none⟩ (.int .u64 x)) base g n cap (l.set i x) := by
  obtain ⟨h0, cur, h1, h3, h4, h2, h5⟩ := h.blk
  refine .of h0 (h1.set_ i (.int .u64 x)) (by simpa using h3) ?_ h2 h5 (by rw [List.length_set, h.len])
  rw [List.map_set, ← h4]
  simp only [Array.toList_setIfInBounds, List.take_set]
theorem RowU.take (h : RowU w base g n cap l) {i : Nat} (hi : i ≤ n) : RowU w base g i cap (l.take i) := by
  obtain ⟨h0, cur, h1, h3, h4, h2, h5⟩ := h.blk
  refine .of h0 h1 h3 ?_ (by omega) h5 (by rw [List.length_take, h.len]; omega)
  rw [List.map_take, ← h4, List.take_take, Nat.min_eq_left hi]
theorem RowU.rdr (h : RowU w base g n cap l) {R : Nat → Prop} (hR : R g) : RdR (Sh.int .u64) w R (some ⟨g, 0, none⟩) l :=
  flatU.mk_ (R := R) (ad := ⟨g, 0, none⟩) hR fun j u hu => by
    rw [add_mk, Nat.zero_add]
    rw [fcsU, List.getElem?_map, Option.map_eq_some_iff] at hu
    obtain ⟨x, hx, rfl⟩ := hu
    exact h.cell hx
end
end Go.Proofs.Ytlnbeeflifmnjac
