/-
  The package rank: the reference's Sort. Conditions: the slice reads as a list of spots; at most a million of them.
-/
import Derived.Test.YtphbdffgeeicaabRnkO
import Derived.Deep.RegionHeld3
namespace Go.Proofs.Ytphbdffgeeicaab
set_option linter.unusedSimpArgs false
set_option linter.unusedVariables false
open Go.RowKit

/-- s, x put in at k, then r -/
def Mid (s : List Spt) (x : Spt) (k : Nat) (r : List Spt) : List Spt := s.take k ++ x :: (s.drop k ++ r)
theorem Mid_at {s r : List Spt} {x : Spt} {k : Nat} (h : k ≤ s.length) : (Mid s x k r)[k]? = some x := by
  unfold Mid
  rw [List.getElem?_append_right (by simp; omega)]
  simp [Nat.min_eq_left h]
theorem Mid_prev {s r : List Spt} {x y : Spt} {k : Nat} (hy : s[k]? = some y) : (Mid s x (k + 1) r)[k]? = some y := by
  have hl := (List.getElem?_eq_some_iff.1 hy).1
  unfold Mid
  rw [List.getElem?_append_left (by simp; omega), List.getElem?_take, if_pos (by omega), hy]
theorem Mid_set {s r : List Spt} {x y : Spt} {k : Nat} (hy : s[k]? = some y) : ((Mid s x (k + 1) r).set (k + 1) y).set k x = Mid s x k r := by
  obtain ⟨hl, e⟩ := List.getElem?_eq_some_iff.1 hy
  unfold Mid
  rw [take_snoc hy, List.drop_eq_getElem_cons hl, e, List.append_assoc]
  have ht : (s.take k).length = k := by simp; omega
  rw [List.set_append_right _ _ (by omega), ht, List.set_append_right _ _ (by omega), ht]
  simp
theorem Mid_start {s r : List Spt} {x : Spt} : Mid s x s.length r = s ++ x :: r := by simp [Mid]
theorem Mid_len {s r : List Spt} {x : Spt} {k : Nat} (h : k ≤ s.length) : (Mid s x k r).length = s.length + 1 + r.length := by simp [Mid]; omega
theorem Mid_end {s r : List Spt} {x : Spt} {k : Nat} : Mid s x k r = (s.take k ++ x :: s.drop k) ++ r := by simp [Mid]
theorem srtS_one (l : List Spt) : srtS (l.take 1) ++ l.drop 1 = l := by
  have : l.take 1 = srtS (l.take 1) := srt_eq swoS totS (List.Perm.refl _) (by
    rcases l with _ | ⟨a, l⟩
    · simp
    · simp)
  rw [← this, List.take_append_drop]
def RB (w : World) (base g n cap : Nat) (l : List Spt) (W : World) : Prop := RowS W base g n cap l ∧ Below w.heap.size w W
section
variable {w W W' : World} {base g n cap : Nat} {l : List Spt}
theorem RB.row (h : RB w base g n cap l W) : RowS W base g n cap l := And.left h
theorem RB.bel (h : RB w base g n cap l W) : Below w.heap.size w W := And.right h
theorem RB.step (h : RB w base g n cap l W) (hb : Below W.heap.size W W') : RB w base g n cap l W' := ⟨h.row.below hb h.row.lt, Below.step h.bel hb⟩
theorem RB.alloc (h : RB w base g n cap l W) (o : Obj) : RB w base g n cap l (W.alloc o) := h.step (below1 W o)
theorem RB.drew (h : RB w base g n cap l W) : RB w base g n cap l W.drew := ⟨h.row, h.bel.drew⟩
theorem RB.drewN (h : RB w base g n cap l W) (q : Nat) : RB w base g n cap l (W.drewN q) := ⟨h.row, ⟨h.bel.os, h.bel.tape, h.bel.output, h.bel.size, h.bel.block⟩⟩
theorem RB.set (h : RB w w.heap.size g n cap l W) {i : Nat} (hi : i < n) (x : Spt) : RB w w.heap.size g n cap (l.set i x) (((W.setCell ⟨g, i * 3, none⟩ (.int .u64 x.1.1)).setCell ⟨g, i * 3 + 1, none⟩ (.int .u64 x.1.2)).setCell ⟨g, i * 3 + 2, none⟩ (.int .i64 x.2)) := by
  refine ⟨h.row.set hi x, ?_⟩
  have hg := h.row.blk.1
  exact ((h.bel.setCell hg _).setCell hg _).setCell hg _
end
end Go.Proofs.Ytphbdffgeeicaab
