/-
  The package recall: slices.DeleteFunc at hits, and Missing. Conditions: the slices read as lists of hits.
-/
import Derived.Test.YtggbokgacffamabRecK
import Derived.Lib.SlBuf
namespace Go.Proofs.Ytggbokgacffamab
open Go.RowKit ChangeMaps

/-- a block that begins with these hits -/
def RowG (w : World) (g cap : Nat) (l : List Hit) : Prop := ∃ cur : Array Value, w.heap[g]? = some (.cells cur 36 (0, 0)) ∧ cur.size = cap * 2 ∧ cur.toList.take (l.length * 2) = hcs l ∧ l.length ≤ cap
theorem hcs_set (l : List Hit) (i : Nat) (x : Hit) : hcs (l.set i x) = if i < l.length then ((hcs l).set (i * 2) (.int .u64 x.1)).set (i * 2 + 1) (.int .u64 x.2) else hcs l := by
  induction l generalizing i with
  | nil => simp [hcs]
  | cons y l ih =>
    rcases i with _ | i
    · simp [hcs]
    · have e := ih i
      simp only [hcs] at e
      simp only [hcs, List.set_cons_succ, List.flatMap_cons, List.length_cons, e, show (i + 1) * 2 = i * 2 + 1 + 1 by omega]
      by_cases h : i < l.length
      · rw [if_pos h, if_pos (by omega)]; simp
      · rw [if_neg h, if_neg (by omega)]
section
variable {w w' : World} {g cap : Nat} {l : List Hit}
theorem RowG.lt (h : RowG w g cap l) : g < w.heap.size := by
  obtain ⟨cur, h1, _⟩ := h
  exact (Array.getElem?_eq_some_iff.1 h1).1
theorem RowG.of_own {base n : Nat} (h : w.ownsRow base 36 2 (.slice (some ⟨g, 0, none⟩) n cap) n (hcs l)) : RowG w g cap l := by
  have hl := h.1
  rw [hcs_len] at hl
  obtain rfl : l.length = n := by omega
  rcases h.2 with ⟨h, _⟩ | ⟨g', cap', cur, e, _, h1, h2, _, h3, h4⟩
  · cases h
  · injection e with e _ e3
    injection e with e
    injection e with e
    subst e e3
    exact ⟨cur, h1, h3, h4, h2⟩
theorem RowG.below {B : Nat} (h : RowG w g cap l) (hb : Below B w w') (hB : g < B) : RowG w' g cap l := by
  obtain ⟨cur, h1, h2⟩ := h
  exact ⟨cur, (hb.block g hB).trans h1, h2⟩
theorem RowG.cell (h : RowG w g cap l) {j : Nat} {u : Value} (hu : (hcs l)[j]? = some u) : w.cell? ⟨g, j, none⟩ = some u := by
  obtain ⟨cur, h1, h2, h3, h4⟩ := h
  rw [Blk.cell (t := 36) (cs := cur) h1 j, ← Array.getElem?_toList]
  rw [← h3, List.getElem?_take] at hu
  split at hu
  · exact hu
  · cases hu
theorem RowG.frozen (h : RowG w g cap l) (j : Nat) : w.frozen? ⟨g, j, none⟩ = false := by
  obtain ⟨cur, h1, _⟩ := h
  exact Blk.frozen (t := 36) (cs := cur) h1 j
theorem RowG.rd (h : RowG w g cap l) {B : Nat} (hB : g < B) : Rd SH w B (some ⟨g, 0, none⟩) l :=
  hitsR_mk (R := fun b => b < B) (ad := ⟨g, 0, none⟩) hB fun j u hu => by rw [add_mk, Nat.zero_add]; exact h.cell hu
theorem RowG.set (h : RowG w g cap l) {i : Nat} (x : Hit) (hi : i < l.length) : RowG ((w.setCell ⟨g, i * 2, none⟩ (.int .u64 x.1)).setCell ⟨g, i * 2 + 1, none⟩ (.int .u64 x.2)) g cap (l.set i x) := by
  obtain ⟨cur, h1, h2, h3, h4⟩ := h
  have k1 := Blk.set_ (t := 36) (cs := cur) h1 (i * 2) (.int .u64 x.1)
  have k2 := Blk.set_ k1 (i * 2 + 1) (.int .u64 x.2)
  refine ⟨_, k2, by simpa using h2, ?_, by simpa using h4⟩
  rw [hcs_set, if_pos hi, ← h3]
  simp only [Array.toList_setIfInBounds, List.length_set, List.take_set]
theorem RowG.take (h : RowG w g cap l) (i : Nat) : RowG w g cap (l.take i) := by
  obtain ⟨cur, h1, h2, h3, h4⟩ := h
  refine ⟨cur, h1, h2, ?_, by rw [List.length_take]; omega⟩
  have e : ∀ (l : List Hit) (i : Nat), hcs (l.take i) = (hcs l).take (i * 2) := by
    intro l
    induction l with
    | nil => intro i; simp [hcs]
    | cons y l ih =>
      intro i
      rcases i with _ | i
      · simp [hcs]
      · have e := ih i
        simp only [hcs] at e
        simp [hcs, show (i + 1) * 2 = i * 2 + 1 + 1 by omega, e]
  rw [e, ← h3, List.take_take, List.length_take]
  congr 1
  omega
theorem zeros2 (n : Nat) : ∀ v ∈ (Builtin.zeroCells #[Value.int .u64 0, Value.int .u64 0] n).toList, v = .int .u64 0 := by
  intro v hv
  simp only [Builtin.zeroCells, Array.toList_map, List.mem_map] at hv
  obtain ⟨i, _, rfl⟩ := hv
  have : i % #[Value.int .u64 0, Value.int .u64 0].size = 0 ∨ i % #[Value.int .u64 0, Value.int .u64 0].size = 1 := by simp; omega
  rcases this with h | h <;> rw [h] <;> rfl
theorem RowG.clear (h : RowG w g cap l) {i : Nat} (hi : i < l.length) (ty : TypeId) (c : Nat) : ∃ w', (Builtin.clear_ #[29] ty #[.slice (some ⟨g, i * 2, none⟩) (l.length - i) c]).run Try.prog w = .ok (.tuple #[]) w' ∧ (∀ R : Nat → Prop, R g → RdR SH w' R (some ⟨g, 0, none⟩) (l.take i)) ∧ Below g w w' := by
  obtain ⟨m, hm⟩ : ∃ m, l.length - i = m + 1 := ⟨l.length - i - 1, by omega⟩
  have hzl : (Builtin.zeroCells #[Value.int .u64 0, Value.int .u64 0] (l.length - i)).toList.length = (l.length - i) * 2 := by simp [Builtin.zeroCells]
  have hv : ∀ W : World, (zeroValue 36).run Try.prog W = .ok (.agg #[.int .u64 0, .int .u64 0]) W := fun W => by kernel_rfl
  have hst := run_storeCells_cells (P := Try.prog) g (i * 2) (Builtin.zeroCells #[Value.int .u64 0, Value.int .u64 0] (l.length - i)).toList 0 w
    (fun j hj => by
      rw [hzl] at hj
      have : i * 2 + 0 + j < (hcs l).length := by rw [hcs_len]; omega
      rw [h.cell (List.getElem?_eq_getElem this)]; rfl)
    (fun j _ => h.frozen _) (fun v hv => by rw [zeros2 _ v hv]; rfl)
  simp only [Nat.add_zero] at hst
  refine ⟨w.setCells g (i * 2) (Builtin.zeroCells #[Value.int .u64 0, Value.int .u64 0] (l.length - i)).toList, ?_, fun R hR => ?_, Lib.below_setCells _ (Nat.le_refl _) _ _ (Below.refl _ _)⟩
  · rw [hm] at hst ⊢
    simp [Builtin.clear_, run_underlying Try.underlying29, hv, Value.cells, hst]
  · refine hitsR_mk (R := R) (ad := ⟨g, 0, none⟩) hR fun j u hu => ?_
    have hj : j < i * 2 := by
      have := (List.getElem?_eq_some_iff.1 hu).1
      rw [hcs_len, List.length_take] at this; omega
    rw [add_mk, Nat.zero_add, World.cell?_setCells_out g _ _ _ ⟨g, j, none⟩ (fun _ _ => .inl hj)]
    exact (h.take i).cell hu
end
end Go.Proofs.Ytggbokgacffamab
