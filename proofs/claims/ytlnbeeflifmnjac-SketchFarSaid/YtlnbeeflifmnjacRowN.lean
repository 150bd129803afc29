/-
  Rows of ints in a block of the call's own; the builtin clear. No condition.
-/
import Derived.Test.YtlnbeeflifmnjacFlat
import Derived.Test.YtlnbeeflifmnjacLib3
import Derived.Test.YtlnbeeflifmnjacChecked
import Derived.Lib.SlBuf
namespace Go.Proofs.Ytlnbeeflifmnjac
set_option linter.unusedSimpArgs false
set_option linter.unusedVariables false
open Go.RowKit

def encI (x : Int) : List Value := [.int .i64 x]
theorem flatI : Flat (Sh.int .i64) encI := flatInt .i64
theorem info_intE : (Try.prog.info? 3).map (fun i => (i.zero, i.size, i.bytes)) = some (some (.int .i64 0), 1, 8) := by kernel_rfl
theorem own_start (w : World) (e : TypeId) (k : Nat) : (w.alloc (.cells #[] e)).ownsRow w.heap.size e k (.slice (some ⟨w.heap.size, 0, none⟩) 0 0) 0 [] :=
  ⟨by simp, .inr ⟨w.heap.size, 0, #[], rfl, Nat.le_refl _, heap_alloc_new _ _, Nat.le_refl _, Nat.zero_le _, by simp, by simp⟩⟩
theorem fcsI (l : List Int) : fcs encI l = l.map (Value.int .i64) := by
  unfold fcs encI
  induction l with
  | nil => rfl
  | cons x l ih => simp [ih]
/-- a row of ints in a block of the call's own -/
def RowN (w : World) (base g n cap : Nat) (l : List Int) : Prop := w.ownsRow base 3 1 (.slice (some ⟨g, 0, none⟩) n cap) n (fcs encI l)
section
variable {w w' : World} {base g n cap : Nat} {l : List Int}
theorem RowN.len (h : RowN w base g n cap l) : l.length = n := by have := h.1; rw [fcsI, List.length_map] at this; omega
theorem RowN.blk (h : RowN w base g n cap l) : base ≤ g ∧ ∃ cur, Blk w g 3 cur ∧ cur.size = cap ∧ cur.toList.take n = l.map (Value.int .i64) ∧ n ≤ cap ∧ cap ≤ maxLen := by
  rcases h.2 with ⟨h, _⟩ | ⟨g', cap', cur, e, h0, h1, h2, h5, h3, h4⟩
  · cases h
  · injection e with e _ e3
    injection e with e
    injection e with e
    subst e e3
    rw [fcsI, Nat.mul_one] at h4
    exact ⟨h0, cur, h1, by rw [h3, Nat.mul_one], h4, h2, h5⟩
theorem RowN.of (h0 : base ≤ g) {cur : Array Value} (h1 : Blk w g 3 cur) (h2 : cur.size = cap) (h3 : cur.toList.take n = l.map (Value.int .i64)) (h4 : n ≤ cap) (h5 : cap ≤ maxLen) (hl : l.length = n) : RowN w base g n cap l :=
  ⟨by rw [fcsI, List.length_map, hl, Nat.mul_one], .inr ⟨g, cap, cur, rfl, h0, h1, h4, h5, by rw [h2, Nat.mul_one], by rw [fcsI, Nat.mul_one]; exact h3⟩⟩
theorem RowN.lt (h : RowN w base g n cap l) : g < w.heap.size := by obtain ⟨_, cur, h1, _⟩ := h.blk; exact h1.lt
theorem RowN.below {B : Nat} (h : RowN w base g n cap l) (hb : Below B w w') (hB : g < B) : RowN w' base g n cap l := by
  obtain ⟨h0, cur, h1, h3, h4, h2, h5⟩ := h.blk
  exact .of h0 ((hb.block g hB).trans h1) h3 h4 h2 h5 h.len
theorem RowN.cell (h : RowN w base g n cap l) {i : Nat} {x : Int} (hx : l[i]? = some x) : w.cell? ⟨g, i, none⟩ = some (.int .i64 x) := by
  obtain ⟨h0, cur, h1, h3, h4, _⟩ := h.blk
  have hu : (l.map (Value.int .i64))[i]? = some (.int .i64 x) := by rw [List.getElem?_map, hx]; rfl
  rw [h1.cell i, ← Array.getElem?_toList]
  rw [← h4, List.getElem?_take] at hu
  split at hu
  · exact hu
  · cases hu
theorem RowN.frozen (h : RowN w base g n cap l) (j : Nat) : w.frozen? ⟨g, j, none⟩ = false := by obtain ⟨_, cur, h1, _⟩ := h.blk; exact h1.frozen j
theorem RowN.set (h : RowN w base g n cap l) {i : Nat} (x : Int) : RowN (w.setCell ⟨g, i, none⟩ (.int .i64 x)) base g n cap (l.set i x) := by
  obtain ⟨h0, cur, h1, h3, h4, h2, h5⟩ := h.blk
  refine .of h0 (h1.set_ i (.int .i64 x)) (by simpa using h3) ?_ h2 h5 (by rw [List.length_set, h.len])
  rw [List.map_set, ← h4]
  simp only [Array.toList_setIfInBounds, List.take_set]
theorem RowN.take (h : RowN w base g n cap l) {i : Nat} (hi : i ≤ n) : RowN w base g i cap (l.take i) := by
  obtain ⟨h0, cur, h1, h3, h4, h2, h5⟩ := h.blk
  refine .of h0 h1 h3 ?_ (by omega) h5 (by rw [List.length_take, h.len]; omega)
  rw [List.map_take, ← h4, List.take_take, Nat.min_eq_left hi]
theorem RowN.rdr (h : RowN w base g n cap l) {R : Nat → Prop} (hR : R g) : RdR (Sh.int .i64) w R (some ⟨g, 0, none⟩) l :=
  flatI.mk_ (R := R) (ad := ⟨g, 0, none⟩) hR fun j u hu => by
    rw [add_mk, Nat.zero_add]
    rw [fcsI, List.getElem?_map, Option.map_eq_some_iff] at hu
    obtain ⟨x, hx, rfl⟩ := hu
    exact h.cell hx
end
theorem zeros1 (n : Nat) : ∀ v ∈ (Builtin.zeroCells #[Value.int .i64 0] n).toList, v = .int .i64 0 := by
  intro v hv
  simp only [Builtin.zeroCells, Array.toList_map, List.mem_map] at hv
  obtain ⟨i, _, rfl⟩ := hv
  have : i % #[Value.int .i64 0].size = 0 := by simp; omega
  rw [this]; rfl
theorem RowN.clear {w : World} {base g n cap : Nat} {l : List Int} (h : RowN w base g n cap l) {i : Nat} (hi : i < n) (ty : TypeId) (c : Nat) : ∃ w', (Builtin.clear_ #[32] ty #[.slice (some ⟨g, i, none⟩) (n - i) c]).run Try.prog w = .ok (.tuple #[]) w' ∧ (∀ R : Nat → Prop, R g → RdR (Sh.int .i64) w' R (some ⟨g, 0, none⟩) (l.take i)) ∧ Below g w w' := by
  have hl := h.len
  obtain ⟨m, hm⟩ : ∃ m, n - i = m + 1 := ⟨n - i - 1, by omega⟩
  have hzl : (Builtin.zeroCells #[Value.int .i64 0] (n - i)).toList.length = n - i := by simp [Builtin.zeroCells]
  have hv : ∀ W : World, (zeroValue 3).run Try.prog W = .ok (.int .i64 0) W := fun W => by kernel_rfl
  have hst := run_storeCells_cells (P := Try.prog) g i (Builtin.zeroCells #[Value.int .i64 0] (n - i)).toList 0 w
    (fun j hj => by
      rw [hzl] at hj
      have hlt : i + 0 + j < l.length := by omega
      rw [h.cell (List.getElem?_eq_getElem hlt)]; rfl)
    (fun j _ => h.frozen _) (fun v hv => by rw [zeros1 _ v hv]; rfl)
  simp only [Nat.add_zero] at hst
  refine ⟨w.setCells g i (Builtin.zeroCells #[Value.int .i64 0] (n - i)).toList, ?_, fun R hR => ?_, Lib.below_setCells _ (Nat.le_refl _) _ _ (Below.refl _ _)⟩
  · rw [hm] at hst ⊢
    simp [Builtin.clear_, run_underlying Try.underlying32, hv, Value.cells, hst]
  · refine flatI.mk_ (R := R) (ad := ⟨g, 0, none⟩) hR fun j u hu => ?_
    have hj : j < i := by
      have := (List.getElem?_eq_some_iff.1 hu).1
      rw [fcsI, List.length_map, List.length_take] at this
      omega
    rw [fcsI, List.getElem?_map, Option.map_eq_some_iff] at hu
    obtain ⟨x, hx, rfl⟩ := hu
    rw [add_mk, Nat.zero_add, World.cell?_setCells_out g _ _ _ ⟨g, j, none⟩ (fun _ _ => .inl hj)]
    exact (h.take (Nat.le_of_lt hi)).cell hx
theorem RowN.setCells {base g i cap : Nat} {l : List Int} : ∀ (vs : List Value) (w : World) (j : Nat), i ≤ j → l.length = i → (∀ v ∈ vs, v = .int .i64 0) → RowN w base g i cap l → RowN (w.setCells g j vs) base g i cap l
  | [], w, j, _, _, _, h => h
  | v :: vs, w, j, hj, hl, hv, h => by
    have h0 := hv v (List.mem_cons_self)
    subst h0
    have h1 := h.set (i := j) 0
    rw [List.set_eq_of_length_le (by omega)] at h1
    exact RowN.setCells vs _ (j + 1) (by omega) hl (fun v h => hv v (List.mem_cons_of_mem _ h)) h1
/-- clear keeps what stands ahead of it -/
theorem RowN.clearN {w : World} {base g n cap : Nat} {l : List Int} (h : RowN w base g n cap l) {i : Nat} (hi : i < n) (ty : TypeId) (c : Nat) : ∃ w', (Builtin.clear_ #[32] ty #[.slice (some ⟨g, i, none⟩) (n - i) c]).run Try.prog w = .ok (.tuple #[]) w' ∧ RowN w' base g i cap (l.take i) ∧ Below g w w' := by
  have hl := h.len
  obtain ⟨m, hm⟩ : ∃ m, n - i = m + 1 := ⟨n - i - 1, by omega⟩
  have hzl : (Builtin.zeroCells #[Value.int .i64 0] (n - i)).toList.length = n - i := by simp [Builtin.zeroCells]
  have hv : ∀ W : World, (zeroValue 3).run Try.prog W = .ok (.int .i64 0) W := fun W => by kernel_rfl
  have hst := run_storeCells_cells (P := Try.prog) g i (Builtin.zeroCells #[Value.int .i64 0] (n - i)).toList 0 w
    (fun j hj => by
      rw [hzl] at hj
      have hlt : i + 0 + j < l.length := by omega
      rw [h.cell (List.getElem?_eq_getElem hlt)]; rfl)
    (fun j _ => h.frozen _) (fun v hv => by rw [zeros1 _ v hv]; rfl)
  simp only [Nat.add_zero] at hst
  refine ⟨w.setCells g i (Builtin.zeroCells #[Value.int .i64 0] (n - i)).toList, ?_, RowN.setCells _ _ i (Nat.le_refl _) (by rw [List.length_take]; omega) (zeros1 _) (h.take (Nat.le_of_lt hi)), Lib.below_setCells _ (Nat.le_refl _) _ _ (Below.refl _ _)⟩
  rw [hm] at hst ⊢
  simp [Builtin.clear_, run_underlying Try.underlying32, hv, Value.cells, hst]
end Go.Proofs.Ytlnbeeflifmnjac
