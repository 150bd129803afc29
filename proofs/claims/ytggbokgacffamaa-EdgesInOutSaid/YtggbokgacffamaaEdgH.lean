/-
  The package edges: slices.DeleteFunc at ints. Conditions: the row is the call's own.
-/
import Derived.Test.YtggbokgacffamaaEdgG
namespace Go.Proofs.Ytggbokgacffamaa
open Go.RowKit

theorem zeros1 (n : Nat) : ∀ v ∈ (Builtin.zeroCells #[Value.int .i64 0] n).toList, v = .int .i64 0 := by
  intro v hv
  simp only [Builtin.zeroCells, Array.toList_map, List.mem_map] at hv
  obtain ⟨i, _, rfl⟩ := hv
  have : i % #[Value.int .i64 0].size = 0 := by simp; omega
  rw [this]; rfl
theorem RowN.clear {w : World} {base g n cap : Nat} {l : List Int} (h : RowN w base g n cap l) {i : Nat} (hi : i < n) (ty : TypeId) (c : Nat) : ∃ w', (Builtin.clear_ #[22] ty #[.slice (some ⟨g, i, none⟩) (n - i) c]).run Try.prog w = .ok (.tuple #[]) w' ∧ (∀ R : Nat → Prop, R g → RdR (Sh.int .i64) w' R (some ⟨g, 0, none⟩) (l.take i)) ∧ Below g w w' := by
  have hl := h.len
  obtain ⟨m, hm⟩ : ∃ m, n - i = m + 1 := ⟨n - i - 1, by omega⟩
  have hzl : (Builtin.zeroCells #[Value.int .i64 0] (n - i)).toList.length = n - i := by simp [Builtin.zeroCells]
  have hv : ∀ W : World, (zeroValue 3).run Try.prog W = .ok (.int .i64 0) W := fun W => by kernel_rfl
  have hst := run_storeCells_cells (P := Try.prog) g i (Builtin.zeroCells #[Value.int .i64 0] (n - i)).toList 0 w
    (fun j hj => by
      rw [hzl] at hj
      have hlt : i + 0 + j < l.length := by omega
      rw [h.cell (List.getElem?_eq_getElem hlt)]; rfl)
    (fun j _ => h.frozen _) (fun v hv => by rw [zeros1 _ v hv]; rfl)
  simp only [Nat.add_zero] at hst
  refine ⟨w.setCells g i (Builtin.zeroCells #[Value.int .i64 0] (n - i)).toList, ?_, fun R hR => ?_, Lib.below_setCells _ (Nat.le_refl _) _ _ (Below.refl _ _)⟩
  · rw [hm] at hst ⊢
    simp [Builtin.clear_, run_underlying Try.underlying22, hv, Value.cells, hst]
  · refine flatI.mk_ (R := R) (ad := ⟨g, 0, none⟩) hR fun j u hu => ?_
    have hj : j < i := by
      have := (List.getElem?_eq_some_iff.1 hu).1
      rw [fcsI, List.length_map, List.length_take] at this
      omega
    rw [fcsI, List.getElem?_map, Option.map_eq_some_iff] at hu
    obtain ⟨x, hx, rfl⟩ := hu
    rw [add_mk, Nat.zero_add, World.cell?_setCells_out g _ _ _ ⟨g, j, none⟩ (fun _ _ => .inl hj)]
    exact (h.take (Nat.le_of_lt hi)).cell hx
end Go.Proofs.Ytggbokgacffamaa
