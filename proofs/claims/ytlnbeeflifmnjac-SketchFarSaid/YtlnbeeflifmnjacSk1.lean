/-
  sketch.Near: the row of far ones that is made. No condition.
-/
import Derived.Test.YtlnbeeflifmnjacSkZ
namespace Go.Proofs.Ytlnbeeflifmnjac
set_option linter.unusedSimpArgs false
set_option linter.unusedVariables false
open Go.RowKit

def far0 : Far := (⟨0, by decide⟩, ⟨0, by decide⟩)
theorem info_far : (Try.prog.info? 47).map (fun i => (i.zero, i.size, i.bytes)) = some (some (.agg #[.int .i64 0, .int .i64 0]), 2, 16) := by kernel_rfl
theorem fcsF_zero (n : Nat) : (madeCells #[.int .i64 0, .int .i64 0] (n * 2)).toList = fcs encFr (List.replicate n far0) := by
  apply List.ext_getElem?
  intro t
  by_cases ht : t < n * 2
  · obtain ⟨x, hx, he⟩ := flatFr.split (l := List.replicate n far0) (t := t) (by rw [List.length_replicate]; exact ht)
    obtain rfl : x = far0 := List.eq_of_mem_replicate (List.mem_of_getElem? hx)
    rw [he, Array.getElem?_toList, madeCells, Array.getElem?_map, Array.getElem?_range, if_pos ht]
    have : t % 2 = 0 ∨ t % 2 = 1 := by omega
    show some _ = (encFr far0)[t % 2]?
    rcases this with e | e <;> simp [e, encFr, far0]
  · rw [List.getElem?_eq_none (by simp [size_madeCells]; omega), List.getElem?_eq_none (by rw [flatFr.clen, List.length_replicate]; exact Nat.le_of_not_lt ht)]
theorem run_make_far (n : Nat) (h6 : n ≤ 1000000) (w : World) :
    (Instr.makeSlice 45 (.int .i64 (n : Int)) (.int .i64 (n : Int))).run Try.prog w = .ok (.slice (some ⟨w.heap.size, 0, none⟩) n n) (w.alloc (.cells (madeCells #[.int .i64 0, .int .i64 0] (n * 2)) 47)) := by
  obtain ⟨i, hi, hz⟩ := Option.map_eq_some_iff.1 info_far
  simp only [Prod.mk.injEq] at hz
  obtain ⟨h1, h2, h3⟩ := hz
  have := run_make_rowN (P := Try.prog) 45 47 i _ Try.underlying45 hi h1 .i64 .i64 n n (Nat.le_refl _) (by rw [h3]; omega) (by omega) w
  rw [h2] at this
  exact this
theorem rowF_made (n : Nat) (h6 : n ≤ 1000000) (w : World) : RowF (w.alloc (.cells (madeCells #[.int .i64 0, .int .i64 0] (n * 2)) 47)) w.heap.size w.heap.size n n (List.replicate n far0) :=
  ⟨by rw [flatFr.clen, List.length_replicate]; rfl, .inr ⟨w.heap.size, n, _, rfl, Nat.le_refl _, heap_alloc_new _ _, Nat.le_refl _, by simp only [maxLen]; omega, by rw [size_madeCells], by
    rw [← fcsF_zero]; exact List.take_of_length_le (by rw [Array.length_toList, size_madeCells]; exact Nat.le_refl _)⟩⟩
end Go.Proofs.Ytlnbeeflifmnjac
