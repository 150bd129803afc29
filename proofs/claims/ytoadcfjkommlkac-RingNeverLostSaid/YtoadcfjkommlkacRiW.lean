/-
  The package ring: operations that came in. No condition.
-/
import Derived.Test.YtoadcfjkommlkacOpen
import Derived.Test.YtoadcfjkommlkacRiN
namespace Go.Proofs.Ytoadcfjkommlkac
set_option linter.unusedSimpArgs false
set_option linter.unusedVariables false
open Go.RowKit

theorem opens_item : Opens Try.prog 42 (Sh.pair (Sh.int .u64) (Sh.pair (Sh.list (Sh.int .i32)) (Sh.int .u64))) (fun p => (Lit.int .u64 p.1).wf = true ∧ (∀ x ∈ p.2.1, (Lit.int .i32 x).wf = true) ∧ (Lit.int .u64 p.2.2).wf = true) :=
  opens_struct Try.underlying42 (by kernel_rfl) (fields_cons rfl (by kernel_rfl) (opens_int Try.underlying39) (fields_cons rfl (by kernel_rfl) (opens_slice Try.underlying40 (by kernel_rfl) (by decide) (opens_int Try.underlying21)) (fields_last rfl (by kernel_rfl) (opens_int Try.underlying39))))
theorem opens_op : Opens Try.prog 44 SOp (fun p => (Lit.int .i64 p.1).wf = true ∧ (Lit.int .i64 p.2.1).wf = true ∧ (Lit.int .i64 p.2.2.1).wf = true ∧ (Lit.int .i64 p.2.2.2.1).wf = true ∧ (Lit.int .i64 p.2.2.2.2.1).wf = true ∧ (Lit.int .u64 p.2.2.2.2.2.1).wf = true ∧ (∀ x ∈ p.2.2.2.2.2.2.1, (Lit.int .i64 x).wf = true) ∧ (Lit.int .u64 p.2.2.2.2.2.2.2.1).wf = true ∧ (∀ x ∈ p.2.2.2.2.2.2.2.2.1, (Lit.int .i32 x).wf = true) ∧ (Lit.int .u64 p.2.2.2.2.2.2.2.2.2).wf = true) :=
  opens_struct (P := Try.prog) Try.underlying44 (by kernel_rfl) (fields_cons rfl (by kernel_rfl) (opens_int Try.underlying3) (fields_cons rfl (by kernel_rfl) (opens_int Try.underlying3) (fields_cons rfl (by kernel_rfl) (opens_int Try.underlying3) (fields_cons rfl (by kernel_rfl) (opens_int Try.underlying3) (fields_cons rfl (by kernel_rfl) (opens_int Try.underlying3) (fields_cons rfl (by kernel_rfl) (opens_int Try.underlying39) (fields_cons rfl (by kernel_rfl) (opens_slice Try.underlying28 (by kernel_rfl) (by decide) (opens_int Try.underlying3)) (fields_last rfl (by kernel_rfl) opens_item))))))))
theorem opens_opT : Opens Try.prog 44 SOp (fun _ => True) := fun h => by
  obtain ⟨v, _, h⟩ := opens_op h
  exact ⟨v, trivial, h⟩
theorem wf_w {l : List Int} (h : ∀ x ∈ l, (Lit.int .u64 x).wf = true) : ∀ x ∈ l, U64 x := fun x hx => by have := wf_u64 (h x hx); unfold U64; omega
end Go.Proofs.Ytoadcfjkommlkac
