/-
  The package queue: spots and deeds that came in. No condition.
-/
import Derived.Test.YtknljldmjicfgaeOpen
import Derived.Test.YtknljldmjicfgaeQueM
namespace Go.Proofs.Ytknljldmjicfgae
set_option linter.unusedSimpArgs false
set_option linter.unusedVariables false
open Go.RowKit

theorem opens_hit : Opens Try.prog 31 SH (fun p => (Lit.int .u64 p.1).wf = true ∧ (Lit.int .u64 p.2).wf = true) :=
  opens_struct Try.underlying31 (by kernel_rfl) (fields_cons rfl (by kernel_rfl) (opens_int Try.underlying29) (fields_last rfl (by kernel_rfl) (opens_int Try.underlying29)))
theorem opens_spot : Opens Try.prog 33 SP (fun p => ((Lit.int .u64 p.1.1).wf = true ∧ (Lit.int .u64 p.1.2).wf = true) ∧ (Lit.int .i64 p.2).wf = true) :=
  opens_struct Try.underlying33 (by kernel_rfl) (fields_cons rfl (by kernel_rfl) opens_hit (fields_last rfl (by kernel_rfl) (opens_int Try.underlying3)))
theorem opens_deed : Opens Try.prog 35 SDQ (fun p => (Lit.int .i64 p.1).wf = true ∧ (((Lit.int .u64 p.2.1.1).wf = true ∧ (Lit.int .u64 p.2.1.2).wf = true) ∧ (Lit.int .i64 p.2.2).wf = true)) :=
  opens_struct Try.underlying35 (by kernel_rfl) (fields_cons rfl (by kernel_rfl) (opens_int Try.underlying3) (fields_last rfl (by kernel_rfl) opens_spot))
end Go.Proofs.Ytknljldmjicfgae
