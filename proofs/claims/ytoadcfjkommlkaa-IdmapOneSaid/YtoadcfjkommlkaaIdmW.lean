/-
  The package idmap: deeds that came in. No condition.
-/
import Derived.Test.YtoadcfjkommlkaaOpen
import Derived.Test.YtoadcfjkommlkaaIdmV
namespace Go.Proofs.Ytoadcfjkommlkaa
set_option linter.unusedSimpArgs false
set_option linter.unusedVariables false
open Go.RowKit

theorem opens_ref : Opens Try.prog 35 (Sh.pair (Sh.int .i64) (Sh.int .i64)) (fun p => (Lit.int .i64 p.1).wf = true ∧ (Lit.int .i64 p.2).wf = true) :=
  opens_struct Try.underlying35 (by kernel_rfl) (fields_cons rfl (by kernel_rfl) (opens_int Try.underlying3) (fields_last rfl (by kernel_rfl) (opens_int Try.underlying3)))
theorem opens_deed : Opens Try.prog 37 SDI (fun p => (Lit.int .i64 p.1).wf = true ∧ ((Lit.int .u64 p.2.1).wf = true ∧ ((Lit.int .i64 p.2.2.1).wf = true ∧ (Lit.int .i64 p.2.2.2).wf = true))) :=
  opens_struct Try.underlying37 (by kernel_rfl) (fields_cons rfl (by kernel_rfl) (opens_int Try.underlying3) (fields_cons rfl (by kernel_rfl) (opens_int Try.underlying33) (fields_last rfl (by kernel_rfl) opens_ref)))
end Go.Proofs.Ytoadcfjkommlkaa
