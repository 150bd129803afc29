/-
  The package lock: deeds that came in. No condition.
-/
import Derived.Test.YtknljldmjicfgaaOpen
import Derived.Test.YtknljldmjicfgaaLckO
namespace Go.Proofs.Ytknljldmjicfgaa
open Go.RowKit

theorem opens_deed : Opens Try.prog 30 SDeed (fun p => True ∧ (Lit.int .i64 p.2.1).wf = true ∧ (Lit.int .i64 p.2.2).wf = true) :=
  opens_struct Try.underlying30 (by kernel_rfl) (fields_cons rfl (by kernel_rfl) (opens_bool Try.underlying4) (fields_cons rfl (by kernel_rfl) (opens_int Try.underlying3) (fields_last rfl (by kernel_rfl) (opens_int Try.underlying3))))
end Go.Proofs.Ytknljldmjicfgaa
