/-
  The package edges: items that came in. No condition.
-/
import Derived.Test.YtggbokgacffamaaOpen
import Derived.Test.YtggbokgacffamaaEdgV
namespace Go.Proofs.Ytggbokgacffamaa
open Go.RowKit

theorem opens_item : Opens Try.prog 44 SItem (fun p => (Lit.int .u64 p.1).wf = true ∧ (∀ x ∈ p.2.1, (Lit.int .i32 x).wf = true) ∧ (Lit.int .u64 p.2.2).wf = true) :=
  opens_struct Try.underlying44 (by kernel_rfl) (fields_cons rfl (by kernel_rfl) (opens_int Try.underlying26) (fields_cons rfl (by kernel_rfl) (opens_slice Try.underlying23 (by kernel_rfl) (by decide) (opens_int Try.underlying21)) (fields_last rfl (by kernel_rfl) (opens_int Try.underlying26))))
end Go.Proofs.Ytggbokgacffamaa
