/-
  The package exact: items, vectors and hits that came in. No condition.
-/
import Derived.Test.YtclpmpikeadnpaaOpen
import Derived.Test.YtclpmpikeadnpaaExaA
namespace Go.Proofs.Ytclpmpikeadnpaa
open Go.RowKit

theorem opens_hit : Opens Try.prog 26 SH (fun p => (Lit.int .u64 p.1).wf = true ∧ (Lit.int .u64 p.2).wf = true) :=
  opens_struct Try.underlying26 (by kernel_rfl) (fields_cons rfl (by kernel_rfl) (opens_int Try.underlying24) (fields_last rfl (by kernel_rfl) (opens_int Try.underlying24)))
theorem opens_item : Opens Try.prog 36 SItem (fun p => (Lit.int .u64 p.1).wf = true ∧ (∀ x ∈ p.2.1, (Lit.int .i32 x).wf = true) ∧ (Lit.int .u64 p.2.2).wf = true) :=
  opens_struct Try.underlying36 (by kernel_rfl) (fields_cons rfl (by kernel_rfl) (opens_int Try.underlying24) (fields_cons rfl (by kernel_rfl) (opens_slice Try.underlying23 (by kernel_rfl) (by decide) (opens_int Try.underlying21)) (fields_last rfl (by kernel_rfl) (opens_int Try.underlying24))))
end Go.Proofs.Ytclpmpikeadnpaa
