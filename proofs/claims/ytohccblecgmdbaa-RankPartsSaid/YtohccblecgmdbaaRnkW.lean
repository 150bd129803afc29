/-
  The package rank: hits and spots that came in. No condition.
-/
import Derived.Test.YtohccblecgmdbaaOpen
import Derived.Test.YtohccblecgmdbaaRnkD
namespace Go.Proofs.Ytohccblecgmdbaa
open Go.RowKit

theorem opens_hit : Opens Try.prog 34 SH (fun p => (Lit.int .u64 p.1).wf = true ∧ (Lit.int .u64 p.2).wf = true) :=
  opens_struct Try.underlying34 (by kernel_rfl) (fields_cons rfl (by kernel_rfl) (opens_int Try.underlying32) (fields_last rfl (by kernel_rfl) (opens_int Try.underlying32)))
theorem opens_spot : Opens Try.prog 36 SP (fun p => ((Lit.int .u64 p.1.1).wf = true ∧ (Lit.int .u64 p.1.2).wf = true) ∧ (Lit.int .i64 p.2).wf = true) :=
  opens_struct Try.underlying36 (by kernel_rfl) (fields_cons rfl (by kernel_rfl) opens_hit (fields_last rfl (by kernel_rfl) (opens_int Try.underlying3)))
end Go.Proofs.Ytohccblecgmdbaa
