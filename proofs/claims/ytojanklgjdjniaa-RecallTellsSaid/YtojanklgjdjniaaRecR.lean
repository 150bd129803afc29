/-
  The package recall: hits and pairs that came in. No condition.
-/
import Derived.Test.YtojanklgjdjniaaOpen
import Derived.Test.YtojanklgjdjniaaRecG
namespace Go.Proofs.Ytojanklgjdjniaa
open Go.RowKit

theorem opens_hit : Opens Try.prog 35 SH (fun p => (Lit.int .u64 p.1).wf = true ∧ (Lit.int .u64 p.2).wf = true) :=
  opens_struct Try.underlying35 (by kernel_rfl) (fields_cons rfl (by kernel_rfl) (opens_int Try.underlying30) (fields_last rfl (by kernel_rfl) (opens_int Try.underlying30)))
theorem opens_two : Opens Try.prog 36 SP (fun p => (Lit.int .i64 p.1).wf = true ∧ (Lit.int .i64 p.2).wf = true) :=
  opens_array2 Try.underlying36 (by kernel_rfl) (by kernel_rfl) (opens_int Try.underlying3)
end Go.Proofs.Ytojanklgjdjniaa
