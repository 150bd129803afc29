/-
  Deeds that came in. No condition.
-/
import Derived.Test.YtphbdffgeeicaaaSizd
import Derived.Test.YtphbdffgeeicaaaPrbT
namespace Go.Proofs.Ytphbdffgeeicaaa
open Go.RowKit

theorem i32_of {l : List Int} (h : ∀ x ∈ l, (Lit.int .i32 x).wf = true) : I32 l := fun x hx => by
  have := h x hx
  simp only [Lit.wf, Bool.and_eq_true, decide_eq_true_eq] at this
  exact this
theorem u64_of {x : Int} (h : (Lit.int .u64 x).wf = true) : 0 ≤ x ∧ x ≤ 18446744073709551615 := by
  simp only [Lit.wf, Bool.and_eq_true, decide_eq_true_eq] at h
  exact h
theorem opens_itemP : Opens Try.prog 33 SItem (fun p => (Lit.int .u64 p.1).wf = true ∧ (∀ x ∈ p.2.1, (Lit.int .i32 x).wf = true) ∧ (Lit.int .u64 p.2.2).wf = true) :=
  opens_struct Try.underlying33 (by kernel_rfl) (fields_cons rfl (by kernel_rfl) (opens_int Try.underlying23) (fields_cons rfl (by kernel_rfl) (opens_slice Try.underlying22 (by kernel_rfl) (by decide) (opens_int Try.underlying21)) (fields_last rfl (by kernel_rfl) (opens_int Try.underlying23))))
theorem opens_deedP : Opens Try.prog 35 SDP (fun p => True ∧ (Lit.int .i64 p.2.1).wf = true ∧ ((Lit.int .u64 p.2.2.1).wf = true ∧ (∀ x ∈ p.2.2.2.1, (Lit.int .i32 x).wf = true) ∧ (Lit.int .u64 p.2.2.2.2).wf = true)) :=
  opens_struct Try.underlying35 (by kernel_rfl) (fields_cons rfl (by kernel_rfl) (opens_bool Try.underlying4) (fields_cons rfl (by kernel_rfl) (opens_int Try.underlying3) (fields_last rfl (by kernel_rfl) opens_itemP)))
end Go.Proofs.Ytphbdffgeeicaaa
