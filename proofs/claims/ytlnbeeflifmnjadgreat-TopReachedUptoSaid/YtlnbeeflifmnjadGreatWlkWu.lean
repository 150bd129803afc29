/-
  Planes that came in, of bounded bulk. No condition.
-/
import Derived.Test.YtlnbeeflifmnjadGreatOpnU
import Derived.Test.YtlnbeeflifmnjadGreatWlkW
namespace Go.Proofs.YtlnbeeflifmnjadGreat
open Go.RowKit

def OkIU (m : Nat) (p : Int × List Int × Int) : Prop := (Lit.int .u64 p.1).wf = true ∧ (p.2.1.length ≤ m ∧ ∀ x ∈ p.2.1, (Lit.int .i32 x).wf = true) ∧ (Lit.int .u64 p.2.2).wf = true
def OkNU (m : Nat) (p : NodeP) : Prop := OkIU m p.1 ∧ (Lit.int .i64 p.2.1).wf = true ∧ (p.2.2.1.length ≤ m ∧ ∀ l ∈ p.2.2.1, l.length ≤ m ∧ ∀ y ∈ l, (Lit.int .i64 y).wf = true) ∧ (Lit.int .i64 p.2.2.2.1).wf = true ∧ (Lit.int .i64 p.2.2.2.2).wf = true
def OkPU (m : Nat) (p : PlaneP) : Prop := (p.1.length ≤ m ∧ ∀ x ∈ p.1, OkNU m x) ∧ (Lit.int .i64 p.2.1).wf = true ∧ (Lit.int .i64 p.2.2).wf = true
theorem opensU_item : OpensU Tryz.prog 35 SItemW OkIU := by
  have h := opensU_struct Tryz.underlying35 (by kernel_rfl) (fieldsU_cons rfl (by kernel_rfl) (opensU_int Tryz.underlying33) (fieldsU_cons rfl (by kernel_rfl) (opensU_slice (S := Sh.int .i32) Tryz.underlying25 (by kernel_rfl) (by decide) (opensU_int Tryz.underlying21)) (fieldsU_last rfl (by kernel_rfl) (opensU_int Tryz.underlying33))))
  exact h
theorem opensU_node : OpensU Tryz.prog 38 SNode OkNU := by
  have h := opensU_struct Tryz.underlying38 (by kernel_rfl) (fieldsU_cons rfl (by kernel_rfl) opensU_item (fieldsU_cons rfl (by kernel_rfl) (opensU_int Tryz.underlying3) (fieldsU_cons rfl (by kernel_rfl) (opensU_slice (S := Sh.list (Sh.int .i64)) Tryz.underlying36 (by kernel_rfl) (by decide) (opensU_slice (S := Sh.int .i64) Tryz.underlying44 (by kernel_rfl) (by decide) (opensU_int Tryz.underlying3)))
    (fieldsU_cons rfl (by kernel_rfl) (opensU_int Tryz.underlying3) (fieldsU_last rfl (by kernel_rfl) (opensU_int Tryz.underlying3))))))
  exact h
theorem opensU_plane : OpensU Tryz.prog 24 SPlane OkPU := by
  have h := opensU_struct Tryz.underlying24 (by kernel_rfl) (fieldsU_cons rfl (by kernel_rfl) (opensU_slice (S := SNode) Tryz.underlying22 (by kernel_rfl) (by decide) opensU_node) (fieldsU_cons rfl (by kernel_rfl) (opensU_int Tryz.underlying3) (fieldsU_last rfl (by kernel_rfl) (opensU_int Tryz.underlying3))))
  exact h
theorem OkNU.ok {m : Nat} {p : NodeP} (h : OkNU m p) : OkN p := ⟨i32_ofW h.1.2.1.2, fun l hl => (h.2.2.1.2 l hl).2, h.2.2.2.1, h.2.2.2.2⟩
theorem OkNU.sm {m : Nat} {p : NodeP} (h : OkNU m p) (hm : m ≤ 1048576) : SmN p := ⟨Nat.le_trans h.2.2.1.1 hm, Nat.le_trans h.1.2.1.1 hm, fun l hl => Nat.le_trans (h.2.2.1.2 l hl).1 hm⟩
end Go.Proofs.YtlnbeeflifmnjadGreat
