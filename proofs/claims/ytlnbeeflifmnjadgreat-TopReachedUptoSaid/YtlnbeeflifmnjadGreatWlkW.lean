/-
  Planes that came in. No condition.
-/
import Derived.Test.YtlnbeeflifmnjadGreatOpen
import Derived.Test.YtlnbeeflifmnjadGreatMgE
namespace Go.Proofs.YtlnbeeflifmnjadGreat
open Go.RowKit

abbrev PlaneP : Type := List NodeP × Int × Int
def SPlane : Sh PlaneP := Sh.pair (Sh.list SNode) (Sh.pair (Sh.int .i64) (Sh.int .i64))
def OkNW (p : NodeP) : Prop := ((Lit.int .u64 p.1.1).wf = true ∧ (∀ x ∈ p.1.2.1, (Lit.int .i32 x).wf = true) ∧ (Lit.int .u64 p.1.2.2).wf = true) ∧ (Lit.int .i64 p.2.1).wf = true ∧ (∀ l ∈ p.2.2.1, ∀ y ∈ l, (Lit.int .i64 y).wf = true) ∧ (Lit.int .i64 p.2.2.2.1).wf = true ∧ (Lit.int .i64 p.2.2.2.2).wf = true
def OkPW (p : PlaneP) : Prop := (∀ x ∈ p.1, OkNW x) ∧ (Lit.int .i64 p.2.1).wf = true ∧ (Lit.int .i64 p.2.2).wf = true
theorem opens_itemW : Opens Tryz.prog 35 SItemW (fun p => (Lit.int .u64 p.1).wf = true ∧ (∀ x ∈ p.2.1, (Lit.int .i32 x).wf = true) ∧ (Lit.int .u64 p.2.2).wf = true) :=
  opens_struct Tryz.underlying35 (by kernel_rfl) (fields_cons rfl (by kernel_rfl) (opens_int Tryz.underlying33) (fields_cons rfl (by kernel_rfl) (opens_slice Tryz.underlying25 (by kernel_rfl) (by decide) (opens_int Tryz.underlying21)) (fields_last rfl (by kernel_rfl) (opens_int Tryz.underlying33))))
theorem opens_node : Opens Tryz.prog 38 SNode OkNW :=
  opens_struct Tryz.underlying38 (by kernel_rfl) (fields_cons rfl (by kernel_rfl) opens_itemW (fields_cons rfl (by kernel_rfl) (opens_int Tryz.underlying3) (fields_cons rfl (by kernel_rfl) (opens_slice Tryz.underlying36 (by kernel_rfl) (by decide) (opens_slice Tryz.underlying44 (by kernel_rfl) (by decide) (opens_int Tryz.underlying3)))
    (fields_cons rfl (by kernel_rfl) (opens_int Tryz.underlying3) (fields_last rfl (by kernel_rfl) (opens_int Tryz.underlying3))))))
theorem opens_plane : Opens Tryz.prog 24 SPlane OkPW :=
  opens_struct Tryz.underlying24 (by kernel_rfl) (fields_cons rfl (by kernel_rfl) (opens_slice Tryz.underlying22 (by kernel_rfl) (by decide) opens_node) (fields_cons rfl (by kernel_rfl) (opens_int Tryz.underlying3) (fields_last rfl (by kernel_rfl) (opens_int Tryz.underlying3))))
theorem plane_cells {w : World} {cs : Array Value} {x : PlaneP} (h : SPlane.rd w (fun b => b < w.heap.size) x cs.toList) : ∃ N c, cs = #[.slice N x.1.length c, .int .i64 x.2.1, .int .i64 x.2.2] ∧ x.1.length ≤ c ∧ c ≤ 9223372036854775807 ∧ Rd SNode w w.heap.size N x.1 := by
  obtain ⟨a, b, e, ⟨N, c, rfl, h1, h2, h3⟩, d, f, rfl, h4, h5⟩ := h
  have e1 : d = [.int .i64 x.2.1] := h4
  have e2 : f = [.int .i64 x.2.2] := h5
  subst e1 e2
  refine ⟨N, c, ?_, h1, h2, h3⟩
  apply Array.ext'
  rw [e]; rfl
theorem i32_ofW {l : List Int} (h : ∀ x ∈ l, (Lit.int .i32 x).wf = true) : I32 l := fun x hx => by
  have := h x hx
  simp only [Lit.wf, Bool.and_eq_true, decide_eq_true_eq] at this
  exact this
theorem okN_of {l : List NodeP} (h : ∀ x ∈ l, OkNW x) : ∀ x ∈ l, OkN x := fun x hx => ⟨i32_ofW (h x hx).1.2.1, (h x hx).2.2.1, (h x hx).2.2.2.1, (h x hx).2.2.2.2⟩
end Go.Proofs.YtlnbeeflifmnjadGreat
