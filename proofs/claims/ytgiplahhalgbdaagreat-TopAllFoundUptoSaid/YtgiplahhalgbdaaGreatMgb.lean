/-
  Texts of one part, put together. No condition.
-/
import Derived.Test.YtgiplahhalgbdaaGreatMga
import Derived.Test.YtgiplahhalgbdaaGreatMgE
/-
  Planes that came in. No condition.
-/
namespace Go.Proofs.YtgiplahhalgbdaaGreat
open Go.RowKit

abbrev PlaneP : Type := List NodeP × Int × Int
def SPlane : Sh PlaneP := Sh.pair (Sh.list SNode) (Sh.pair (Sh.int .i64) (Sh.int .i64))
def OkNW (p : NodeP) : Prop := ((Lit.int .u64 p.1.1).wf = true ∧ (∀ x ∈ p.1.2.1, (Lit.int .i32 x).wf = true) ∧ (Lit.int .u64 p.1.2.2).wf = true) ∧ (Lit.int .i64 p.2.1).wf = true ∧ (∀ l ∈ p.2.2.1, ∀ y ∈ l, (Lit.int .i64 y).wf = true) ∧ (Lit.int .i64 p.2.2.2.1).wf = true ∧ (Lit.int .i64 p.2.2.2.2).wf = true
def OkPW (p : PlaneP) : Prop := (∀ x ∈ p.1, OkNW x) ∧ (Lit.int .i64 p.2.1).wf = true ∧ (Lit.int .i64 p.2.2).wf = true
theorem opens_itemW : Opens Tryz.prog 50 SItemW (fun p => (Lit.int .u64 p.1).wf = true ∧ (∀ x ∈ p.2.1, (Lit.int .i32 x).wf = true) ∧ (Lit.int .u64 p.2.2).wf = true) :=
  opens_struct Tryz.underlying50 (by kernel_rfl) (fields_cons rfl (by kernel_rfl) (opens_int Tryz.underlying26) (fields_cons rfl (by kernel_rfl) (opens_slice Tryz.underlying25 (by kernel_rfl) (by decide) (opens_int Tryz.underlying21)) (fields_last rfl (by kernel_rfl) (opens_int Tryz.underlying26))))
theorem opens_node : Opens Tryz.prog 53 SNode OkNW :=
  opens_struct Tryz.underlying53 (by kernel_rfl) (fields_cons rfl (by kernel_rfl) opens_itemW (fields_cons rfl (by kernel_rfl) (opens_int Tryz.underlying3) (fields_cons rfl (by kernel_rfl) (opens_slice Tryz.underlying51 (by kernel_rfl) (by decide) (opens_slice Tryz.underlying47 (by kernel_rfl) (by decide) (opens_int Tryz.underlying3)))
    (fields_cons rfl (by kernel_rfl) (opens_int Tryz.underlying3) (fields_last rfl (by kernel_rfl) (opens_int Tryz.underlying3))))))
theorem opens_plane : Opens Tryz.prog 24 SPlane OkPW :=
  opens_struct Tryz.underlying24 (by kernel_rfl) (fields_cons rfl (by kernel_rfl) (opens_slice Tryz.underlying22 (by kernel_rfl) (by decide) opens_node) (fields_cons rfl (by kernel_rfl) (opens_int Tryz.underlying3) (fields_last rfl (by kernel_rfl) (opens_int Tryz.underlying3))))
theorem plane_cells {w : World} {cs : Array Value} {x : PlaneP} (h : SPlane.rd w (fun b => b < w.heap.size) x cs.toList) : ∃ N c, cs = #[.slice N x.1.length c, .int .i64 x.2.1, .int .i64 x.2.2] ∧ x.1.length ≤ c ∧ c ≤ 9223372036854775807 ∧ Rd SNode w w.heap.size N x.1 := by
  obtain ⟨a, b, e, ⟨N, c, rfl, h1, h2, h3⟩, d, f, rfl, h4, h5⟩ := h
  have e1 : d = [.int .i64 x.2.1] := h4
  have e2 : f = [.int .i64 x.2.2] := h5
  subst e1 e2
  refine ⟨N, c, ?_, h1, h2, h3⟩
  apply Array.ext'
  rw [e]; rfl
theorem i32_ofW {l : List Int} (h : ∀ x ∈ l, (Lit.int .i32 x).wf = true) : I32 l := fun x hx => by
  have := h x hx
  simp only [Lit.wf, Bool.and_eq_true, decide_eq_true_eq] at this
  exact this
theorem okN_of {l : List NodeP} (h : ∀ x ∈ l, OkNW x) : ∀ x ∈ l, OkN x := fun x hx => ⟨i32_ofW (h x hx).1.2.1, (h x hx).2.2.1, (h x hx).2.2.2.1, (h x hx).2.2.2.2⟩
end Go.Proofs.YtgiplahhalgbdaaGreat

/-
  Planes that came in, of bounded bulk. No condition.
-/
namespace Go.Proofs.YtgiplahhalgbdaaGreat
open Go.RowKit

def OkIU (m : Nat) (p : Int × List Int × Int) : Prop := (Lit.int .u64 p.1).wf = true ∧ (p.2.1.length ≤ m ∧ ∀ x ∈ p.2.1, (Lit.int .i32 x).wf = true) ∧ (Lit.int .u64 p.2.2).wf = true
def OkNU (m : Nat) (p : NodeP) : Prop := OkIU m p.1 ∧ (Lit.int .i64 p.2.1).wf = true ∧ (p.2.2.1.length ≤ m ∧ ∀ l ∈ p.2.2.1, l.length ≤ m ∧ ∀ y ∈ l, (Lit.int .i64 y).wf = true) ∧ (Lit.int .i64 p.2.2.2.1).wf = true ∧ (Lit.int .i64 p.2.2.2.2).wf = true
def OkPU (m : Nat) (p : PlaneP) : Prop := (p.1.length ≤ m ∧ ∀ x ∈ p.1, OkNU m x) ∧ (Lit.int .i64 p.2.1).wf = true ∧ (Lit.int .i64 p.2.2).wf = true
theorem opensU_item : OpensU Tryz.prog 50 SItemW OkIU := by
  have h := opensU_struct Tryz.underlying50 (by kernel_rfl) (fieldsU_cons rfl (by kernel_rfl) (opensU_int Tryz.underlying26) (fieldsU_cons rfl (by kernel_rfl) (opensU_slice (S := Sh.int .i32) Tryz.underlying25 (by kernel_rfl) (by decide) (opensU_int Tryz.underlying21)) (fieldsU_last rfl (by kernel_rfl) (opensU_int Tryz.underlying26))))
  exact h
theorem opensU_node : OpensU Tryz.prog 53 SNode OkNU := by
  have h := opensU_struct Tryz.underlying53 (by kernel_rfl) (fieldsU_cons rfl (by kernel_rfl) opensU_item (fieldsU_cons rfl (by kernel_rfl) (opensU_int Tryz.underlying3) (fieldsU_cons rfl (by kernel_rfl) (opensU_slice (S := Sh.list (Sh.int .i64)) Tryz.underlying51 (by kernel_rfl) (by decide) (opensU_slice (S := Sh.int .i64) Tryz.underlying47 (by kernel_rfl) (by decide) (opensU_int Tryz.underlying3)))
    (fieldsU_cons rfl (by kernel_rfl) (opensU_int Tryz.underlying3) (fieldsU_last rfl (by kernel_rfl) (opensU_int Tryz.underlying3))))))
  exact h
theorem opensU_plane : OpensU Tryz.prog 24 SPlane OkPU := by
  have h := opensU_struct Tryz.underlying24 (by kernel_rfl) (fieldsU_cons rfl (by kernel_rfl) (opensU_slice (S := SNode) Tryz.underlying22 (by kernel_rfl) (by decide) opensU_node) (fieldsU_cons rfl (by kernel_rfl) (opensU_int Tryz.underlying3) (fieldsU_last rfl (by kernel_rfl) (opensU_int Tryz.underlying3))))
  exact h
theorem OkNU.ok {m : Nat} {p : NodeP} (h : OkNU m p) : OkN p := ⟨i32_ofW h.1.2.1.2, fun l hl => (h.2.2.1.2 l hl).2, h.2.2.2.1, h.2.2.2.2⟩
theorem OkNU.sm {m : Nat} {p : NodeP} (h : OkNU m p) (hm : m ≤ 1048576) : SmN p := ⟨Nat.le_trans h.2.2.1.1 hm, Nat.le_trans h.1.2.1.1 hm, fun l hl => Nat.le_trans (h.2.2.1.2 l hl).1 hm⟩
end Go.Proofs.YtgiplahhalgbdaaGreat
