/-
  Calls and answers that came in. No condition.
-/
import Derived.Test.YtojanklgjdjniabOpen
import Derived.Test.YtojanklgjdjniabErI
namespace Go.Proofs.Ytojanklgjdjniab
open Go.ChangeShapes Go.WideShapes Go.Deep
open Go.RowKit

def Sh.raw : Sh (Option Addr × Nat × Nat) := ⟨1, fun _ _ x cs => cs = [.slice x.1 x.2.1 x.2.2], fun h => by rw [h]; rfl, fun h _ => h, fun h _ => h⟩
theorem opens_raw {P : Program} {T e : TypeId} (ht : P.underlying T = some (.slice e)) : Opens P T Sh.raw (fun _ => True) := by
  intro H enc w base spare held fuel cs x hx
  rcases open_slice ht hx with ⟨rfl, _⟩ | ⟨a, len, cap, m, n, D, Pl, rfl, _⟩
  · exact ⟨(none, 0, 0), trivial, rfl⟩
  · exact ⟨(some a, len, cap), trivial, rfl⟩
theorem Opens.map {P : Program} {α β : Type} {T : TypeId} {S : Sh α} {Ok : α → Prop} (h : Opens P T S Ok) (f : α → β) (S' : Sh β) (hf : ∀ (w : World) (R : Nat → Prop) (x : α) (cs : List Value), S.rd w R x cs → S'.rd w R (f x) cs) : Opens P T S' (fun _ => True) := by
  intro H enc w base spare held fuel cs x hx
  obtain ⟨v, _, hr⟩ := h hx
  exact ⟨f v, trivial, hf _ _ _ _ hr⟩
abbrev GotP : Type := Bool × Int × Int × (Option Addr × Nat × Nat) × Int × (Option Addr × Nat × Nat) × Int
def SGp : Sh GotP := Sh.pair Sh.bool (Sh.pair (Sh.int .i64) (Sh.pair (Sh.int .i64) (Sh.pair Sh.raw (Sh.pair (Sh.int .u64) (Sh.pair Sh.raw (Sh.int .u64))))))
def gotOf (x : GotP) : GotR := ⟨x.1, x.2.1, x.2.2.1, x.2.2.2.1.1, x.2.2.2.1.2.1, x.2.2.2.1.2.2, x.2.2.2.2.1, x.2.2.2.2.2.1.1, x.2.2.2.2.2.1.2.1, x.2.2.2.2.2.1.2.2, x.2.2.2.2.2.2⟩
theorem opens_itemRaw : Opens Try.prog 25 (Sh.pair (Sh.int .u64) (Sh.pair Sh.raw (Sh.int .u64))) (fun p => (Lit.int .u64 p.1).wf = true ∧ True ∧ (Lit.int .u64 p.2.2).wf = true) :=
  opens_struct Try.underlying25 (by kernel_rfl) (fields_cons rfl (by kernel_rfl) (opens_int Try.underlying22) (fields_cons rfl (by kernel_rfl) (opens_raw Try.underlying23) (fields_last rfl (by kernel_rfl) (opens_int Try.underlying22))))
theorem opens_gotP : Opens Try.prog 42 SGp (fun p => True ∧ (Lit.int .i64 p.2.1).wf = true ∧ (Lit.int .i64 p.2.2.1).wf = true ∧ True ∧ (Lit.int .u64 p.2.2.2.2.1).wf = true ∧ True ∧ (Lit.int .u64 p.2.2.2.2.2.2).wf = true) :=
  opens_struct Try.underlying42 (by kernel_rfl) (fields_cons rfl (by kernel_rfl) (opens_bool Try.underlying4) (fields_cons rfl (by kernel_rfl) (opens_int Try.underlying3) (fields_cons rfl (by kernel_rfl) (opens_int Try.underlying3) (fields_cons rfl (by kernel_rfl) (opens_raw Try.underlying35) (fields_last rfl (by kernel_rfl) opens_itemRaw)))))
theorem opens_got : Opens Try.prog 42 SG (fun _ => True) :=
  Opens.map opens_gotP gotOf SG fun w R x cs h => by
    obtain ⟨a, _, rfl, h1, b, _, rfl, h2, c, _, rfl, h3, d, _, rfl, h4, e, _, rfl, h5, f, g, rfl, h6, h7⟩ := h
    have e1 : a = [.bool x.1] := h1
    have e2 : b = [.int .i64 x.2.1] := h2
    have e3 : c = [.int .i64 x.2.2.1] := h3
    have e4 : d = [.slice x.2.2.2.1.1 x.2.2.2.1.2.1 x.2.2.2.1.2.2] := h4
    have e5 : e = [.int .u64 x.2.2.2.2.1] := h5
    have e6 : f = [.slice x.2.2.2.2.2.1.1 x.2.2.2.2.2.1.2.1 x.2.2.2.2.2.1.2.2] := h6
    have e7 : g = [.int .u64 x.2.2.2.2.2.2] := h7
    subst e1 e2 e3 e4 e5 e6 e7
    rfl
abbrev ItemP : Type := Int × List Int × Int
def SItem : Sh ItemP := Sh.pair (Sh.int .u64) (Sh.pair (Sh.list (Sh.int .i32)) (Sh.int .u64))
abbrev CallP : Type := Int × ItemP × Int × Int × Int
def SCall : Sh CallP := Sh.pair (Sh.int .i64) (Sh.pair SItem (Sh.pair (Sh.int .i64) (Sh.pair (Sh.int .i64) (Sh.int .u64))))
theorem opens_item : Opens Try.prog 25 SItem (fun p => (Lit.int .u64 p.1).wf = true ∧ (∀ x ∈ p.2.1, (Lit.int .i32 x).wf = true) ∧ (Lit.int .u64 p.2.2).wf = true) :=
  opens_struct Try.underlying25 (by kernel_rfl) (fields_cons rfl (by kernel_rfl) (opens_int Try.underlying22) (fields_cons rfl (by kernel_rfl) (opens_slice Try.underlying23 (by kernel_rfl) (by decide) (opens_int Try.underlying21)) (fields_last rfl (by kernel_rfl) (opens_int Try.underlying22))))
theorem opens_call : Opens Try.prog 27 SCall (fun p => (Lit.int .i64 p.1).wf = true ∧ ((Lit.int .u64 p.2.1.1).wf = true ∧ (∀ x ∈ p.2.1.2.1, (Lit.int .i32 x).wf = true) ∧ (Lit.int .u64 p.2.1.2.2).wf = true) ∧ (Lit.int .i64 p.2.2.1).wf = true ∧ (Lit.int .i64 p.2.2.2.1).wf = true ∧ (Lit.int .u64 p.2.2.2.2).wf = true) :=
  opens_struct Try.underlying27 (by kernel_rfl) (fields_cons rfl (by kernel_rfl) (opens_int Try.underlying3) (fields_cons rfl (by kernel_rfl) opens_item (fields_cons rfl (by kernel_rfl) (opens_int Try.underlying3) (fields_cons rfl (by kernel_rfl) (opens_int Try.underlying3) (fields_last rfl (by kernel_rfl) (opens_int Try.underlying22))))))
/-- a call that came in, as its cells -/
theorem call_cells {w : World} {cs : Array Value} {x : CallP} (h : SCall.rd w (fun b => b < w.heap.size) x cs.toList) : ∃ A n c, cs = callC x.1 x.2.1.1 A n c x.2.1.2.2 x.2.2.1 x.2.2.2.1 x.2.2.2.2 ∧ x.2.1.2.1.length = n ∧ n ≤ c ∧ c ≤ 9223372036854775807 ∧ Rd (Sh.int .i32) w w.heap.size A x.2.1.2.1 := by
  obtain ⟨a, r1, e0, h1, it, r2, rfl, ⟨b, r3, rfl, h2, c, d, rfl, ⟨A, cc, h3, h4, h5, h6⟩, h7⟩, e, r4, rfl, h8, f, g, rfl, h9, h10⟩ := h
  have e1 : a = [.int .i64 x.1] := h1
  have e2 : b = [.int .u64 x.2.1.1] := h2
  have e4 : d = [.int .u64 x.2.1.2.2] := h7
  have e5 : e = [.int .i64 x.2.2.1] := h8
  have e6 : f = [.int .i64 x.2.2.2.1] := h9
  have e7 : g = [.int .u64 x.2.2.2.2] := h10
  subst e1 e2 h3 e4 e5 e6 e7
  refine ⟨A, x.2.1.2.1.length, cc, ?_, rfl, h4, h5, h6⟩
  apply Array.ext'
  rw [e0]; rfl
end Go.Proofs.Ytojanklgjdjniab
