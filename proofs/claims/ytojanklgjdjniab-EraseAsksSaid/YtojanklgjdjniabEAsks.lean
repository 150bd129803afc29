/-
  The law EraseAsks: for every input it returns true, and what came in reads as before. No condition.
-/
import Derived.Test.YtojanklgjdjniabRows
import Derived.Test.YtojanklgjdjniabOpen
import Derived.Test.YtojanklgjdjniabErK
import Derived.Test.YtojanklgjdjniabErL
import Derived.WalkKit
import Derived.ProofKit
import Derived.OpenShut
import Derived.ShutString
import Derived.ChangeOld
import Derived.Below
namespace Go.Proofs.Ytojanklgjdjniab.eraseAsks
open Go.ChangeShapes Go.WideShapes Go.ChangeAt Go.RowKit
set_option linter.unusedVariables false

theorem own : ownKnob Try.prog.godebug = none := by kernel_rfl
theorem laidOut : laidOutB Try.prog = true := by kernel_rfl

set_option maxHeartbeats 1000000 in
theorem walk (cs0 : Array Value) (x0 : CallP) (a1 : Int) (A2 : Option Addr) (n2 c2 : Nat) (x2 : List (GotR)) (w : World) (hr0 : (SCall).rd w (fun b => b < w.heap.size) x0 cs0.toList) (ok0 : (fun p => (Lit.int .i64 p.1).wf = true ∧ ((Lit.int .u64 p.2.1.1).wf = true ∧ (∀ x ∈ p.2.1.2.1, (Lit.int .i32 x).wf = true) ∧ (Lit.int .u64 p.2.1.2.2).wf = true) ∧ (Lit.int .i64 p.2.2.1).wf = true ∧ (Lit.int .i64 p.2.2.2.1).wf = true ∧ (Lit.int .u64 p.2.2.2.2).wf = true) x0) (ok1 : (Lit.int .i64 a1).wf = true) (hl2 : x2.length = n2) (hc2 : n2 ≤ c2) (hm2 : c2 ≤ 9223372036854775807) (hr2 : Rd (SG) w w.heap.size A2 x2) (ok2 : ∀ x ∈ x2, (fun _ => True) x) :
    Calls Try.prog 3 #[.agg cs0, .int .i64 a1, .slice A2 n2 c2] w fun e w' => e = .returned (.bool true) ∧ Below w.heap.size w w' := by
  obtain ⟨A, n, c, rfl, hl0, hc0, hm0, hr⟩ := call_cells hr0
  exact asks_any x0.1 x0.2.1.1 A n c x0.2.1.2.2 x0.2.2.1 x0.2.2.2.1 x0.2.2.2.2 a1 x0.2.1.2.1 A2 n2 c2 x2 w hr hl0 hc0 hm0 hr2 hl2 hc2 hm2

set_option maxRecDepth 100000 in
theorem lifted (os : Os) (started : os.Started) (H : Type) (enc : TypeId × Value → H) :
    ReturnsInHanded {} Try.checked os 3 .any (Rows.eraseAsksSpec.pre6 enc Try.prog Try.f3 Rows.eraseAsksRow.domain false) (Rows.eraseAsksSpec.post enc Try.prog Try.f3 false true false false) := by
  refine returnsInHanded_of_change (C := Try.checked) own started (by kernel_rfl) Try.func3
    (ChangeSpec.witness6 (enc := enc) (C := Try.checked) false ⟨#[], #[.agg #[.int .i64 0, .int .u64 0, .slice none 0 0, .int .u64 0, .int .i64 0, .int .i64 0, .int .u64 0], .int .i64 0, .slice none 0 0], []⟩ 8 (by kernel_rfl) (by kernel_rfl) (by kernel_rfl) (by kernel_rfl)) ?_
  intro W base args ds gs before hval0 hW hcnd _
  have hval : ∀ (j : Nat) t v, Try.f3.params[j]? = some t → args[j]? = some v → Value.okWide Try.prog W .any base t v := hval0
  have hW' := hW
  obtain ⟨p, q, hA0, hV, rfl, hfz, hnd⟩ := hW
  have hA : DataW.TrodAll enc Try.prog W 0 (fun _ => true) true Try.f3.params.toList args.toList ds p := hA0
  rw [Try.params3] at hA hval
  obtain ⟨v0, vs0, d0, ds0, p0, q0, hargs, rfl, rfl, h0, r0⟩ := trodAll_cons hA
  obtain ⟨v1, vs1, d1, ds1, p1, q1, rfl, rfl, rfl, h1, r1⟩ := trodAll_cons r0
  obtain ⟨v2, vs2, d2, ds2, p2, q2, rfl, rfl, rfl, h2, r2⟩ := trodAll_cons r1
  obtain ⟨rfl, rfl, rfl⟩ := trodAll_nil r2
  obtain rfl : args = #[v0, v1, v2] := by cases args; simp_all
  obtain ⟨rfl, rfl⟩ := trodVars_none hV
  have k0 := h0
  have lt0 : ∀ x ∈ p0, x.block < W.heap.size := by obtain ⟨m, hm⟩ := k0; exact DataW.trod_lt m _ _ _ hm
  obtain ⟨fuel0, hf0⟩ := h0
  obtain ⟨cs0, rfl, _⟩ := okWide_struct Try.underlying27 (hval 0 27 v0 rfl rfl)
  obtain ⟨x0, ok0, hr0⟩ := (opens_call) hf0
  have k1 := h1
  have lt1 : ∀ x ∈ p1, x.block < W.heap.size := by obtain ⟨m, hm⟩ := k1; exact DataW.trod_lt m _ _ _ hm
  obtain ⟨fuel1, hf1⟩ := h1
  obtain ⟨a1, rfl⟩ := okWide_int Try.underlying3 (hval 1 3 v1 rfl rfl)
  obtain ⟨b1, ok1, e1⟩ := opens_int Try.underlying3 hf1
  have e1' : a1 = b1 := by have := sh_int e1; simpa [Value.cells] using this
  subst e1'
  have k2 := h2
  have lt2 : ∀ x ∈ p2, x.block < W.heap.size := by obtain ⟨m, hm⟩ := k2; exact DataW.trod_lt m _ _ _ hm
  obtain ⟨fuel2, hf2⟩ := h2
  obtain ⟨A2, n2, c2, rfl⟩ := okWide_slice Try.underlying28 (hval 2 28 v2 rfl rfl)
  obtain ⟨x2, ok2, e2⟩ := (opens_slice (S := SG) Try.underlying28 (by kernel_rfl) (by decide) (opens_got)) hf2
  obtain ⟨hl2, hc2, hm2, hr2⟩ := sh_list e2
  clear hA0 hval0
  refine (walk cs0 x0 a1 A2 n2 c2 x2 W hr0 ok0 ok1 hl2 hc2 hm2 hr2 ok2).mono fun e W' ⟨he, bel⟩ => ?_
  subst he
  exact ⟨_, rfl, _, _, _, [], _, [], hW', trodAll_mk1 (shut_bool Try.underlying4 _), (trodAll_cons_mk (Below.trod laidOut (by kernel_rfl) (of_decide_eq_true (by kernel_rfl)) k0 bel lt0) (trodAll_cons_mk (Below.trod laidOut (by kernel_rfl) (of_decide_eq_true (by kernel_rfl)) k1 bel lt1) (trodAll_cons_mk (Below.trod laidOut (by kernel_rfl) (of_decide_eq_true (by kernel_rfl)) k2 bel lt2) trodAll_mk0))), rfl, bel.frame _, fun h => by cases h⟩

theorem over : Rows.eraseAsksRow.holds Try.pinned (OpenSpec.ofChange Rows.eraseAsksSpec) :=
  OpenClaim.holds_of_wide 3 Try.f3 rfl rfl rfl rfl rfl rfl rfl ⟨rfl, rfl, rfl, rfl, rfl⟩ rfl rfl rfl rfl rfl (by kernel_rfl) Try.func3 (by kernel_rfl)
    (of_decide_eq_true (by kernel_rfl)) (by unfold Func.isWrapper; first | (rw [if_pos (by decide +kernel)]; kernel_rfl) | (rw [if_neg (by decide +kernel)]; exact ⟨rfl, rfl⟩))
    (fun os started H enc _ => lifted os started H enc)

theorem proved : Rows.EraseAsksSaid := over
#print axioms proved
end Go.Proofs.Ytojanklgjdjniab.eraseAsks
