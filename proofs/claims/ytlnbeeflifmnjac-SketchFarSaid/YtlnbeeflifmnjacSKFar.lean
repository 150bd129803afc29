/-
  The law SketchFar: for every input it returns true, and what came in reads as before. No condition.
-/
import Derived.Test.YtlnbeeflifmnjacRows
import Derived.Test.YtlnbeeflifmnjacOpen
import Derived.Test.YtlnbeeflifmnjacSk9
import Derived.WalkKit
import Derived.ProofKit
import Derived.OpenShut
import Derived.ShutString
import Derived.ChangeOld
import Derived.Below
namespace Go.Proofs.Ytlnbeeflifmnjac.sketchFar
open Go.ChangeShapes Go.WideShapes Go.ChangeAt Go.RowKit
set_option linter.unusedVariables false

theorem own : ownKnob Try.prog.godebug = none := by kernel_rfl
theorem laidOut : laidOutB Try.prog = true := by kernel_rfl

set_option maxHeartbeats 1000000 in
theorem walk (A0 : Option Addr) (n0 c0 : Nat) (x0 : List (Int)) (A1 : Option Addr) (n1 c1 : Nat) (x1 : List (Int)) (A2 : Option Addr) (n2 c2 : Nat) (x2 : List (Int)) (A3 : Option Addr) (n3 c3 : Nat) (x3 : List (Int)) (a4 : Int) (a5 : Int) (w : World) (hl0 : x0.length = n0) (hc0 : n0 ≤ c0) (hm0 : c0 ≤ 9223372036854775807) (hr0 : Rd (Sh.int .u64) w w.heap.size A0 x0) (ok0 : ∀ x ∈ x0, (fun x => (Lit.int .u64 x).wf = true) x) (hl1 : x1.length = n1) (hc1 : n1 ≤ c1) (hm1 : c1 ≤ 9223372036854775807) (hr1 : Rd (Sh.int .u64) w w.heap.size A1 x1) (ok1 : ∀ x ∈ x1, (fun x => (Lit.int .u64 x).wf = true) x) (hl2 : x2.length = n2) (hc2 : n2 ≤ c2) (hm2 : c2 ≤ 9223372036854775807) (hr2 : Rd (Sh.int .u64) w w.heap.size A2 x2) (ok2 : ∀ x ∈ x2, (fun x => (Lit.int .u64 x).wf = true) x) (hl3 : x3.length = n3) (hc3 : n3 ≤ c3) (hm3 : c3 ≤ 9223372036854775807) (hr3 : Rd (Sh.int .i32) w w.heap.size A3 x3) (ok3 : ∀ x ∈ x3, (fun x => (Lit.int .i32 x).wf = true) x) (ok4 : (Lit.int .u64 a4).wf = true) (ok5 : (Lit.int .i64 a5).wf = true) :
    Calls Try.prog 4 #[.slice A0 n0 c0, .slice A1 n1 c1, .slice A2 n2 c2, .slice A3 n3 c3, .int .u64 a4, .int .i64 a5] w fun e w' => e = .returned (.bool true) ∧ Below w.heap.size w w' := by
  exact far_any a4 a5 hr0 hl0 hc0 hm0 (fun x hx => by have := wf_u64 (ok0 x hx); omega) hr1 hl1 hc1 hm1 (fun x hx => by have := wf_u64 (ok1 x hx); omega) hr2 hl2 hc2 hm2 (fun x hx => by have := wf_u64 (ok2 x hx); omega) hr3 hl3 hc3 (fun x hx => wf_i32 (ok3 x hx)) (wf_i64 ok5)

set_option maxRecDepth 100000 in
theorem lifted (os : Os) (started : os.Started) (H : Type) (enc : TypeId × Value → H) :
    ReturnsInHanded {} Try.checked os 4 .any (Rows.sketchFarSpec.pre6 enc Try.prog Try.f4 Rows.sketchFarRow.domain false) (Rows.sketchFarSpec.post enc Try.prog Try.f4 false true false false) := by
  refine returnsInHanded_of_change (C := Try.checked) own started (by kernel_rfl) Try.func4
    (ChangeSpec.witness6 (enc := enc) (C := Try.checked) false ⟨#[], #[.slice none 0 0, .slice none 0 0, .slice none 0 0, .slice none 0 0, .int .u64 0, .int .i64 0], []⟩ 8 (by kernel_rfl) (by kernel_rfl) (by kernel_rfl) (by kernel_rfl)) ?_
  intro W base args ds gs before hval0 hW hcnd _
  have hval : ∀ (j : Nat) t v, Try.f4.params[j]? = some t → args[j]? = some v → Value.okWide Try.prog W .any base t v := hval0
  have hW' := hW
  obtain ⟨p, q, hA0, hV, rfl, hfz, hnd⟩ := hW
  have hA : DataW.TrodAll enc Try.prog W 0 (fun _ => true) true Try.f4.params.toList args.toList ds p := hA0
  rw [Try.params4] at hA hval
  obtain ⟨v0, vs0, d0, ds0, p0, q0, hargs, rfl, rfl, h0, r0⟩ := trodAll_cons hA
  obtain ⟨v1, vs1, d1, ds1, p1, q1, rfl, rfl, rfl, h1, r1⟩ := trodAll_cons r0
  obtain ⟨v2, vs2, d2, ds2, p2, q2, rfl, rfl, rfl, h2, r2⟩ := trodAll_cons r1
  obtain ⟨v3, vs3, d3, ds3, p3, q3, rfl, rfl, rfl, h3, r3⟩ := trodAll_cons r2
  obtain ⟨v4, vs4, d4, ds4, p4, q4, rfl, rfl, rfl, h4, r4⟩ := trodAll_cons r3
  obtain ⟨v5, vs5, d5, ds5, p5, q5, rfl, rfl, rfl, h5, r5⟩ := trodAll_cons r4
  obtain ⟨rfl, rfl, rfl⟩ := trodAll_nil r5
  obtain rfl : args = #[v0, v1, v2, v3, v4, v5] := by cases args; simp_all
  obtain ⟨rfl, rfl⟩ := trodVars_none hV
  have k0 := h0
  have lt0 : ∀ x ∈ p0, x.block < W.heap.size := by obtain ⟨m, hm⟩ := k0; exact DataW.trod_lt m _ _ _ hm
  obtain ⟨fuel0, hf0⟩ := h0
  obtain ⟨A0, n0, c0, rfl⟩ := okWide_slice Try.underlying25 (hval 0 25 v0 rfl rfl)
  obtain ⟨x0, ok0, e0⟩ := (opens_slice (S := Sh.int .u64) Try.underlying25 (by kernel_rfl) (by decide) (opens_int Try.underlying23)) hf0
  obtain ⟨hl0, hc0, hm0, hr0⟩ := sh_list e0
  have k1 := h1
  have lt1 : ∀ x ∈ p1, x.block < W.heap.size := by obtain ⟨m, hm⟩ := k1; exact DataW.trod_lt m _ _ _ hm
  obtain ⟨fuel1, hf1⟩ := h1
  obtain ⟨A1, n1, c1, rfl⟩ := okWide_slice Try.underlying25 (hval 1 25 v1 rfl rfl)
  obtain ⟨x1, ok1, e1⟩ := (opens_slice (S := Sh.int .u64) Try.underlying25 (by kernel_rfl) (by decide) (opens_int Try.underlying23)) hf1
  obtain ⟨hl1, hc1, hm1, hr1⟩ := sh_list e1
  have k2 := h2
  have lt2 : ∀ x ∈ p2, x.block < W.heap.size := by obtain ⟨m, hm⟩ := k2; exact DataW.trod_lt m _ _ _ hm
  obtain ⟨fuel2, hf2⟩ := h2
  obtain ⟨A2, n2, c2, rfl⟩ := okWide_slice Try.underlying25 (hval 2 25 v2 rfl rfl)
  obtain ⟨x2, ok2, e2⟩ := (opens_slice (S := Sh.int .u64) Try.underlying25 (by kernel_rfl) (by decide) (opens_int Try.underlying23)) hf2
  obtain ⟨hl2, hc2, hm2, hr2⟩ := sh_list e2
  have k3 := h3
  have lt3 : ∀ x ∈ p3, x.block < W.heap.size := by obtain ⟨m, hm⟩ := k3; exact DataW.trod_lt m _ _ _ hm
  obtain ⟨fuel3, hf3⟩ := h3
  obtain ⟨A3, n3, c3, rfl⟩ := okWide_slice Try.underlying22 (hval 3 22 v3 rfl rfl)
  obtain ⟨x3, ok3, e3⟩ := (opens_slice (S := Sh.int .i32) Try.underlying22 (by kernel_rfl) (by decide) (opens_int Try.underlying21)) hf3
  obtain ⟨hl3, hc3, hm3, hr3⟩ := sh_list e3
  have k4 := h4
  have lt4 : ∀ x ∈ p4, x.block < W.heap.size := by obtain ⟨m, hm⟩ := k4; exact DataW.trod_lt m _ _ _ hm
  obtain ⟨fuel4, hf4⟩ := h4
  obtain ⟨a4, rfl⟩ := okWide_int Try.underlying23 (hval 4 23 v4 rfl rfl)
  obtain ⟨b4, ok4, e4⟩ := opens_int Try.underlying23 hf4
  have e4' : a4 = b4 := by have := sh_int e4; simpa [Value.cells] using this
  subst e4'
  have k5 := h5
  have lt5 : ∀ x ∈ p5, x.block < W.heap.size := by obtain ⟨m, hm⟩ := k5; exact DataW.trod_lt m _ _ _ hm
  obtain ⟨fuel5, hf5⟩ := h5
  obtain ⟨a5, rfl⟩ := okWide_int Try.underlying3 (hval 5 3 v5 rfl rfl)
  obtain ⟨b5, ok5, e5⟩ := opens_int Try.underlying3 hf5
  have e5' : a5 = b5 := by have := sh_int e5; simpa [Value.cells] using this
  subst e5'
  clear hA0 hval0
  refine (walk A0 n0 c0 x0 A1 n1 c1 x1 A2 n2 c2 x2 A3 n3 c3 x3 a4 a5 W hl0 hc0 hm0 hr0 ok0 hl1 hc1 hm1 hr1 ok1 hl2 hc2 hm2 hr2 ok2 hl3 hc3 hm3 hr3 ok3 ok4 ok5).mono fun e W' ⟨he, bel⟩ => ?_
  subst he
  exact ⟨_, rfl, _, _, _, [], _, [], hW', trodAll_mk1 (shut_bool Try.underlying4 _), (trodAll_cons_mk (Below.trod laidOut (by kernel_rfl) (of_decide_eq_true (by kernel_rfl)) k0 bel lt0) (trodAll_cons_mk (Below.trod laidOut (by kernel_rfl) (of_decide_eq_true (by kernel_rfl)) k1 bel lt1) (trodAll_cons_mk (Below.trod laidOut (by kernel_rfl) (of_decide_eq_true (by kernel_rfl)) k2 bel lt2) (trodAll_cons_mk (Below.trod laidOut (by kernel_rfl) (of_decide_eq_true (by kernel_rfl)) k3 bel lt3) (trodAll_cons_mk (Below.trod laidOut (by kernel_rfl) (of_decide_eq_true (by kernel_rfl)) k4 bel lt4) (trodAll_cons_mk (Below.trod laidOut (by kernel_rfl) (of_decide_eq_true (by kernel_rfl)) k5 bel lt5) trodAll_mk0)))))), rfl, bel.frame _, fun h => by cases h⟩

theorem over : Rows.sketchFarRow.holds Try.pinned (OpenSpec.ofChange Rows.sketchFarSpec) :=
  OpenClaim.holds_of_wide 4 Try.f4 rfl rfl rfl rfl rfl rfl rfl ⟨rfl, rfl, rfl, rfl, rfl⟩ rfl rfl rfl rfl rfl (by kernel_rfl) Try.func4 (by kernel_rfl)
    (of_decide_eq_true (by kernel_rfl)) (by unfold Func.isWrapper; first | (rw [if_pos (by decide +kernel)]; kernel_rfl) | (rw [if_neg (by decide +kernel)]; exact ⟨rfl, rfl⟩))
    (fun os started H enc _ => lifted os started H enc)

theorem proved : Rows.SketchFarSaid := over
#print axioms proved
end Go.Proofs.Ytlnbeeflifmnjac.sketchFar
