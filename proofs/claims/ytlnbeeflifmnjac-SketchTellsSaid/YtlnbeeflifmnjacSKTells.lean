/-
  The law SketchTells: for every input it returns true, and what came in reads as before. No condition.
-/
import Derived.Test.YtlnbeeflifmnjacRows
import Derived.Test.YtlnbeeflifmnjacOpen
import Derived.Test.YtlnbeeflifmnjacSk8
import Derived.WalkKit
import Derived.ProofKit
import Derived.OpenShut
import Derived.ShutString
import Derived.ChangeOld
import Derived.Below
namespace Go.Proofs.Ytlnbeeflifmnjac.sketchTells
open Go.ChangeShapes Go.WideShapes Go.ChangeAt Go.RowKit
set_option linter.unusedVariables false

theorem own : ownKnob Try.prog.godebug = none := by kernel_rfl
theorem laidOut : laidOutB Try.prog = true := by kernel_rfl

set_option maxHeartbeats 1000000 in
theorem walk (A0 : Option Addr) (n0 c0 : Nat) (x0 : List (Int)) (a1 : Int) (a2 : Int) (a3 : Int) (a4 : Int) (A5 : Option Addr) (n5 c5 : Nat) (x5 : List (List Int)) (A6 : Option Addr) (n6 c6 : Nat) (x6 : List (Int)) (a7 : Int) (w : World) (hl0 : x0.length = n0) (hc0 : n0 ≤ c0) (hm0 : c0 ≤ 9223372036854775807) (hr0 : Rd (Sh.int .i32) w w.heap.size A0 x0) (ok0 : ∀ x ∈ x0, (fun x => (Lit.int .i32 x).wf = true) x) (ok1 : (Lit.int .u64 a1).wf = true) (ok2 : (Lit.int .i64 a2).wf = true) (ok3 : (Lit.int .i64 a3).wf = true) (ok4 : (Lit.int .i64 a4).wf = true) (hl5 : x5.length = n5) (hc5 : n5 ≤ c5) (hm5 : c5 ≤ 9223372036854775807) (hr5 : Rd (Sh.list (Sh.int .u64)) w w.heap.size A5 x5) (ok5 : ∀ x ∈ x5, (fun l => ∀ x ∈ l, (Lit.int .u64 x).wf = true) x) (hl6 : x6.length = n6) (hc6 : n6 ≤ c6) (hm6 : c6 ≤ 9223372036854775807) (hr6 : Rd (Sh.int .u64) w w.heap.size A6 x6) (ok6 : ∀ x ∈ x6, (fun x => (Lit.int .u64 x).wf = true) x) (ok7 : (Lit.int .i64 a7).wf = true) :
    Calls Try.prog 3 #[.slice A0 n0 c0, .int .u64 a1, .int .i64 a2, .int .i64 a3, .int .i64 a4, .slice A5 n5 c5, .slice A6 n6 c6, .int .i64 a7] w fun e w' => e = .returned (.bool true) ∧ Below w.heap.size w w' := by
  exact tells_any a1 a2 a3 a4 a7 hr0 hl0 hc0 (fun x hx => wf_i32 (ok0 x hx)) hr5 hl5 hc5 (fun s hs x hx => by have := wf_u64 (ok5 s hs x hx); omega) hr6 hl6 hc6 hm6 (fun x hx => by have := wf_u64 (ok6 x hx); omega) (by have := wf_i64 ok3; omega) (by have := wf_i64 ok4; omega)

set_option maxRecDepth 100000 in
theorem lifted (os : Os) (started : os.Started) (H : Type) (enc : TypeId × Value → H) :
    ReturnsInHanded {} Try.checked os 3 .any (Rows.sketchTellsSpec.pre6 enc Try.prog Try.f3 Rows.sketchTellsRow.domain false) (Rows.sketchTellsSpec.post enc Try.prog Try.f3 false true false false) := by
  refine returnsInHanded_of_change (C := Try.checked) own started (by kernel_rfl) Try.func3
    (ChangeSpec.witness6 (enc := enc) (C := Try.checked) false ⟨#[], #[.slice none 0 0, .int .u64 0, .int .i64 0, .int .i64 0, .int .i64 0, .slice none 0 0, .slice none 0 0, .int .i64 0], []⟩ 8 (by kernel_rfl) (by kernel_rfl) (by kernel_rfl) (by kernel_rfl)) ?_
  intro W base args ds gs before hval0 hW hcnd _
  have hval : ∀ (j : Nat) t v, Try.f3.params[j]? = some t → args[j]? = some v → Value.okWide Try.prog W .any base t v := hval0
  have hW' := hW
  obtain ⟨p, q, hA0, hV, rfl, hfz, hnd⟩ := hW
  have hA : DataW.TrodAll enc Try.prog W 0 (fun _ => true) true Try.f3.params.toList args.toList ds p := hA0
  rw [Try.params3] at hA hval
  obtain ⟨v0, vs0, d0, ds0, p0, q0, hargs, rfl, rfl, h0, r0⟩ := trodAll_cons hA
  obtain ⟨v1, vs1, d1, ds1, p1, q1, rfl, rfl, rfl, h1, r1⟩ := trodAll_cons r0
  obtain ⟨v2, vs2, d2, ds2, p2, q2, rfl, rfl, rfl, h2, r2⟩ := trodAll_cons r1
  obtain ⟨v3, vs3, d3, ds3, p3, q3, rfl, rfl, rfl, h3, r3⟩ := trodAll_cons r2
  obtain ⟨v4, vs4, d4, ds4, p4, q4, rfl, rfl, rfl, h4, r4⟩ := trodAll_cons r3
  obtain ⟨v5, vs5, d5, ds5, p5, q5, rfl, rfl, rfl, h5, r5⟩ := trodAll_cons r4
  obtain ⟨v6, vs6, d6, ds6, p6, q6, rfl, rfl, rfl, h6, r6⟩ := trodAll_cons r5
  obtain ⟨v7, vs7, d7, ds7, p7, q7, rfl, rfl, rfl, h7, r7⟩ := trodAll_cons r6
  obtain ⟨rfl, rfl, rfl⟩ := trodAll_nil r7
  obtain rfl : args = #[v0, v1, v2, v3, v4, v5, v6, v7] := by cases args; simp_all
  obtain ⟨rfl, rfl⟩ := trodVars_none hV
  have k0 := h0
  have lt0 : ∀ x ∈ p0, x.block < W.heap.size := by obtain ⟨m, hm⟩ := k0; exact DataW.trod_lt m _ _ _ hm
  obtain ⟨fuel0, hf0⟩ := h0
  obtain ⟨A0, n0, c0, rfl⟩ := okWide_slice Try.underlying22 (hval 0 22 v0 rfl rfl)
  obtain ⟨x0, ok0, e0⟩ := (opens_slice (S := Sh.int .i32) Try.underlying22 (by kernel_rfl) (by decide) (opens_int Try.underlying21)) hf0
  obtain ⟨hl0, hc0, hm0, hr0⟩ := sh_list e0
  have k1 := h1
  have lt1 : ∀ x ∈ p1, x.block < W.heap.size := by obtain ⟨m, hm⟩ := k1; exact DataW.trod_lt m _ _ _ hm
  obtain ⟨fuel1, hf1⟩ := h1
  obtain ⟨a1, rfl⟩ := okWide_int Try.underlying23 (hval 1 23 v1 rfl rfl)
  obtain ⟨b1, ok1, e1⟩ := opens_int Try.underlying23 hf1
  have e1' : a1 = b1 := by have := sh_int e1; simpa [Value.cells] using this
  subst e1'
  have k2 := h2
  have lt2 : ∀ x ∈ p2, x.block < W.heap.size := by obtain ⟨m, hm⟩ := k2; exact DataW.trod_lt m _ _ _ hm
  obtain ⟨fuel2, hf2⟩ := h2
  obtain ⟨a2, rfl⟩ := okWide_int Try.underlying3 (hval 2 3 v2 rfl rfl)
  obtain ⟨b2, ok2, e2⟩ := opens_int Try.underlying3 hf2
  have e2' : a2 = b2 := by have := sh_int e2; simpa [Value.cells] using this
  subst e2'
  have k3 := h3
  have lt3 : ∀ x ∈ p3, x.block < W.heap.size := by obtain ⟨m, hm⟩ := k3; exact DataW.trod_lt m _ _ _ hm
  obtain ⟨fuel3, hf3⟩ := h3
  obtain ⟨a3, rfl⟩ := okWide_int Try.underlying3 (hval 3 3 v3 rfl rfl)
  obtain ⟨b3, ok3, e3⟩ := opens_int Try.underlying3 hf3
  have e3' : a3 = b3 := by have := sh_int e3; simpa [Value.cells] using this
  subst e3'
  have k4 := h4
  have lt4 : ∀ x ∈ p4, x.block < W.heap.size := by obtain ⟨m, hm⟩ := k4; exact DataW.trod_lt m _ _ _ hm
  obtain ⟨fuel4, hf4⟩ := h4
  obtain ⟨a4, rfl⟩ := okWide_int Try.underlying3 (hval 4 3 v4 rfl rfl)
  obtain ⟨b4, ok4, e4⟩ := opens_int Try.underlying3 hf4
  have e4' : a4 = b4 := by have := sh_int e4; simpa [Value.cells] using this
  subst e4'
  have k5 := h5
  have lt5 : ∀ x ∈ p5, x.block < W.heap.size := by obtain ⟨m, hm⟩ := k5; exact DataW.trod_lt m _ _ _ hm
  obtain ⟨fuel5, hf5⟩ := h5
  obtain ⟨A5, n5, c5, rfl⟩ := okWide_slice Try.underlying24 (hval 5 24 v5 rfl rfl)
  obtain ⟨x5, ok5, e5⟩ := (opens_slice (S := Sh.list (Sh.int .u64)) Try.underlying24 (by kernel_rfl) (by decide) (opens_slice (S := Sh.int .u64) Try.underlying25 (by kernel_rfl) (by decide) (opens_int Try.underlying23))) hf5
  obtain ⟨hl5, hc5, hm5, hr5⟩ := sh_list e5
  have k6 := h6
  have lt6 : ∀ x ∈ p6, x.block < W.heap.size := by obtain ⟨m, hm⟩ := k6; exact DataW.trod_lt m _ _ _ hm
  obtain ⟨fuel6, hf6⟩ := h6
  obtain ⟨A6, n6, c6, rfl⟩ := okWide_slice Try.underlying25 (hval 6 25 v6 rfl rfl)
  obtain ⟨x6, ok6, e6⟩ := (opens_slice (S := Sh.int .u64) Try.underlying25 (by kernel_rfl) (by decide) (opens_int Try.underlying23)) hf6
  obtain ⟨hl6, hc6, hm6, hr6⟩ := sh_list e6
  have k7 := h7
  have lt7 : ∀ x ∈ p7, x.block < W.heap.size := by obtain ⟨m, hm⟩ := k7; exact DataW.trod_lt m _ _ _ hm
  obtain ⟨fuel7, hf7⟩ := h7
  obtain ⟨a7, rfl⟩ := okWide_int Try.underlying3 (hval 7 3 v7 rfl rfl)
  obtain ⟨b7, ok7, e7⟩ := opens_int Try.underlying3 hf7
  have e7' : a7 = b7 := by have := sh_int e7; simpa [Value.cells] using this
  subst e7'
  clear hA0 hval0
  refine (walk A0 n0 c0 x0 a1 a2 a3 a4 A5 n5 c5 x5 A6 n6 c6 x6 a7 W hl0 hc0 hm0 hr0 ok0 ok1 ok2 ok3 ok4 hl5 hc5 hm5 hr5 ok5 hl6 hc6 hm6 hr6 ok6 ok7).mono fun e W' ⟨he, bel⟩ => ?_
  subst he
  exact ⟨_, rfl, _, _, _, [], _, [], hW', trodAll_mk1 (shut_bool Try.underlying4 _), (trodAll_cons_mk (Below.trod laidOut (by kernel_rfl) (of_decide_eq_true (by kernel_rfl)) k0 bel lt0) (trodAll_cons_mk (Below.trod laidOut (by kernel_rfl) (of_decide_eq_true (by kernel_rfl)) k1 bel lt1) (trodAll_cons_mk (Below.trod laidOut (by kernel_rfl) (of_decide_eq_true (by kernel_rfl)) k2 bel lt2) (trodAll_cons_mk (Below.trod laidOut (by kernel_rfl) (of_decide_eq_true (by kernel_rfl)) k3 bel lt3) (trodAll_cons_mk (Below.trod laidOut (by kernel_rfl) (of_decide_eq_true (by kernel_rfl)) k4 bel lt4) (trodAll_cons_mk (Below.trod laidOut (by kernel_rfl) (of_decide_eq_true (by kernel_rfl)) k5 bel lt5) (trodAll_cons_mk (Below.trod laidOut (by kernel_rfl) (of_decide_eq_true (by kernel_rfl)) k6 bel lt6) (trodAll_cons_mk (Below.trod laidOut (by kernel_rfl) (of_decide_eq_true (by kernel_rfl)) k7 bel lt7) trodAll_mk0)))))))), rfl, bel.frame _, fun h => by cases h⟩

theorem over : Rows.sketchTellsRow.holds Try.pinned (OpenSpec.ofChange Rows.sketchTellsSpec) :=
  OpenClaim.holds_of_wide 3 Try.f3 rfl rfl rfl rfl rfl rfl rfl ⟨rfl, rfl, rfl, rfl, rfl⟩ rfl rfl rfl rfl rfl (by kernel_rfl) Try.func3 (by kernel_rfl)
    (of_decide_eq_true (by kernel_rfl)) (by unfold Func.isWrapper; first | (rw [if_pos (by decide +kernel)]; kernel_rfl) | (rw [if_neg (by decide +kernel)]; exact ⟨rfl, rfl⟩))
    (fun os started H enc _ => lifted os started H enc)

theorem proved : Rows.SketchTellsSaid := over
#print axioms proved
end Go.Proofs.Ytlnbeeflifmnjac.sketchTells
