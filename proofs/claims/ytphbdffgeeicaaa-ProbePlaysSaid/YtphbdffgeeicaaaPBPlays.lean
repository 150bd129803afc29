/-
  The law ProbePlays: for every input it returns true, and what came in reads as before. No condition.
-/
import Derived.Test.YtphbdffgeeicaaaRows
import Derived.Test.YtphbdffgeeicaaaOpen
import Derived.Test.YtphbdffgeeicaaaPrbW
import Derived.WalkKit
import Derived.ProofKit
import Derived.OpenShut
import Derived.ShutString
import Derived.ChangeOld
import Derived.Below
namespace Go.Proofs.Ytphbdffgeeicaaa.probePlays
open Go.ChangeShapes Go.WideShapes Go.ChangeAt Go.RowKit
set_option linter.unusedVariables false

theorem own : ownKnob Try.prog.godebug = none := by kernel_rfl
theorem laidOut : laidOutB Try.prog = true := by kernel_rfl

set_option maxHeartbeats 1000000 in
theorem walk (A0 : Option Addr) (n0 c0 : Nat) (x0 : List (Int)) (a1 : Int) (a2 : Int) (A3 : Option Addr) (n3 c3 : Nat) (x3 : List (DeedP)) (w : World) (hl0 : x0.length = n0) (hc0 : n0 ≤ c0) (hm0 : c0 ≤ 9223372036854775807) (hr0 : Rd (Sh.int .i32) w w.heap.size A0 x0) (ok0 : ∀ x ∈ x0, (fun p => (Lit.int .i32 p).wf = true) x) (hz0 : n0 * 4 ≤ 140737488351232) (ok1 : (Lit.int .u64 a1).wf = true) (ok2 : (Lit.int .i64 a2).wf = true) (hl3 : x3.length = n3) (hc3 : n3 ≤ c3) (hm3 : c3 ≤ 9223372036854775807) (hr3 : Rd (SDP) w w.heap.size A3 x3) (ok3 : ∀ x ∈ x3, (fun p => True ∧ (Lit.int .i64 p.2.1).wf = true ∧ ((Lit.int .u64 p.2.2.1).wf = true ∧ (∀ x ∈ p.2.2.2.1, (Lit.int .i32 x).wf = true) ∧ (Lit.int .u64 p.2.2.2.2).wf = true)) x) :
    Calls Try.prog 3 #[.slice A0 n0 c0, .int .u64 a1, .int .i64 a2, .slice A3 n3 c3] w fun e w' => e = .returned (.bool true) ∧ Below w.heap.size w w' := by
  exact prPlays_any A0 n0 c0 x0 a1 a2 A3 n3 c3 x3 w hr0 hl0 hc0 hm0 (i32_of ok0) (by omega) (u64_of ok1) hr3 hl3 hc3 hm3 (fun d hd => ⟨(ok3 d hd).2.1, i32_of (ok3 d hd).2.2.2.1⟩)

set_option maxRecDepth 100000 in
theorem lifted (os : Os) (started : os.Started) (H : Type) (enc : TypeId × Value → H) :
    ReturnsInHanded {} Try.checked os 3 .any (Rows.probePlaysSpec.pre6 enc Try.prog Try.f3 Rows.probePlaysRow.domain false) (Rows.probePlaysSpec.post enc Try.prog Try.f3 false true false false) := by
  refine returnsInHanded_of_change_sized (C := Try.checked) own started (by kernel_rfl) Try.func3
    (ChangeSpec.witness6 (enc := enc) (C := Try.checked) false ⟨#[], #[.slice none 0 0, .int .u64 0, .int .i64 0, .slice none 0 0], []⟩ 8 (by kernel_rfl) (by kernel_rfl) (by kernel_rfl) (by kernel_rfl)) ?_
  intro W base args ds gs before hval0 hW hcnd hsz _
  have hval : ∀ (j : Nat) t v, Try.f3.params[j]? = some t → args[j]? = some v → Value.okWide Try.prog W .any base t v := hval0
  have hW' := hW
  obtain ⟨p, q, hA0, hV, rfl, hfz, hnd⟩ := hW
  have hA : DataW.TrodAll enc Try.prog W 0 (fun _ => true) true Try.f3.params.toList args.toList ds p := hA0
  rw [Try.params3] at hA hval hsz
  obtain ⟨v0, vs0, d0, ds0, p0, q0, hargs, rfl, rfl, h0, r0⟩ := trodAll_cons hA
  obtain ⟨v1, vs1, d1, ds1, p1, q1, rfl, rfl, rfl, h1, r1⟩ := trodAll_cons r0
  obtain ⟨v2, vs2, d2, ds2, p2, q2, rfl, rfl, rfl, h2, r2⟩ := trodAll_cons r1
  obtain ⟨v3, vs3, d3, ds3, p3, q3, rfl, rfl, rfl, h3, r3⟩ := trodAll_cons r2
  obtain ⟨rfl, rfl, rfl⟩ := trodAll_nil r3
  obtain rfl : args = #[v0, v1, v2, v3] := by cases args; simp_all
  obtain ⟨rfl, rfl⟩ := trodVars_none hV
  have k0 := h0
  have lt0 : ∀ x ∈ p0, x.block < W.heap.size := by obtain ⟨m, hm⟩ := k0; exact DataW.trod_lt m _ _ _ hm
  obtain ⟨fuel0, hf0⟩ := h0
  obtain ⟨A0, n0, c0, rfl⟩ := okWide_slice Try.underlying22 (hval 0 22 v0 rfl rfl)
  obtain ⟨x0, ok0, e0⟩ := (opens_slice (S := Sh.int .i32) Try.underlying22 (by kernel_rfl) (by decide) (opens_int Try.underlying21)) hf0
  obtain ⟨hl0, hc0, hm0, hr0⟩ := sh_list e0
  have hz0 : n0 * 4 ≤ 140737488351232 := sized_len Try.underlying22 hf0 (show Try.prog.bytesOf 21 = 4 by kernel_rfl) (fun elems sp e => by subst e; exact sized_slice hsz (j := 0) (t := 22) (e := 21) rfl rfl Try.underlying22)
  have k1 := h1
  have lt1 : ∀ x ∈ p1, x.block < W.heap.size := by obtain ⟨m, hm⟩ := k1; exact DataW.trod_lt m _ _ _ hm
  obtain ⟨fuel1, hf1⟩ := h1
  obtain ⟨a1, rfl⟩ := okWide_int Try.underlying23 (hval 1 23 v1 rfl rfl)
  obtain ⟨b1, ok1, e1⟩ := opens_int Try.underlying23 hf1
  have e1' : a1 = b1 := by have := sh_int e1; simpa [Value.cells] using this
  subst e1'
  have k2 := h2
  have lt2 : ∀ x ∈ p2, x.block < W.heap.size := by obtain ⟨m, hm⟩ := k2; exact DataW.trod_lt m _ _ _ hm
  obtain ⟨fuel2, hf2⟩ := h2
  obtain ⟨a2, rfl⟩ := okWide_int Try.underlying3 (hval 2 3 v2 rfl rfl)
  obtain ⟨b2, ok2, e2⟩ := opens_int Try.underlying3 hf2
  have e2' : a2 = b2 := by have := sh_int e2; simpa [Value.cells] using this
  subst e2'
  have k3 := h3
  have lt3 : ∀ x ∈ p3, x.block < W.heap.size := by obtain ⟨m, hm⟩ := k3; exact DataW.trod_lt m _ _ _ hm
  obtain ⟨fuel3, hf3⟩ := h3
  obtain ⟨A3, n3, c3, rfl⟩ := okWide_slice Try.underlying24 (hval 3 24 v3 rfl rfl)
  obtain ⟨x3, ok3, e3⟩ := (opens_slice (S := SDP) Try.underlying24 (by kernel_rfl) (by decide) (opens_deedP)) hf3
  obtain ⟨hl3, hc3, hm3, hr3⟩ := sh_list e3
  clear hA0 hval0
  refine (walk A0 n0 c0 x0 a1 a2 A3 n3 c3 x3 W hl0 hc0 hm0 hr0 ok0 hz0 ok1 ok2 hl3 hc3 hm3 hr3 ok3).mono fun e W' ⟨he, bel⟩ => ?_
  subst he
  exact ⟨_, rfl, _, _, _, [], _, [], hW', trodAll_mk1 (shut_bool Try.underlying4 _), (trodAll_cons_mk (Below.trod laidOut (by kernel_rfl) (of_decide_eq_true (by kernel_rfl)) k0 bel lt0) (trodAll_cons_mk (Below.trod laidOut (by kernel_rfl) (of_decide_eq_true (by kernel_rfl)) k1 bel lt1) (trodAll_cons_mk (Below.trod laidOut (by kernel_rfl) (of_decide_eq_true (by kernel_rfl)) k2 bel lt2) (trodAll_cons_mk (Below.trod laidOut (by kernel_rfl) (of_decide_eq_true (by kernel_rfl)) k3 bel lt3) trodAll_mk0)))), rfl, bel.frame _, fun h => by cases h⟩

theorem over : Rows.probePlaysRow.holds Try.pinned (OpenSpec.ofChange Rows.probePlaysSpec) :=
  OpenClaim.holds_of_wide 3 Try.f3 rfl rfl rfl rfl rfl rfl rfl ⟨rfl, rfl, rfl, rfl, rfl⟩ rfl rfl rfl rfl rfl (by kernel_rfl) Try.func3 (by kernel_rfl)
    (of_decide_eq_true (by kernel_rfl)) (by unfold Func.isWrapper; first | (rw [if_pos (by decide +kernel)]; kernel_rfl) | (rw [if_neg (by decide +kernel)]; exact ⟨rfl, rfl⟩))
    (fun os started H enc _ => lifted os started H enc)

theorem proved : Rows.ProbePlaysSaid := over
#print axioms proved
end Go.Proofs.Ytphbdffgeeicaaa.probePlays
