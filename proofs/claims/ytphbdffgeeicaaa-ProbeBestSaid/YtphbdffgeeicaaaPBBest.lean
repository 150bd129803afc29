/-
  The law ProbeBest: for every input it returns true, and what came in reads as before. No condition.
-/
import Derived.Test.YtphbdffgeeicaaaRows
import Derived.Test.YtphbdffgeeicaaaOpen
import Derived.Test.YtphbdffgeeicaaaPrbW
import Derived.Test.YtphbdffgeeicaaaMgE
import Derived.WalkKit
import Derived.ProofKit
import Derived.OpenShut
import Derived.ShutString
import Derived.ChangeOld
import Derived.Below
namespace Go.Proofs.Ytphbdffgeeicaaa.probeBest
open Go.ChangeShapes Go.WideShapes Go.ChangeAt Go.RowKit
set_option linter.unusedVariables false

theorem own : ownKnob Try.prog.godebug = none := by kernel_rfl
theorem laidOut : laidOutB Try.prog = true := by kernel_rfl

set_option maxHeartbeats 1000000 in
theorem walk (A0 : Option Addr) (n0 c0 : Nat) (x0 : List (Int)) (a1 : Int) (A2 : Option Addr) (n2 c2 : Nat) (x2 : List (ItemP)) (a3 : Int) (w : World) (hl0 : x0.length = n0) (hc0 : n0 ≤ c0) (hm0 : c0 ≤ 9223372036854775807) (hr0 : Rd (Sh.int .i32) w w.heap.size A0 x0) (ok0 : ∀ x ∈ x0, (fun p => (Lit.int .i32 p).wf = true) x) (hz0 : n0 * 4 ≤ 140737488351232) (ok1 : (Lit.int .u64 a1).wf = true) (hl2 : x2.length = n2) (hc2 : n2 ≤ c2) (hm2 : c2 ≤ 9223372036854775807) (hr2 : Rd (SItem) w w.heap.size A2 x2) (ok2 : ∀ x ∈ x2, (fun p => (Lit.int .u64 p.1).wf = true ∧ (∀ x ∈ p.2.1, (Lit.int .i32 x).wf = true) ∧ (Lit.int .u64 p.2.2).wf = true) x) (ok3 : (Lit.int .i64 a3).wf = true) :
    Calls Try.prog 4 #[.slice A0 n0 c0, .int .u64 a1, .slice A2 n2 c2, .int .i64 a3] w fun e w' => e = .returned (.bool true) ∧ Below w.heap.size w w' := by
  exact prBest_any A0 n0 c0 x0 a1 A2 n2 c2 x2 a3 w hr0 hl0 hc0 hm0 (i32_of ok0) (by omega) (u64_of ok1) hr2 hl2 hc2 hm2 (fun it hi => i32_of (ok2 it hi).2.1)

set_option maxRecDepth 100000 in
theorem lifted (os : Os) (started : os.Started) (H : Type) (enc : TypeId × Value → H) :
    ReturnsInHanded {} Try.checked os 4 .any (Rows.probeBestSpec.pre6 enc Try.prog Try.f4 Rows.probeBestRow.domain false) (Rows.probeBestSpec.post enc Try.prog Try.f4 false true false false) := by
  refine returnsInHanded_of_change_sized (C := Try.checked) own started (by kernel_rfl) Try.func4
    (ChangeSpec.witness6 (enc := enc) (C := Try.checked) false ⟨#[], #[.slice none 0 0, .int .u64 0, .slice none 0 0, .int .i64 0], []⟩ 8 (by kernel_rfl) (by kernel_rfl) (by kernel_rfl) (by kernel_rfl)) ?_
  intro W base args ds gs before hval0 hW hcnd hsz _
  have hval : ∀ (j : Nat) t v, Try.f4.params[j]? = some t → args[j]? = some v → Value.okWide Try.prog W .any base t v := hval0
  have hW' := hW
  obtain ⟨p, q, hA0, hV, rfl, hfz, hnd⟩ := hW
  have hA : DataW.TrodAll enc Try.prog W 0 (fun _ => true) true Try.f4.params.toList args.toList ds p := hA0
  rw [Try.params4] at hA hval hsz
  obtain ⟨v0, vs0, d0, ds0, p0, q0, hargs, rfl, rfl, h0, r0⟩ := trodAll_cons hA
  obtain ⟨v1, vs1, d1, ds1, p1, q1, rfl, rfl, rfl, h1, r1⟩ := trodAll_cons r0
  obtain ⟨v2, vs2, d2, ds2, p2, q2, rfl, rfl, rfl, h2, r2⟩ := trodAll_cons r1
  obtain ⟨v3, vs3, d3, ds3, p3, q3, rfl, rfl, rfl, h3, r3⟩ := trodAll_cons r2
  obtain ⟨rfl, rfl, rfl⟩ := trodAll_nil r3
  obtain rfl : args = #[v0, v1, v2, v3] := by cases args; simp_all
  obtain ⟨rfl, rfl⟩ := trodVars_none hV
  have k0 := h0
  have lt0 : ∀ x ∈ p0, x.block < W.heap.size := by obtain ⟨m, hm⟩ := k0; exact DataW.trod_lt m _ _ _ hm
  obtain ⟨fuel0, hf0⟩ := h0
  obtain ⟨A0, n0, c0, rfl⟩ := okWide_slice Try.underlying22 (hval 0 22 v0 rfl rfl)
  obtain ⟨x0, ok0, e0⟩ := (opens_slice (S := Sh.int .i32) Try.underlying22 (by kernel_rfl) (by decide) (opens_int Try.underlying21)) hf0
  obtain ⟨hl0, hc0, hm0, hr0⟩ := sh_list e0
  have hz0 : n0 * 4 ≤ 140737488351232 := sized_len Try.underlying22 hf0 (show Try.prog.bytesOf 21 = 4 by kernel_rfl) (fun elems sp e => by subst e; exact sized_slice hsz (j := 0) (t := 22) (e := 21) rfl rfl Try.underlying22)
  have k1 := h1
  have lt1 : ∀ x ∈ p1, x.block < W.heap.size := by obtain ⟨m, hm⟩ := k1; exact DataW.trod_lt m _ _ _ hm
  obtain ⟨fuel1, hf1⟩ := h1
  obtain ⟨a1, rfl⟩ := okWide_int Try.underlying23 (hval 1 23 v1 rfl rfl)
  obtain ⟨b1, ok1, e1⟩ := opens_int Try.underlying23 hf1
  have e1' : a1 = b1 := by have := sh_int e1; simpa [Value.cells] using this
  subst e1'
  have k2 := h2
  have lt2 : ∀ x ∈ p2, x.block < W.heap.size := by obtain ⟨m, hm⟩ := k2; exact DataW.trod_lt m _ _ _ hm
  obtain ⟨fuel2, hf2⟩ := h2
  obtain ⟨A2, n2, c2, rfl⟩ := okWide_slice Try.underlying48 (hval 2 48 v2 rfl rfl)
  obtain ⟨x2, ok2, e2⟩ := (opens_slice (S := SItem) Try.underlying48 (by kernel_rfl) (by decide) (opens_itemP)) hf2
  obtain ⟨hl2, hc2, hm2, hr2⟩ := sh_list e2
  have k3 := h3
  have lt3 : ∀ x ∈ p3, x.block < W.heap.size := by obtain ⟨m, hm⟩ := k3; exact DataW.trod_lt m _ _ _ hm
  obtain ⟨fuel3, hf3⟩ := h3
  obtain ⟨a3, rfl⟩ := okWide_int Try.underlying3 (hval 3 3 v3 rfl rfl)
  obtain ⟨b3, ok3, e3⟩ := opens_int Try.underlying3 hf3
  have e3' : a3 = b3 := by have := sh_int e3; simpa [Value.cells] using this
  subst e3'
  clear hA0 hval0
  refine (walk A0 n0 c0 x0 a1 A2 n2 c2 x2 a3 W hl0 hc0 hm0 hr0 ok0 hz0 ok1 hl2 hc2 hm2 hr2 ok2 ok3).mono fun e W' ⟨he, bel⟩ => ?_
  subst he
  exact ⟨_, rfl, _, _, _, [], _, [], hW', trodAll_mk1 (shut_bool Try.underlying4 _), (trodAll_cons_mk (Below.trod laidOut (by kernel_rfl) (of_decide_eq_true (by kernel_rfl)) k0 bel lt0) (trodAll_cons_mk (Below.trod laidOut (by kernel_rfl) (of_decide_eq_true (by kernel_rfl)) k1 bel lt1) (trodAll_cons_mk (Below.trod laidOut (by kernel_rfl) (of_decide_eq_true (by kernel_rfl)) k2 bel lt2) (trodAll_cons_mk (Below.trod laidOut (by kernel_rfl) (of_decide_eq_true (by kernel_rfl)) k3 bel lt3) trodAll_mk0)))), rfl, bel.frame _, fun h => by cases h⟩

theorem over : Rows.probeBestRow.holds Try.pinned (OpenSpec.ofChange Rows.probeBestSpec) :=
  OpenClaim.holds_of_wide 4 Try.f4 rfl rfl rfl rfl rfl rfl rfl ⟨rfl, rfl, rfl, rfl, rfl⟩ rfl rfl rfl rfl rfl (by kernel_rfl) Try.func4 (by kernel_rfl)
    (of_decide_eq_true (by kernel_rfl)) (by unfold Func.isWrapper; first | (rw [if_pos (by decide +kernel)]; kernel_rfl) | (rw [if_neg (by decide +kernel)]; exact ⟨rfl, rfl⟩))
    (fun os started H enc _ => lifted os started H enc)

theorem proved : Rows.ProbeBestSaid := over
#print axioms proved
end Go.Proofs.Ytphbdffgeeicaaa.probeBest
