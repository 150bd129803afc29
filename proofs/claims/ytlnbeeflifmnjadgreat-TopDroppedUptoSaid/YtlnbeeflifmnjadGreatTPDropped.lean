/-
  The law TopDropped: for every input it returns true, and what came in reads as before. No condition.
-/
import Derived.Test.YtlnbeeflifmnjadGreatRows
import Derived.Test.YtlnbeeflifmnjadGreatMga
import Derived.Test.YtlnbeeflifmnjadGreatMgb
import Derived.Test.YtlnbeeflifmnjadGreatMgP
import Derived.WalkKit
import Derived.ProofKit
import Derived.OpenShut
import Derived.ShutString
import Derived.ChangeOld
import Derived.Below
import Derived.JoinedCond
namespace Go.Proofs.YtlnbeeflifmnjadGreat.topDropped
open Go.ChangeShapes Go.WideShapes Go.ChangeAt Go.RowKit
set_option linter.unusedVariables false

theorem own : ownKnob Tryz.prog.godebug = none := by kernel_rfl
theorem laidOut : laidOutB Tryz.prog = true := by kernel_rfl

set_option maxHeartbeats 1000000 in
theorem walk (cs0 : Array Value) (x0 : PlaneP) (a1 : Int) (a2 : Int) (A3 : Option Addr) (n3 c3 : Nat) (x3 : List (Int)) (w : World) (hr0 : (SPlane).rd w (fun b => b < w.heap.size) x0 cs0.toList) (ok0 : (OkPU) 1048576 x0) (ok1 : (Lit.int .i64 a1).wf = true) (ok2 : (Lit.int .i64 a2).wf = true) (hl3 : x3.length = n3) (hc3 : n3 ≤ c3) (hm3 : c3 ≤ 9223372036854775807) (hr3 : Rd (Sh.int .i32) w w.heap.size A3 x3) (ok3 : x3.length ≤ 1048576 ∧ ∀ x ∈ x3, (fun _ x => (Lit.int .i32 x).wf = true) 1048576 x) :
    Calls Tryz.prog 3 #[.agg cs0, .int .i64 a1, .int .i64 a2, .slice A3 n3 c3] w fun e w' => e = .returned (.bool true) ∧ Below w.heap.size w w' := by
  obtain ⟨N, c, rfl, h1, h2, h3⟩ := plane_cells hr0
  exact topDropped_any h3 rfl h1 h2 (fun x hx => (ok0.1.2 x hx).ok) (fun x hx => (ok0.1.2 x hx).sm (Nat.le_refl _)) (fun x hx => (ok0.1.2 x hx).1.1) hr3 hl3 hc3 hm3 (i32_ofW ok3.2) (by have := ok3.1; omega) a1 a2

set_option maxRecDepth 100000 in
theorem lifted (os : Os) (started : os.Started) (H : Type) (enc : TypeId × Value → H) (FF : Stop.Interp) :
    ReturnsInHanded {} Tryz.checked os 3 .any ((Rows.OpenSpec.upto Rows.topDroppedSpec).pre6 enc Tryz.prog Tryz.f3 Rows.topDroppedUptoRow.domain false) (((Rows.OpenSpec.upto Rows.topDroppedSpec).at FF).post enc Tryz.prog Tryz.f3 false true false false) := by
  refine returnsInHanded_of_cond (C := Tryz.checked) (s := Rows.OpenSpec.upto Rows.topDroppedSpec) (k := Rows.uptoSmall) rfl own started (by kernel_rfl) Tryz.func3
    (OpenSpec.witness (enc := enc) (C := Tryz.checked) (s := Rows.OpenSpec.upto Rows.topDroppedSpec) (k := Rows.uptoSmall) rfl false ⟨#[], #[.agg #[.slice none 0 0, .int .i64 0, .int .i64 0], .int .i64 0, .int .i64 0, .slice none 0 0], []⟩ 8 (by kernel_rfl) (by kernel_rfl) (by kernel_rfl)
      (x := ([.agg [.nil, .lit (.int .i64 0), .lit (.int .i64 0)], .lit (.int .i64 0), .lit (.int .i64 0), .nil], [], [])) (by kernel_rfl) rfl (by kernel_rfl)) ?_
  intro W base args ds gs before hval0 hW hcnd hk _
  have hval : ∀ (j : Nat) t v, Tryz.f3.params[j]? = some t → args[j]? = some v → Value.okWide Tryz.prog W .any base t v := hval0
  have hW' := hW
  obtain ⟨p, q, hA0, hV, rfl, hfz, hnd⟩ := hW
  have hA : DataW.TrodAll enc Tryz.prog W 0 (fun _ => true) true Tryz.f3.params.toList args.toList ds p := hA0
  rw [Tryz.params3] at hA hval
  obtain ⟨v0, vs0, d0, ds0, p0, q0, hargs, rfl, rfl, h0, r0⟩ := trodAll_cons hA
  obtain ⟨v1, vs1, d1, ds1, p1, q1, rfl, rfl, rfl, h1, r1⟩ := trodAll_cons r0
  obtain ⟨v2, vs2, d2, ds2, p2, q2, rfl, rfl, rfl, h2, r2⟩ := trodAll_cons r1
  obtain ⟨v3, vs3, d3, ds3, p3, q3, rfl, rfl, rfl, h3, r3⟩ := trodAll_cons r2
  obtain ⟨rfl, rfl, rfl⟩ := trodAll_nil r3
  obtain rfl : args = #[v0, v1, v2, v3] := by cases args; simp_all
  obtain ⟨rfl, rfl⟩ := trodVars_none hV
  have hK : Rows.uptoBulkAll _ ≤ 1048576 := of_decide_eq_true hk
  rw [List.append_nil] at hK
  have k0 := h0
  have lt0 : ∀ x ∈ p0, x.block < W.heap.size := by obtain ⟨m, hm⟩ := k0; exact DataW.trod_lt m _ _ _ hm
  obtain ⟨fuel0, hf0⟩ := h0
  obtain ⟨cs0, rfl, _⟩ := okWide_struct Tryz.underlying24 (hval 0 24 v0 rfl rfl)
  have U0 := (opensU_plane)
  obtain ⟨x0, ok0, hr0⟩ := U0.get hf0
  replace ok0 := U0.mono.get (Nat.le_trans (bulk_part (by simp)) hK) ok0
  have k1 := h1
  have lt1 : ∀ x ∈ p1, x.block < W.heap.size := by obtain ⟨m, hm⟩ := k1; exact DataW.trod_lt m _ _ _ hm
  obtain ⟨fuel1, hf1⟩ := h1
  obtain ⟨a1, rfl⟩ := okWide_int Tryz.underlying3 (hval 1 3 v1 rfl rfl)
  obtain ⟨b1, ok1, e1⟩ := opens_int Tryz.underlying3 hf1
  have e1' : a1 = b1 := by have := sh_int e1; simpa [Value.cells] using this
  subst e1'
  have k2 := h2
  have lt2 : ∀ x ∈ p2, x.block < W.heap.size := by obtain ⟨m, hm⟩ := k2; exact DataW.trod_lt m _ _ _ hm
  obtain ⟨fuel2, hf2⟩ := h2
  obtain ⟨a2, rfl⟩ := okWide_int Tryz.underlying3 (hval 2 3 v2 rfl rfl)
  obtain ⟨b2, ok2, e2⟩ := opens_int Tryz.underlying3 hf2
  have e2' : a2 = b2 := by have := sh_int e2; simpa [Value.cells] using this
  subst e2'
  have k3 := h3
  have lt3 : ∀ x ∈ p3, x.block < W.heap.size := by obtain ⟨m, hm⟩ := k3; exact DataW.trod_lt m _ _ _ hm
  obtain ⟨fuel3, hf3⟩ := h3
  obtain ⟨A3, n3, c3, rfl⟩ := okWide_slice Tryz.underlying25 (hval 3 25 v3 rfl rfl)
  have U3 := (opensU_slice (S := Sh.int .i32) Tryz.underlying25 (by kernel_rfl) (by decide) (opensU_int Tryz.underlying21))
  obtain ⟨x3, ok3, e3⟩ := U3.get hf3
  replace ok3 := U3.mono.get (Nat.le_trans (bulk_part (by simp)) hK) ok3
  obtain ⟨hl3, hc3, hm3, hr3⟩ := sh_list e3
  clear hA0 hval0
  refine (walk cs0 x0 a1 a2 A3 n3 c3 x3 W hr0 ok0 ok1 ok2 hl3 hc3 hm3 hr3 ok3).mono fun e W' ⟨he, bel⟩ => ?_
  subst he
  exact ⟨_, rfl, _, _, _, [], _, [], hW', trodAll_mk1 (shut_bool Tryz.underlying4 _), (trodAll_cons_mk (Below.trod laidOut (by kernel_rfl) (of_decide_eq_true (by kernel_rfl)) k0 bel lt0) (trodAll_cons_mk (Below.trod laidOut (by kernel_rfl) (of_decide_eq_true (by kernel_rfl)) k1 bel lt1) (trodAll_cons_mk (Below.trod laidOut (by kernel_rfl) (of_decide_eq_true (by kernel_rfl)) k2 bel lt2) (trodAll_cons_mk (Below.trod laidOut (by kernel_rfl) (of_decide_eq_true (by kernel_rfl)) k3 bel lt3) trodAll_mk0)))), rfl, bel.frame _, fun h => by cases h⟩

theorem proved : Rows.TopDroppedUptoSaid :=
  OpenClaim.holds_of_cond 3 Tryz.f3 rfl rfl rfl rfl rfl rfl rfl ⟨rfl, rfl, rfl, rfl, rfl⟩ rfl rfl rfl rfl rfl (by kernel_rfl) Tryz.func3 (by kernel_rfl)
    (of_decide_eq_true (by kernel_rfl)) (by unfold Func.isWrapper; first | (rw [if_pos (by decide +kernel)]; kernel_rfl) | (rw [if_neg (by decide +kernel)]; exact ⟨rfl, rfl⟩))
    (fun os started H enc _ FF => lifted os started H enc FF)
#print axioms proved
end Go.Proofs.YtlnbeeflifmnjadGreat.topDropped
