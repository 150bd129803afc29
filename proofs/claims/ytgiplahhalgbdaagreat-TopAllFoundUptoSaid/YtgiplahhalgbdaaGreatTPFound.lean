/-
  The law TopAllFound: for every input it returns true, and what came in reads as before. No condition.
-/
import Derived.Test.YtgiplahhalgbdaaGreatRows
import Derived.Test.YtgiplahhalgbdaaGreatMga
import Derived.Test.YtgiplahhalgbdaaGreatMgb
import Derived.Test.YtgiplahhalgbdaaGreatMgf
import Derived.WalkKit
import Derived.ProofKit
import Derived.OpenShut
import Derived.ShutString
import Derived.ChangeOld
import Derived.Below
import Derived.JoinedCond
namespace Go.Proofs.YtgiplahhalgbdaaGreat.topAllFound
open Go.ChangeShapes Go.WideShapes Go.ChangeAt Go.RowKit
set_option linter.unusedVariables false

theorem own : ownKnob Tryz.prog.godebug = none := by kernel_rfl
theorem laidOut : laidOutB Tryz.prog = true := by kernel_rfl

set_option maxHeartbeats 1000000 in
theorem walk (cs0 : Array Value) (x0 : PlaneP) (a1 : Int) (A2 : Option Addr) (n2 c2 : Nat) (x2 : List (Int)) (a3 : Int) (a4 : Int) (a5 : Int) (w : World) (hr0 : (SPlane).rd w (fun b => b < w.heap.size) x0 cs0.toList) (ok0 : (OkPU) 1048576 x0) (ok1 : (Lit.int .i64 a1).wf = true) (hl2 : x2.length = n2) (hc2 : n2 ≤ c2) (hm2 : c2 ≤ 9223372036854775807) (hr2 : Rd (Sh.int .i32) w w.heap.size A2 x2) (ok2 : x2.length ≤ 1048576 ∧ ∀ x ∈ x2, (fun _ x => (Lit.int .i32 x).wf = true) 1048576 x) (ok3 : (Lit.int .u64 a3).wf = true) (ok4 : (Lit.int .i64 a4).wf = true) (ok5 : (Lit.int .i64 a5).wf = true) :
    Calls Tryz.prog 3 #[.agg cs0, .int .i64 a1, .slice A2 n2 c2, .int .u64 a3, .int .i64 a4, .int .i64 a5] w fun e w' => e = .returned (.bool true) ∧ Below w.heap.size w w' := by
  obtain ⟨N, c, rfl, h1, h2, h3⟩ := plane_cells hr0
  exact topAllFound_any h3 rfl h1 h2 (fun x hx => (ok0.1.2 x hx).ok) (fun x hx => (ok0.1.2 x hx).sm (Nat.le_refl _)) (fun x hx => (ok0.1.2 x hx).1.1) hr2 hl2 hc2 hm2 (i32_ofW ok2.2) (by have := ok2.1; omega) a1 a3 a4 a5

set_option maxRecDepth 100000 in
theorem lifted (os : Os) (started : os.Started) (H : Type) (enc : TypeId × Value → H) (FF : Stop.Interp) :
    ReturnsInHanded {} Tryz.checked os 3 .any ((Rows.OpenSpec.upto Rows.topAllFoundSpec).pre6 enc Tryz.prog Tryz.f3 Rows.topAllFoundUptoRow.domain false) (((Rows.OpenSpec.upto Rows.topAllFoundSpec).at FF).post enc Tryz.prog Tryz.f3 false true false false) := by
  refine returnsInHanded_of_cond (C := Tryz.checked) (s := Rows.OpenSpec.upto Rows.topAllFoundSpec) (k := Rows.uptoSmall) rfl own started (by kernel_rfl) Tryz.func3
    (OpenSpec.witness (enc := enc) (C := Tryz.checked) (s := Rows.OpenSpec.upto Rows.topAllFoundSpec) (k := Rows.uptoSmall) rfl false ⟨#[], #[.agg #[.slice none 0 0, .int .i64 0, .int .i64 0], .int .i64 0, .slice none 0 0, .int .u64 0, .int .i64 0, .int .i64 0], []⟩ 8 (by kernel_rfl) (by kernel_rfl) (by kernel_rfl)
      (x := ([.agg [.nil, .lit (.int .i64 0), .lit (.int .i64 0)], .lit (.int .i64 0), .nil, .lit (.int .u64 0), .lit (.int .i64 0), .lit (.int .i64 0)], [], [])) (by kernel_rfl) rfl (by kernel_rfl)) ?_
  intro W base args ds gs before hval0 hW hcnd hk _
  have hval : ∀ (j : Nat) t v, Tryz.f3.params[j]? = some t → args[j]? = some v → Value.okWide Tryz.prog W .any base t v := hval0
  have hW' := hW
  obtain ⟨p, q, hA0, hV, rfl, hfz, hnd⟩ := hW
  have hA : DataW.TrodAll enc Tryz.prog W 0 (fun _ => true) true Tryz.f3.params.toList args.toList ds p := hA0
  rw [Tryz.params3] at hA hval
  obtain ⟨v0, vs0, d0, ds0, p0, q0, hargs, rfl, rfl, h0, r0⟩ := trodAll_cons hA
  obtain ⟨v1, vs1, d1, ds1, p1, q1, rfl, rfl, rfl, h1, r1⟩ := trodAll_cons r0
  obtain ⟨v2, vs2, d2, ds2, p2, q2, rfl, rfl, rfl, h2, r2⟩ := trodAll_cons r1
  obtain ⟨v3, vs3, d3, ds3, p3, q3, rfl, rfl, rfl, h3, r3⟩ := trodAll_cons r2
  obtain ⟨v4, vs4, d4, ds4, p4, q4, rfl, rfl, rfl, h4, r4⟩ := trodAll_cons r3
  obtain ⟨v5, vs5, d5, ds5, p5, q5, rfl, rfl, rfl, h5, r5⟩ := trodAll_cons r4
  obtain ⟨rfl, rfl, rfl⟩ := trodAll_nil r5
  obtain rfl : args = #[v0, v1, v2, v3, v4, v5] := by cases args; simp_all
  obtain ⟨rfl, rfl⟩ := trodVars_none hV
  have hK : Rows.uptoBulkAll _ ≤ 1048576 := of_decide_eq_true hk
  rw [List.append_nil] at hK
  have k0 := h0
  have lt0 : ∀ x ∈ p0, x.block < W.heap.size := by obtain ⟨m, hm⟩ := k0; exact DataW.trod_lt m _ _ _ hm
  obtain ⟨fuel0, hf0⟩ := h0
  obtain ⟨cs0, rfl, _⟩ := okWide_struct Tryz.underlying24 (hval 0 24 v0 rfl rfl)
  have U0 := (opensU_plane)
  obtain ⟨x0, ok0, hr0⟩ := U0.get hf0
  replace ok0 := U0.mono.get (Nat.le_trans (bulk_part (by simp)) hK) ok0
  have k1 := h1
  have lt1 : ∀ x ∈ p1, x.block < W.heap.size := by obtain ⟨m, hm⟩ := k1; exact DataW.trod_lt m _ _ _ hm
  obtain ⟨fuel1, hf1⟩ := h1
  obtain ⟨a1, rfl⟩ := okWide_int Tryz.underlying3 (hval 1 3 v1 rfl rfl)
  obtain ⟨b1, ok1, e1⟩ := opens_int Tryz.underlying3 hf1
  have e1' : a1 = b1 := by have := sh_int e1; simpa [Value.cells] using this
  subst e1'
  have k2 := h2
  have lt2 : ∀ x ∈ p2, x.block < W.heap.size := by obtain ⟨m, hm⟩ := k2; exact DataW.trod_lt m _ _ _ hm
  obtain ⟨fuel2, hf2⟩ := h2
  obtain ⟨A2, n2, c2, rfl⟩ := okWide_slice Tryz.underlying25 (hval 2 25 v2 rfl rfl)
  have U2 := (opensU_slice (S := Sh.int .i32) Tryz.underlying25 (by kernel_rfl) (by decide) (opensU_int Tryz.underlying21))
  obtain ⟨x2, ok2, e2⟩ := U2.get hf2
  replace ok2 := U2.mono.get (Nat.le_trans (bulk_part (by simp)) hK) ok2
  obtain ⟨hl2, hc2, hm2, hr2⟩ := sh_list e2
  have k3 := h3
  have lt3 : ∀ x ∈ p3, x.block < W.heap.size := by obtain ⟨m, hm⟩ := k3; exact DataW.trod_lt m _ _ _ hm
  obtain ⟨fuel3, hf3⟩ := h3
  obtain ⟨a3, rfl⟩ := okWide_int Tryz.underlying26 (hval 3 26 v3 rfl rfl)
  obtain ⟨b3, ok3, e3⟩ := opens_int Tryz.underlying26 hf3
  have e3' : a3 = b3 := by have := sh_int e3; simpa [Value.cells] using this
  subst e3'
  have k4 := h4
  have lt4 : ∀ x ∈ p4, x.block < W.heap.size := by obtain ⟨m, hm⟩ := k4; exact DataW.trod_lt m _ _ _ hm
  obtain ⟨fuel4, hf4⟩ := h4
  obtain ⟨a4, rfl⟩ := okWide_int Tryz.underlying3 (hval 4 3 v4 rfl rfl)
  obtain ⟨b4, ok4, e4⟩ := opens_int Tryz.underlying3 hf4
  have e4' : a4 = b4 := by have := sh_int e4; simpa [Value.cells] using this
  subst e4'
  have k5 := h5
  have lt5 : ∀ x ∈ p5, x.block < W.heap.size := by obtain ⟨m, hm⟩ := k5; exact DataW.trod_lt m _ _ _ hm
  obtain ⟨fuel5, hf5⟩ := h5
  obtain ⟨a5, rfl⟩ := okWide_int Tryz.underlying3 (hval 5 3 v5 rfl rfl)
  obtain ⟨b5, ok5, e5⟩ := opens_int Tryz.underlying3 hf5
  have e5' : a5 = b5 := by have := sh_int e5; simpa [Value.cells] using this
  subst e5'
  clear hA0 hval0
  refine (walk cs0 x0 a1 A2 n2 c2 x2 a3 a4 a5 W hr0 ok0 ok1 hl2 hc2 hm2 hr2 ok2 ok3 ok4 ok5).mono fun e W' ⟨he, bel⟩ => ?_
  subst he
  exact ⟨_, rfl, _, _, _, [], _, [], hW', trodAll_mk1 (shut_bool Tryz.underlying4 _), (trodAll_cons_mk (Below.trod laidOut (by kernel_rfl) (of_decide_eq_true (by kernel_rfl)) k0 bel lt0) (trodAll_cons_mk (Below.trod laidOut (by kernel_rfl) (of_decide_eq_true (by kernel_rfl)) k1 bel lt1) (trodAll_cons_mk (Below.trod laidOut (by kernel_rfl) (of_decide_eq_true (by kernel_rfl)) k2 bel lt2) (trodAll_cons_mk (Below.trod laidOut (by kernel_rfl) (of_decide_eq_true (by kernel_rfl)) k3 bel lt3) (trodAll_cons_mk (Below.trod laidOut (by kernel_rfl) (of_decide_eq_true (by kernel_rfl)) k4 bel lt4) (trodAll_cons_mk (Below.trod laidOut (by kernel_rfl) (of_decide_eq_true (by kernel_rfl)) k5 bel lt5) trodAll_mk0)))))), rfl, bel.frame _, fun h => by cases h⟩

theorem proved : Rows.TopAllFoundUptoSaid :=
  OpenClaim.holds_of_cond 3 Tryz.f3 rfl rfl rfl rfl rfl rfl rfl ⟨rfl, rfl, rfl, rfl, rfl⟩ rfl rfl rfl rfl rfl (by kernel_rfl) Tryz.func3 (by kernel_rfl)
    (of_decide_eq_true (by kernel_rfl)) (by unfold Func.isWrapper; first | (rw [if_pos (by decide +kernel)]; kernel_rfl) | (rw [if_neg (by decide +kernel)]; exact ⟨rfl, rfl⟩))
    (fun os started H enc _ FF => lifted os started H enc FF)
#print axioms proved
end Go.Proofs.YtgiplahhalgbdaaGreat.topAllFound
