/-
  The law BeamTells: for every input it returns true, and what came in reads as before. No condition.
-/
import Derived.Test.YtphbdffgeeicaabGreatRows
import Derived.Test.YtphbdffgeeicaabGreatOpen
import Derived.Test.YtphbdffgeeicaabGreatWlkW
import Derived.Test.YtphbdffgeeicaabGreatBmZb
import Derived.WalkKit
import Derived.ProofKit
import Derived.OpenShut
import Derived.ShutString
import Derived.ChangeOld
import Derived.Below
namespace Go.Proofs.YtphbdffgeeicaabGreat.beamTells
open Go.ChangeShapes Go.WideShapes Go.ChangeAt Go.RowKit
set_option linter.unusedVariables false

theorem own : ownKnob Tryz.prog.godebug = none := by kernel_rfl
theorem laidOut : laidOutB Tryz.prog = true := by kernel_rfl

set_option maxHeartbeats 1000000 in
theorem walk (cs0 : Array Value) (x0 : PlaneP) (A1 : Option Addr) (n1 c1 : Nat) (x1 : List (Int)) (a2 : Int) (a3 : Int) (a4 : Int) (A5 : Option Addr) (n5 c5 : Nat) (x5 : List (Int)) (a6 : Int) (w : World) (hr0 : (SPlane).rd w (fun b => b < w.heap.size) x0 cs0.toList) (ok0 : (OkPW) x0) (hl1 : x1.length = n1) (hc1 : n1 ≤ c1) (hm1 : c1 ≤ 9223372036854775807) (hr1 : Rd (Sh.int .i32) w w.heap.size A1 x1) (ok1 : ∀ x ∈ x1, (fun x => (Lit.int .i32 x).wf = true) x) (ok2 : (Lit.int .u64 a2).wf = true) (ok3 : (Lit.int .i64 a3).wf = true) (ok4 : (Lit.int .i64 a4).wf = true) (hl5 : x5.length = n5) (hc5 : n5 ≤ c5) (hm5 : c5 ≤ 9223372036854775807) (hr5 : Rd (Sh.int .i64) w w.heap.size A5 x5) (ok5 : ∀ x ∈ x5, (fun x => (Lit.int .i64 x).wf = true) x) (ok6 : (Lit.int .i64 a6).wf = true) :
    Calls Tryz.prog 3 #[.agg cs0, .slice A1 n1 c1, .int .u64 a2, .int .i64 a3, .int .i64 a4, .slice A5 n5 c5, .int .i64 a6] w fun e w' => e = .returned (.bool true) ∧ Below w.heap.size w w' := by
  obtain ⟨N, c, rfl, h1, h2, h3⟩ := plane_cells hr0
  exact beamTells_any h3 rfl h1 h2 (okN_of ok0.1) hr1 hl1 hc1 hm1 (i32_ofW ok1) a2 a3 a4 (by have := ok2; simp only [Lit.wf, Bool.and_eq_true, decide_eq_true_eq] at this; exact this) hr5 hl5 a6

set_option maxRecDepth 100000 in
theorem lifted (os : Os) (started : os.Started) (H : Type) (enc : TypeId × Value → H) :
    ReturnsInHanded {} Tryz.checked os 3 .any (Rows.beamTellsSpec.pre6 enc Tryz.prog Tryz.f3 Rows.beamTellsRow.domain false) (Rows.beamTellsSpec.post enc Tryz.prog Tryz.f3 false true false false) := by
  refine returnsInHanded_of_change (C := Tryz.checked) own started (by kernel_rfl) Tryz.func3
    (ChangeSpec.witness6 (enc := enc) (C := Tryz.checked) false ⟨#[], #[.agg #[.slice none 0 0, .int .i64 0, .int .i64 0], .slice none 0 0, .int .u64 0, .int .i64 0, .int .i64 0, .slice none 0 0, .int .i64 0], []⟩ 8 (by kernel_rfl) (by kernel_rfl) (by kernel_rfl) (by kernel_rfl)) ?_
  intro W base args ds gs before hval0 hW hcnd _
  have hval : ∀ (j : Nat) t v, Tryz.f3.params[j]? = some t → args[j]? = some v → Value.okWide Tryz.prog W .any base t v := hval0
  have hW' := hW
  obtain ⟨p, q, hA0, hV, rfl, hfz, hnd⟩ := hW
  have hA : DataW.TrodAll enc Tryz.prog W 0 (fun _ => true) true Tryz.f3.params.toList args.toList ds p := hA0
  rw [Tryz.params3] at hA hval
  obtain ⟨v0, vs0, d0, ds0, p0, q0, hargs, rfl, rfl, h0, r0⟩ := trodAll_cons hA
  obtain ⟨v1, vs1, d1, ds1, p1, q1, rfl, rfl, rfl, h1, r1⟩ := trodAll_cons r0
  obtain ⟨v2, vs2, d2, ds2, p2, q2, rfl, rfl, rfl, h2, r2⟩ := trodAll_cons r1
  obtain ⟨v3, vs3, d3, ds3, p3, q3, rfl, rfl, rfl, h3, r3⟩ := trodAll_cons r2
  obtain ⟨v4, vs4, d4, ds4, p4, q4, rfl, rfl, rfl, h4, r4⟩ := trodAll_cons r3
  obtain ⟨v5, vs5, d5, ds5, p5, q5, rfl, rfl, rfl, h5, r5⟩ := trodAll_cons r4
  obtain ⟨v6, vs6, d6, ds6, p6, q6, rfl, rfl, rfl, h6, r6⟩ := trodAll_cons r5
  obtain ⟨rfl, rfl, rfl⟩ := trodAll_nil r6
  obtain rfl : args = #[v0, v1, v2, v3, v4, v5, v6] := by cases args; simp_all
  obtain ⟨rfl, rfl⟩ := trodVars_none hV
  have k0 := h0
  have lt0 : ∀ x ∈ p0, x.block < W.heap.size := by obtain ⟨m, hm⟩ := k0; exact DataW.trod_lt m _ _ _ hm
  obtain ⟨fuel0, hf0⟩ := h0
  obtain ⟨cs0, rfl, _⟩ := okWide_struct Tryz.underlying24 (hval 0 24 v0 rfl rfl)
  obtain ⟨x0, ok0, hr0⟩ := (opens_plane) hf0
  have k1 := h1
  have lt1 : ∀ x ∈ p1, x.block < W.heap.size := by obtain ⟨m, hm⟩ := k1; exact DataW.trod_lt m _ _ _ hm
  obtain ⟨fuel1, hf1⟩ := h1
  obtain ⟨A1, n1, c1, rfl⟩ := okWide_slice Tryz.underlying25 (hval 1 25 v1 rfl rfl)
  obtain ⟨x1, ok1, e1⟩ := (opens_slice (S := Sh.int .i32) Tryz.underlying25 (by kernel_rfl) (by decide) (opens_int Tryz.underlying21)) hf1
  obtain ⟨hl1, hc1, hm1, hr1⟩ := sh_list e1
  have k2 := h2
  have lt2 : ∀ x ∈ p2, x.block < W.heap.size := by obtain ⟨m, hm⟩ := k2; exact DataW.trod_lt m _ _ _ hm
  obtain ⟨fuel2, hf2⟩ := h2
  obtain ⟨a2, rfl⟩ := okWide_int Tryz.underlying26 (hval 2 26 v2 rfl rfl)
  obtain ⟨b2, ok2, e2⟩ := opens_int Tryz.underlying26 hf2
  have e2' : a2 = b2 := by have := sh_int e2; simpa [Value.cells] using this
  subst e2'
  have k3 := h3
  have lt3 : ∀ x ∈ p3, x.block < W.heap.size := by obtain ⟨m, hm⟩ := k3; exact DataW.trod_lt m _ _ _ hm
  obtain ⟨fuel3, hf3⟩ := h3
  obtain ⟨a3, rfl⟩ := okWide_int Tryz.underlying3 (hval 3 3 v3 rfl rfl)
  obtain ⟨b3, ok3, e3⟩ := opens_int Tryz.underlying3 hf3
  have e3' : a3 = b3 := by have := sh_int e3; simpa [Value.cells] using this
  subst e3'
  have k4 := h4
  have lt4 : ∀ x ∈ p4, x.block < W.heap.size := by obtain ⟨m, hm⟩ := k4; exact DataW.trod_lt m _ _ _ hm
  obtain ⟨fuel4, hf4⟩ := h4
  obtain ⟨a4, rfl⟩ := okWide_int Tryz.underlying3 (hval 4 3 v4 rfl rfl)
  obtain ⟨b4, ok4, e4⟩ := opens_int Tryz.underlying3 hf4
  have e4' : a4 = b4 := by have := sh_int e4; simpa [Value.cells] using this
  subst e4'
  have k5 := h5
  have lt5 : ∀ x ∈ p5, x.block < W.heap.size := by obtain ⟨m, hm⟩ := k5; exact DataW.trod_lt m _ _ _ hm
  obtain ⟨fuel5, hf5⟩ := h5
  obtain ⟨A5, n5, c5, rfl⟩ := okWide_slice Tryz.underlying27 (hval 5 27 v5 rfl rfl)
  obtain ⟨x5, ok5, e5⟩ := (opens_slice (S := Sh.int .i64) Tryz.underlying27 (by kernel_rfl) (by decide) (opens_int Tryz.underlying3)) hf5
  obtain ⟨hl5, hc5, hm5, hr5⟩ := sh_list e5
  have k6 := h6
  have lt6 : ∀ x ∈ p6, x.block < W.heap.size := by obtain ⟨m, hm⟩ := k6; exact DataW.trod_lt m _ _ _ hm
  obtain ⟨fuel6, hf6⟩ := h6
  obtain ⟨a6, rfl⟩ := okWide_int Tryz.underlying3 (hval 6 3 v6 rfl rfl)
  obtain ⟨b6, ok6, e6⟩ := opens_int Tryz.underlying3 hf6
  have e6' : a6 = b6 := by have := sh_int e6; simpa [Value.cells] using this
  subst e6'
  clear hA0 hval0
  refine (walk cs0 x0 A1 n1 c1 x1 a2 a3 a4 A5 n5 c5 x5 a6 W hr0 ok0 hl1 hc1 hm1 hr1 ok1 ok2 ok3 ok4 hl5 hc5 hm5 hr5 ok5 ok6).mono fun e W' ⟨he, bel⟩ => ?_
  subst he
  exact ⟨_, rfl, _, _, _, [], _, [], hW', trodAll_mk1 (shut_bool Tryz.underlying4 _), (trodAll_cons_mk (Below.trod laidOut (by kernel_rfl) (of_decide_eq_true (by kernel_rfl)) k0 bel lt0) (trodAll_cons_mk (Below.trod laidOut (by kernel_rfl) (of_decide_eq_true (by kernel_rfl)) k1 bel lt1) (trodAll_cons_mk (Below.trod laidOut (by kernel_rfl) (of_decide_eq_true (by kernel_rfl)) k2 bel lt2) (trodAll_cons_mk (Below.trod laidOut (by kernel_rfl) (of_decide_eq_true (by kernel_rfl)) k3 bel lt3) (trodAll_cons_mk (Below.trod laidOut (by kernel_rfl) (of_decide_eq_true (by kernel_rfl)) k4 bel lt4) (trodAll_cons_mk (Below.trod laidOut (by kernel_rfl) (of_decide_eq_true (by kernel_rfl)) k5 bel lt5) (trodAll_cons_mk (Below.trod laidOut (by kernel_rfl) (of_decide_eq_true (by kernel_rfl)) k6 bel lt6) trodAll_mk0))))))), rfl, bel.frame _, fun h => by cases h⟩

theorem over : Rows.beamTellsRow.holds Tryz.pinned (OpenSpec.ofChange Rows.beamTellsSpec) :=
  OpenClaim.holds_of_wide 3 Tryz.f3 rfl rfl rfl rfl rfl rfl rfl ⟨rfl, rfl, rfl, rfl, rfl⟩ rfl rfl rfl rfl rfl (by kernel_rfl) Tryz.func3 (by kernel_rfl)
    (of_decide_eq_true (by kernel_rfl)) (by unfold Func.isWrapper; first | (rw [if_pos (by decide +kernel)]; kernel_rfl) | (rw [if_neg (by decide +kernel)]; exact ⟨rfl, rfl⟩))
    (fun os started H enc _ => lifted os started H enc)

theorem proved : Rows.BeamTellsSaid := over
#print axioms proved
end Go.Proofs.YtphbdffgeeicaabGreat.beamTells
