/-
  The law RankOrder: for every input it returns true, and what came in reads as before. No condition.
-/
import Derived.Test.YtohccblecgmdbaaRows
import Derived.Test.YtohccblecgmdbaaOpen
import Derived.Test.YtohccblecgmdbaaRnkU
import Derived.Test.YtohccblecgmdbaaRnkW
import Derived.WalkKit
import Derived.ProofKit
import Derived.OpenShut
import Derived.ShutString
import Derived.ChangeOld
import Derived.Below
namespace Go.Proofs.Ytohccblecgmdbaa.rankOrder
open Go.ChangeShapes Go.WideShapes Go.ChangeAt Go.RowKit
set_option linter.unusedVariables false

theorem own : ownKnob Try.prog.godebug = none := by kernel_rfl
theorem laidOut : laidOutB Try.prog = true := by kernel_rfl

set_option maxHeartbeats 1000000 in
theorem walk (cs0 : Array Value) (x0 : (Int × Int) × Int) (cs1 : Array Value) (x1 : (Int × Int) × Int) (cs2 : Array Value) (x2 : (Int × Int) × Int) (w : World) (hr0 : (SP).rd w (fun b => b < w.heap.size) x0 cs0.toList) (ok0 : (fun p => ((Lit.int .u64 p.1.1).wf = true ∧ (Lit.int .u64 p.1.2).wf = true) ∧ (Lit.int .i64 p.2).wf = true) x0) (hr1 : (SP).rd w (fun b => b < w.heap.size) x1 cs1.toList) (ok1 : (fun p => ((Lit.int .u64 p.1.1).wf = true ∧ (Lit.int .u64 p.1.2).wf = true) ∧ (Lit.int .i64 p.2).wf = true) x1) (hr2 : (SP).rd w (fun b => b < w.heap.size) x2 cs2.toList) (ok2 : (fun p => ((Lit.int .u64 p.1.1).wf = true ∧ (Lit.int .u64 p.1.2).wf = true) ∧ (Lit.int .i64 p.2).wf = true) x2) :
    Calls Try.prog 4 #[.agg cs0, .agg cs1, .agg cs2] w fun e w' => e = .returned (.bool true) ∧ Below w.heap.size w w' := by
  obtain rfl : cs0 = #[.int .u64 x0.1.1, .int .u64 x0.1.2, .int .i64 x0.2] := Array.toList_inj.1 ((flatS.rd _ _ _ _).1 hr0)
  obtain rfl : cs1 = #[.int .u64 x1.1.1, .int .u64 x1.1.2, .int .i64 x1.2] := Array.toList_inj.1 ((flatS.rd _ _ _ _).1 hr1)
  obtain rfl : cs2 = #[.int .u64 x2.1.1, .int .u64 x2.1.2, .int .i64 x2.2] := Array.toList_inj.1 ((flatS.rd _ _ _ _).1 hr2)
  exact rorder_any x0.1.1 x0.1.2 x0.2 x1.1.1 x1.1.2 x1.2 x2.1.1 x2.1.2 x2.2 w

set_option maxRecDepth 100000 in
theorem lifted (os : Os) (started : os.Started) (H : Type) (enc : TypeId × Value → H) :
    ReturnsInHanded {} Try.checked os 4 .any (Rows.rankOrderSpec.pre6 enc Try.prog Try.f4 Rows.rankOrderRow.domain false) (Rows.rankOrderSpec.post enc Try.prog Try.f4 false true false false) := by
  refine returnsInHanded_of_change (C := Try.checked) own started (by kernel_rfl) Try.func4
    (ChangeSpec.witness6 (enc := enc) (C := Try.checked) false ⟨#[], #[.agg #[.int .u64 0, .int .u64 0, .int .i64 0], .agg #[.int .u64 0, .int .u64 0, .int .i64 0], .agg #[.int .u64 0, .int .u64 0, .int .i64 0]], []⟩ 8 (by kernel_rfl) (by kernel_rfl) (by kernel_rfl) (by kernel_rfl)) ?_
  intro W base args ds gs before hval0 hW hcnd _
  have hval : ∀ (j : Nat) t v, Try.f4.params[j]? = some t → args[j]? = some v → Value.okWide Try.prog W .any base t v := hval0
  have hW' := hW
  obtain ⟨p, q, hA0, hV, rfl, hfz, hnd⟩ := hW
  have hA : DataW.TrodAll enc Try.prog W 0 (fun _ => true) true Try.f4.params.toList args.toList ds p := hA0
  rw [Try.params4] at hA hval
  obtain ⟨v0, vs0, d0, ds0, p0, q0, hargs, rfl, rfl, h0, r0⟩ := trodAll_cons hA
  obtain ⟨v1, vs1, d1, ds1, p1, q1, rfl, rfl, rfl, h1, r1⟩ := trodAll_cons r0
  obtain ⟨v2, vs2, d2, ds2, p2, q2, rfl, rfl, rfl, h2, r2⟩ := trodAll_cons r1
  obtain ⟨rfl, rfl, rfl⟩ := trodAll_nil r2
  obtain rfl : args = #[v0, v1, v2] := by cases args; simp_all
  obtain ⟨rfl, rfl⟩ := trodVars_none hV
  have k0 := h0
  have lt0 : ∀ x ∈ p0, x.block < W.heap.size := by obtain ⟨m, hm⟩ := k0; exact DataW.trod_lt m _ _ _ hm
  obtain ⟨fuel0, hf0⟩ := h0
  obtain ⟨cs0, rfl, _⟩ := okWide_struct Try.underlying36 (hval 0 36 v0 rfl rfl)
  obtain ⟨x0, ok0, hr0⟩ := (opens_spot) hf0
  have k1 := h1
  have lt1 : ∀ x ∈ p1, x.block < W.heap.size := by obtain ⟨m, hm⟩ := k1; exact DataW.trod_lt m _ _ _ hm
  obtain ⟨fuel1, hf1⟩ := h1
  obtain ⟨cs1, rfl, _⟩ := okWide_struct Try.underlying36 (hval 1 36 v1 rfl rfl)
  obtain ⟨x1, ok1, hr1⟩ := (opens_spot) hf1
  have k2 := h2
  have lt2 : ∀ x ∈ p2, x.block < W.heap.size := by obtain ⟨m, hm⟩ := k2; exact DataW.trod_lt m _ _ _ hm
  obtain ⟨fuel2, hf2⟩ := h2
  obtain ⟨cs2, rfl, _⟩ := okWide_struct Try.underlying36 (hval 2 36 v2 rfl rfl)
  obtain ⟨x2, ok2, hr2⟩ := (opens_spot) hf2
  clear hA0 hval0
  refine (walk cs0 x0 cs1 x1 cs2 x2 W hr0 ok0 hr1 ok1 hr2 ok2).mono fun e W' ⟨he, bel⟩ => ?_
  subst he
  exact ⟨_, rfl, _, _, _, [], _, [], hW', trodAll_mk1 (shut_bool Try.underlying4 _), (trodAll_cons_mk (Below.trod laidOut (by kernel_rfl) (of_decide_eq_true (by kernel_rfl)) k0 bel lt0) (trodAll_cons_mk (Below.trod laidOut (by kernel_rfl) (of_decide_eq_true (by kernel_rfl)) k1 bel lt1) (trodAll_cons_mk (Below.trod laidOut (by kernel_rfl) (of_decide_eq_true (by kernel_rfl)) k2 bel lt2) trodAll_mk0))), rfl, bel.frame _, fun h => by cases h⟩

theorem over : Rows.rankOrderRow.holds Try.pinned (OpenSpec.ofChange Rows.rankOrderSpec) :=
  OpenClaim.holds_of_wide 4 Try.f4 rfl rfl rfl rfl rfl rfl rfl ⟨rfl, rfl, rfl, rfl, rfl⟩ rfl rfl rfl rfl rfl (by kernel_rfl) Try.func4 (by kernel_rfl)
    (of_decide_eq_true (by kernel_rfl)) (by unfold Func.isWrapper; first | (rw [if_pos (by decide +kernel)]; kernel_rfl) | (rw [if_neg (by decide +kernel)]; exact ⟨rfl, rfl⟩))
    (fun os started H enc _ => lifted os started H enc)

theorem proved : Rows.RankOrderSaid := over
#print axioms proved
end Go.Proofs.Ytohccblecgmdbaa.rankOrder
