/-
  The package rank: Hit, Spot, and the reference's. No condition.
-/
import Derived.Test.YtphbdffgeeicaadRnkB
namespace Go.Proofs.Ytphbdffgeeicaad
set_option linter.unusedSimpArgs false
set_option linter.unusedVariables false
open Go.RowKit Go.Lib Go.Sort

set_option maxHeartbeats 1000000 in
theorem spot_any (a b : Spt) (w : World) : Calls Try.prog 9 #[.agg #[.int .u64 a.1.1, .int .u64 a.1.2, .int .i64 a.2], .agg #[.int .u64 b.1.1, .int .u64 b.1.2, .int .i64 b.2]] w fun e w' => e = .returned (.bool (sptLt a b)) ∧ Below w.heap.size w w' := by
  have H1 := hide fun W => place_any a b W
  have HR := hide (sptO_neg a b)
  generalize sptO a b = c at *
  generalize sptLt a b = r at *
  obtain ⟨⟨a1, a2⟩, a3⟩ := a
  obtain ⟨⟨b1, b2⟩, b3⟩ := b
  have HB := hide (((Grown.refl w).alloc (.cells #[.int .u64 a1, .int .u64 a2, .int .i64 a3] 37)).alloc (.cells #[.int .u64 b1, .int .u64 b2, .int .i64 b3] 37))
  go_enter Try.func9, Try.ntmps9
  go_wp2_with fail
  refine (H1.out _).mono ?_
  rintro e wq ⟨rfl, hg⟩
  have HG := hide (HB.out.trans hg)
  clear hg HB
  go_wp2
  go_ret
  exact ⟨congrArg (fun z => Ending.returned (Value.bool z)) HR.out, HG.out.below⟩
theorem hitLt_eq (a1 a2 b1 b2 : Int) : hitLt (a1, a2) (b1, b2) = if a1 = b1 then decide (a2 < b2) else decide (a1 < b1) := by
  unfold hitLt
  by_cases h : a1 = b1
  · simp [h]
  · simp [h]
theorem sptLt_eq (a b : Spt) : sptLt a b = if a.1 = b.1 then decide (a.2 < b.2) else hitLt a.1 b.1 := by
  unfold sptLt
  by_cases h : a.1 = b.1
  · have : hitLt b.1 b.1 = false := by simp [hitLt]
    simp [h, this]
  · simp [h]
end Go.Proofs.Ytphbdffgeeicaad
