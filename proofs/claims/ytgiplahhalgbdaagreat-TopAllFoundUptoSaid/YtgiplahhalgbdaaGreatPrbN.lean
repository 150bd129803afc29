/-
  The package probe: nil receivers. No condition.
-/
import Derived.Test.YtgiplahhalgbdaaGreatMgK
namespace Go.Proofs.YtgiplahhalgbdaaGreat
set_option linter.unusedSimpArgs false
set_option linter.unusedVariables false
open Go.RowKit

set_option maxHeartbeats 1000000 in
theorem offer_nil (s id tg : Int) (A : Option Addr) (n c : Nat) (w : World) : Calls Tryz.prog 74 #[.pointer none, .int .i64 s, .agg #[.int .u64 id, .slice A n c, .int .u64 tg]] w fun e w' => e = .returned (.bool false) ∧ Below w.heap.size w w' := by
  go_enter Tryz.func74, Tryz.ntmps74
  go_wp2
  go_ret
  exact ⟨rfl, below1 _ _⟩
theorem want_nil (w : World) : Calls Tryz.prog 78 #[.pointer none] w fun e w' => e = .returned (.tuple #[.int .i64 0, .bool false]) ∧ w = w' := by
  go_enter Tryz.func78, Tryz.ntmps78
  go_wp2
  go_ret2
  exact ⟨rfl, rfl⟩
theorem found_nil (w : World) : Calls Tryz.prog 42 #[.pointer none] w fun e w' => e = .returned (.slice none 0 0) ∧ w = w' := by
  go_enter Tryz.func42, Tryz.ntmps42
  go_wp2
  go_ret
  exact ⟨rfl, rfl⟩
end Go.Proofs.YtgiplahhalgbdaaGreat
