/-
  The document's idmap: New. No condition.
-/
import Derived.Test.YtoadcfjkommlkaaIdmN
namespace Go.Proofs.Ytoadcfjkommlkaa
set_option linter.unusedSimpArgs false
set_option linter.unusedVariables false
open Go.RowKit

set_option maxHeartbeats 1000000 in
theorem refNew_good (n : Nat) (h1 : 1 ≤ n) (h2 : n ≤ 64) (w : World) : Calls Try.prog 7 #[.int .i64 n] w fun e w' => e = .returned (.tuple #[.agg #[.int .i64 n, .slice none 0 0, .int .i64 0], .int .i64 0]) ∧ Below w.heap.size w w' := by
  have b1 : ¬ ((n : Int) < 1) := by omega
  have b2 : decide ((n : Int) < 1) = false := decide_eq_false b1
  have b3 : ¬ ((64 : Int) < n) := by omega
  have b4 : decide ((64 : Int) < n) = false := decide_eq_false b3
  go_enter Try.func7, Try.ntmps7
  go_wp2
  have q := Blk.new w 30 #[.int .i64 n, .slice none 0 0, .int .i64 0]
  have q0 := q.cell 0
  have q1 := q.cell 1
  have q2 := q.cell 2
  simp at q0 q1 q2
  exact bodyPost_ret (v := .tuple #[.agg #[.int .i64 n, .slice none 0 0, .int .i64 0], .int .i64 0]) (by simp [results, Try.results7, go_sem, q0, q1, q2]) rfl ⟨rfl, below1 w _⟩
end Go.Proofs.Ytoadcfjkommlkaa
