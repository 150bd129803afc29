/-
  The package queue: New, Push, Peek, Pop, Len. Conditions: the queue's blocks lie as said.
-/
import Derived.Test.YtphbdffgeeicaaaQueD
namespace Go.Proofs.Ytphbdffgeeicaaa
set_option linter.unusedSimpArgs false
set_option linter.unusedVariables false
open Go.RowKit

/-- a queue: a heap of spots, the one ahead first -/
abbrev QAt (w : World) (B Q : Nat) (v : Value) (l : List Spt) : Prop := HpAt w B Q 83 #[] 38 v l
abbrev QDone (w w' : World) (B Q : Nat) (v : Value) (m : List Spt) : Prop := HpDone w w' B Q 83 #[] 38 sptLt v m
set_option maxHeartbeats 1000000 in
theorem newQ_any (w : World) : Calls Try.prog 19 #[] w fun e w' => ∃ Q, e = .returned (.pointer (some ⟨Q, 0, none⟩)) ∧ QAt w' w.heap.size Q (.slice none 0 0) [] ∧ Below w.heap.size w w' := by
  go_enter Try.func19, Try.ntmps19
  go_wp2
  go_ret
  exact ⟨_, rfl, ⟨Blk.new _ _ _, World.ownsRow_nil _ _ _ _, by decide, Nat.le_refl _⟩, below1 _ _⟩
section
variable {w : World} {B Q : Nat} {v : Value} {l : List Spt}
theorem HpAt.drawn {w' : World} {t : TypeId} {ex : Array Value} {f : FuncId} (h : HpAt w B Q t ex f v l) (hb : Below w.heap.size w w') {m : List Spt} {lt : Spt → Spt → Bool} {w'' : World} (hd : HpDone w' w'' B Q t ex f lt v m) : HpDone w w'' B Q t ex f lt v m := by
  obtain ⟨l', v', r1, r2, r3, r4, r5⟩ := hd
  have r5' : ∀ d, v'.ownBlock = some d → v.ownBlock = some d ∨ w.heap.size ≤ d := fun d hd => (r5 d hd).imp id fun h => Nat.le_trans hb.size h
  exact ⟨l', v', r1, r2, r3, (TurnH.of_below (Q := Q) (v := v) hb).trans r4 fun d hd => .inl hd, r5'⟩
set_option maxHeartbeats 2000000 in
theorem qPush_any (h : QAt w B Q v l) (hh : Heap sptLt l) (s : Spt) (hsz : l.length ≤ 500000) :
    Calls Try.prog 28 #[.pointer (some ⟨Q, 0, none⟩), aggS s] w fun e w' => e = .returned (.tuple #[]) ∧ QDone w w' B Q v (l ++ [s]) := by
  unfold aggS
  have HB1 := hide (below1 w (.cells #[.int .u64 s.1.1, .int .u64 s.1.2, .int .i64 s.2] 53))
  have HN := hide (Blk.new w 53 #[.int .u64 s.1.1, .int .u64 s.1.2, .int .i64 s.2])
  have H := hide h
  have HH := hide hh
  clear h hh
  go_enter Try.func28, Try.ntmps28
  go_upto_region 2 with fail
  generalize World.alloc w _ = w1 at *
  generalize hbx : w.heap.size = bx at *
  have Hbx := hide hbx
  clear hbx
  have x0 : w1.cell? ⟨bx, 0, none⟩ = some (.int .u64 s.1.1) := HN.out.cell 0
  have x1 : w1.cell? ⟨bx, 1, none⟩ = some (.int .u64 s.1.2) := HN.out.cell 1
  have x2 : w1.cell? ⟨bx, 2, none⟩ = some (.int .i64 s.2) := HN.out.cell 2
  have HD1 := hide (show Below w.heap.size w w1.drew from by rw [Hbx.out]; exact HB1.out.drew)
  have HC := hide (push_any aheadSpot swoS (H.out.below HD1.out) HH.out s hsz)
  go_region_law ((go_simp; go_at_call 48; refine HC.out.mono ?_; rintro e w6 ⟨rfl, hd⟩; have HR := hide (H.out.drawn HD1.out hd); clear hd))
  all_goals
    go_wp2
    go_end0
    exact ⟨rfl, HR.out⟩
set_option maxHeartbeats 1000000 in
theorem qPush_nil (s : Spt) (w : World) : Calls Try.prog 28 #[.pointer none, aggS s] w fun e w' => e = .returned (.tuple #[]) ∧ Below w.heap.size w w' := by
  unfold aggS
  go_enter Try.func28, Try.ntmps28
  go_wp2
  go_end0
  exact ⟨rfl, below1 _ _⟩
set_option maxHeartbeats 1000000 in
theorem qLen_any (h : QAt w B Q v l) : Calls Try.prog 31 #[.pointer (some ⟨Q, 0, none⟩)] w fun e w' => e = .returned (.int .i64 l.length) ∧ w = w' := by
  obtain ⟨z0, _⟩ := h.cells
  obtain ⟨A, c, rfl, _, _⟩ := own_form h.own
  clear h
  go_enter Try.func31, Try.ntmps31
  go_wp2
  go_ret
  exact ⟨rfl, rfl⟩
set_option maxHeartbeats 1000000 in
theorem qLen_nil (w : World) : Calls Try.prog 31 #[.pointer none] w fun e w' => e = .returned (.int .i64 0) ∧ w = w' := by
  go_enter Try.func31, Try.ntmps31
  go_wp2
  go_ret
  exact ⟨rfl, rfl⟩
end
end Go.Proofs.Ytphbdffgeeicaaa
