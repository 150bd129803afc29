/-
  The package queue: the best list: NewBest, Full, Worst, List. Conditions: the blocks lie as said.
-/
import Derived.Test.YtphbdffgeeicaaaQueF
namespace Go.Proofs.Ytphbdffgeeicaaa
set_option linter.unusedSimpArgs false
set_option linter.unusedVariables false
open Go.RowKit

/-- how many a best list may have -/
def mostB (n : Int) : Nat := min n.toNat 4096
/-- a best list: a heap of spots, the worst first, and how many there may be -/
abbrev BAt (w : World) (B Q : Nat) (k : Nat) (v : Value) (l : List Spt) : Prop := HpAt w B Q 85 #[.int .i64 k] 39 v l
abbrev BDone (w w' : World) (B Q : Nat) (k : Nat) (v : Value) (m : List Spt) : Prop := HpDone w w' B Q 85 #[.int .i64 k] 39 sptGt v m
theorem mostB_eq (n : Int) : min (max n 0) 4096 = (mostB n : Int) := by unfold mostB; omega
theorem BAt.most {w : World} {B Q k : Nat} {v : Value} {l : List Spt} (h : BAt w B Q k v l) : w.cell? ⟨Q, 2, none⟩ = some (.int .i64 k) := by rw [h.q.cell]; simp [Array.getElem?_append]
set_option maxHeartbeats 1000000 in
theorem newB_any (n : Int) (w : World) : Calls Try.prog 20 #[.int .i64 n] w fun e w' => ∃ Q, e = .returned (.pointer (some ⟨Q, 0, none⟩)) ∧ BAt w' w.heap.size Q (mostB n) (.slice none 0 0) [] ∧ Below w.heap.size w w' := by
  have HE := hide (mostB_eq n)
  go_enter Try.func20, Try.ntmps20
  go_wp2
  go_ret
  refine ⟨_, rfl, ⟨?_, World.ownsRow_nil _ _ _ _, by decide, Nat.le_refl _⟩, below1 _ _⟩
  rw [← HE.out]
  exact Blk.new _ _ _
section
variable {w : World} {B Q k : Nat} {v : Value} {l : List Spt}
set_option maxHeartbeats 2000000 in
theorem bFull_any (h : BAt w B Q k v l) : Calls Try.prog 43 #[.pointer (some ⟨Q, 0, none⟩)] w fun e w' => e = .returned (.bool (decide (k ≤ l.length))) ∧ Drew w w' := by
  obtain ⟨z0, _⟩ := h.cells
  have z2 := h.most
  obtain ⟨A, c, rfl, _, _⟩ := own_form h.own
  clear h
  generalize l.length = n at *
  go_enter Try.func43, Try.ntmps43
  go_wp2
  go_quiet (fail)
  go_wp2
  go_ret
  exact ⟨by simp, by first | exact ⟨_, rfl⟩ | exact drewN_drewN' _ _ _⟩
set_option maxHeartbeats 1000000 in
theorem bFull_nil (w : World) : Calls Try.prog 43 #[.pointer none] w fun e w' => e = .returned (.bool true) ∧ Drew w w' := by
  go_enter Try.func43, Try.ntmps43
  go_wp2
  go_quiet (fail)
  go_wp2
  go_ret
  exact ⟨rfl, by first | exact ⟨_, rfl⟩ | exact drewN_drewN' _ _ _⟩
set_option maxHeartbeats 2000000 in
theorem bWorst_any (h : BAt w B Q k v l) : Calls Try.prog 42 #[.pointer (some ⟨Q, 0, none⟩)] w fun e w' => e = .returned (.tuple #[aggS (fstS l), .bool (decide (0 < l.length))]) ∧ Below w.heap.size w w' := by
  have HN := hide (Blk.new w 53 #[.int .u64 0, .int .u64 0, .int .i64 0])
  have HB := hide (below1 w (.cells #[.int .u64 0, .int .u64 0, .int .i64 0] 53))
  have HC := hide (first_any (h.below HB.out))
  unfold aggS at *
  generalize fstS l = s at *
  generalize decide (0 < l.length) = b at *
  clear h
  go_enter Try.func42, Try.ntmps42
  go_wp2_with (go_at_call 54; refine HC.out.mono ?_; rintro e w1 ⟨rfl, hb⟩; have HN1 := hide (HN.out.below hb HN.out.lt); have HB1 := hide (Below.step HB.out hb); have x0 := HN1.out.cell 0; have x1 := HN1.out.cell 1; have x2 := HN1.out.cell 2; have f0 := HN1.out.frozen 0; have f1 := HN1.out.frozen 1; have f2 := HN1.out.frozen 2; simp at x0 x1 x2; clear hb)
  obtain ⟨q, hb⟩ := spot_stored HN1.out rfl HB1.out (Nat.le_refl _) s
  have q0 := q.cell 0
  have q1 := q.cell 1
  have q2 := q.cell 2
  simp at q0 q1 q2
  exact bodyPost_ret (v := .tuple #[.agg #[.int .u64 s.1.1, .int .u64 s.1.2, .int .i64 s.2], .bool b]) (by simp [results, Try.results42, go_sem, q0, q1, q2]) rfl ⟨rfl, hb⟩
set_option maxHeartbeats 2000000 in
theorem bList_any (h : BAt w B Q k v l) (hsz : l.length ≤ 500000) : Calls Try.prog 32 #[.pointer (some ⟨Q, 0, none⟩)] w fun e w' => ∃ v', e = .returned v' ∧ w'.ownsRow w.heap.size 53 3 v' l.length (fcs encS (srtS l)) ∧ Below w.heap.size w w' := by
  obtain ⟨z0, _⟩ := h.cells
  obtain ⟨A, c, rfl, o1, o2⟩ := own_form h.own
  have HC := hide (sort_any A l.length c l w ((flatS.own h.own).rd fun b hb => hb.2) rfl o1 o2 (by omega))
  clear h
  go_enter Try.func32, Try.ntmps32
  go_wp2_with (go_at_call 17; refine HC.out.mono ?_; rintro e w1 ⟨v', rfl, ho, hb⟩; have HO := hide ho; have HB := hide hb; clear ho hb)
  go_ret
  exact ⟨_, rfl, HO.out, HB.out⟩
set_option maxHeartbeats 1000000 in
theorem bList_nil (w : World) : Calls Try.prog 32 #[.pointer none] w fun e w' => e = .returned (.slice none 0 0) ∧ w = w' := by
  go_enter Try.func32, Try.ntmps32
  go_wp2
  go_ret
  exact ⟨rfl, rfl⟩
end
end Go.Proofs.Ytphbdffgeeicaaa
