/-
  The package lock: what its object is in memory; New, Holder, holds, Waits, next, Rising, Give. Conditions: the table's blocks lie as said; the numbers are those of int.
-/
import Derived.Test.YtknljldmjicfgaaProg
import Derived.Test.YtknljldmjicfgaaLckP
namespace Go.Proofs.Ytknljldmjicfgaa
open Go.RowKit

abbrev W64 (x : Int) : Prop := (Lit.int .i64 x).wf = true
theorem w64_of {x : Int} (h : -9223372036854775808 ≤ x ∧ x ≤ 9223372036854775807) : W64 x := by
  simp only [W64, Lit.wf, Bool.and_eq_true, decide_eq_true_eq]; exact h
/-- a table's blocks: the object at T, its maps at hb and wb; all from block B on -/
structure TabAt (w : World) (B T hb wb : Nat) (s : Tab) : Prop where
  t : Blk w T 46 #[.map (some hb), .map (some wb), .bool s.br]
  h : MapA .i64 (Value.int .i64) w hb s.h
  ws : MapA .i64 (Value.int .i64) w wb s.ws
  ne : hb ≠ wb
  hT : B ≤ T
  hH : B ≤ hb
  hW : B ≤ wb
/-- what may have turned: the table's blocks alone -/
structure TurnT (w w' : World) (T hb wb : Nat) : Prop where
  os : w'.os = w.os
  tape : w'.tape = w.tape
  output : w'.output = w.output
  size : w.heap.size ≤ w'.heap.size
  block : ∀ k, k < w.heap.size → k ≠ T → k ≠ hb → k ≠ wb → w'.heap[k]? = w.heap[k]?
section
variable {w w' w'' : World} {B T hb wb : Nat} {s : Tab}
theorem TurnT.refl (w : World) (T hb wb : Nat) : TurnT w w T hb wb := ⟨rfl, rfl, rfl, Nat.le_refl _, fun _ _ _ _ _ => rfl⟩
theorem TurnT.of_below (h : Below w.heap.size w w') : TurnT w w' T hb wb := ⟨h.os, h.tape, h.output, h.size, fun k hk _ _ _ => h.block k hk⟩
theorem TurnT.trans (h : TurnT w w' T hb wb) (k : TurnT w' w'' T hb wb) : TurnT w w'' T hb wb :=
  ⟨k.os.trans h.os, k.tape.trans h.tape, k.output.trans h.output, Nat.le_trans h.size k.size, fun i hi a b c => (k.block i (Nat.lt_of_lt_of_le hi h.size) a b c).trans (h.block i hi a b c)⟩
theorem TurnT.set (w : World) (T hb wb i : Nat) (u : Value) : TurnT w (w.setCell ⟨T, i, none⟩ u) T hb wb :=
  ⟨rfl, rfl, rfl, by simp, fun k _ hk _ _ => Below.heap_setCell w _ u k hk⟩
theorem TurnT.putH (h : MapPut w w' hb) : TurnT w w' T hb wb := ⟨h.1, h.2.1, h.2.2.1, Nat.le_of_eq h.2.2.2.1.symm, fun k _ _ hk _ => h.2.2.2.2 k hk⟩
theorem TurnT.putW (h : MapPut w w' wb) : TurnT w w' T hb wb := ⟨h.1, h.2.1, h.2.2.1, Nat.le_of_eq h.2.2.2.1.symm, fun k _ _ _ hk => h.2.2.2.2 k hk⟩
theorem TabAt.neT (h : TabAt w B T hb wb s) : T ≠ hb ∧ T ≠ wb := by
  obtain ⟨es, clock, h1, _⟩ := h.h
  obtain ⟨es', clock', h2, _⟩ := h.ws
  have h3 := h.t
  unfold Blk at h3
  constructor
  · rintro rfl; rw [h1] at h3; cases h3
  · rintro rfl; rw [h2] at h3; cases h3
theorem TabAt.lt (h : TabAt w B T hb wb s) : T < w.heap.size ∧ hb < w.heap.size ∧ wb < w.heap.size := ⟨h.t.lt, h.h.lt, h.ws.lt⟩
theorem TabAt.blocks (h : TabAt w B T hb wb s) (h1 : w'.heap[T]? = w.heap[T]?) (h2 : w'.heap[hb]? = w.heap[hb]?) (h3 : w'.heap[wb]? = w.heap[wb]?) : TabAt w' B T hb wb s :=
  ⟨h1.trans h.t, h.h.block h2, h.ws.block h3, h.ne, h.hT, h.hH, h.hW⟩
theorem TabAt.below (h : TabAt w B T hb wb s) (hb' : Below w.heap.size w w') : TabAt w' B T hb wb s :=
  h.blocks (hb'.block _ h.lt.1) (hb'.block _ h.lt.2.1) (hb'.block _ h.lt.2.2)
theorem TabAt.cells (h : TabAt w B T hb wb s) : w.cell? ⟨T, 0, none⟩ = some (.map (some hb)) ∧ w.cell? ⟨T, 1, none⟩ = some (.map (some wb)) ∧ w.cell? ⟨T, 2, none⟩ = some (.bool s.br) :=
  ⟨by rw [h.t.cell]; rfl, by rw [h.t.cell]; rfl, by rw [h.t.cell]; rfl⟩
theorem TabAt.break_ (h : TabAt w B T hb wb s) (b : Bool) : TabAt (w.setCell ⟨T, 2, none⟩ (.bool b)) B T hb wb ⟨s.h, s.ws, b⟩ := by
  have n := h.neT
  exact ⟨h.t.set_ 2 (.bool b), h.h.block (Below.heap_setCell _ _ _ _ n.1.symm), h.ws.block (Below.heap_setCell _ _ _ _ n.2.symm), h.ne, h.hT, h.hH, h.hW⟩
theorem TabAt.turn (h : TabAt w B T hb wb s) {a : World} (hbl : Below B a w) (ht : TurnT w w' T hb wb) (hB : B ≤ w.heap.size) : Below B a w' :=
  ⟨ht.os.trans hbl.os, ht.tape.trans hbl.tape, ht.output.trans hbl.output, Nat.le_trans hbl.size ht.size, fun k hk => (ht.block k (by omega) (by have := h.hT; omega) (by have := h.hH; omega) (by have := h.hW; omega)).trans (hbl.block k hk)⟩
theorem TabAt.putH (h : TabAt w B T hb wb s) {m : List (Int × Int)} (hp : MapPut w w' hb) (hm : MapA .i64 (Value.int .i64) w' hb m) : TabAt w' B T hb wb ⟨m, s.ws, s.br⟩ :=
  ⟨(hp.2.2.2.2 _ h.neT.1).trans h.t, hm, h.ws.block (hp.2.2.2.2 _ h.ne.symm), h.ne, h.hT, h.hH, h.hW⟩
theorem TabAt.putW (h : TabAt w B T hb wb s) {m : List (Int × Int)} (hp : MapPut w w' wb) (hm : MapA .i64 (Value.int .i64) w' wb m) : TabAt w' B T hb wb ⟨s.h, m, s.br⟩ :=
  ⟨(hp.2.2.2.2 _ h.neT.2).trans h.t, h.h.block (hp.2.2.2.2 _ h.ne), hm, h.ne, h.hT, h.hH, h.hW⟩
end
theorem intZero (u : World) : (zeroValue 3).run Try.prog u = .ok (Value.int .i64 0) u := by kernel_rfl
theorem MapA.iget {w : World} {b : Nat} {m : List (Int × Int)} (h : MapA .i64 (Value.int .i64) w b m) {x : Int} (hw : W64 x) :
    (Instr.lookup 44 (.map (some b)) (.int .i64 x) true).run Try.prog w = .ok (.tuple #[.int .i64 ((lookF m x).getD 0), .bool (lookF m x).isSome]) w :=
  h.lookOk Try.underlying3 Try.underlying44 (d := 0) intZero hw
theorem MapA.iput {w : World} {b : Nat} {m : List (Int × Int)} (h : MapA .i64 (Value.int .i64) w b m) {x : Int} (hw : W64 x) (v : Int) : ∃ w' : World,
    (Instr.mapUpdate 44 (.map (some b)) (.int .i64 x) (.int .i64 v)).run Try.prog w = .ok () w' ∧ MapA .i64 (Value.int .i64) w' b (putF m x v) ∧ MapPut w w' b :=
  h.put Try.underlying3 Try.underlying44 hw v
theorem MapA.idrop {w : World} {b : Nat} {m : List (Int × Int)} (h : MapA .i64 (Value.int .i64) w b m) {x : Int} (hw : W64 x) : ∃ w' : World,
    (∀ ty, (Builtin.delete_ #[44, 3] ty #[.map (some b), .int .i64 x]).run Try.prog w = .ok (.tuple #[]) w') ∧ MapA .i64 (Value.int .i64) w' b (dropF m x) ∧ MapPut w w' b :=
  h.drop Try.underlying3 Try.underlying44 hw

def NewT (w : World) (e : Ending) (w' : World) : Prop := ∃ T hb wb, e = .returned (.pointer (some ⟨T, 0, none⟩)) ∧ TabAt w' w.heap.size T hb wb Tab0 ∧ Below w.heap.size w w'
theorem newT_mk (w : World) : TabAt (((w.alloc (.map #[] 0)).alloc (.map #[] 0)).alloc (.cells #[.map (some w.heap.size), .map (some (w.heap.size + 1)), .bool false] 46)) w.heap.size (w.heap.size + 1 + 1) w.heap.size (w.heap.size + 1) Tab0 := by
  have h1 : MapA .i64 (Value.int .i64) (w.alloc (.map #[] 0)) w.heap.size ([] : List (Int × Int)) := MapA.new w
  have h2 : MapA .i64 (Value.int .i64) ((w.alloc (.map #[] 0)).alloc (.map #[] 0)) (w.heap.size + 1) ([] : List (Int × Int)) := by
    have := MapA.new (β := Int) (kd := .i64) (enc := Value.int .i64) (w.alloc (.map #[] 0))
    simpa using this
  refine ⟨Blk.new_at (by simp) _ _, ?_, ?_, by omega, by omega, by omega, by omega⟩
  · exact (h1.below (below1 _ _) (by simp)).below (below1 _ _) (by simp; omega)
  · exact h2.below (below1 _ _) (by simp)
set_option maxHeartbeats 1000000 in
theorem new_any (w : World) : Calls Try.prog 6 #[] w (NewT w) := by
  have hmm := @run_makeMap Try.prog
  go_enter Try.func6, Try.ntmps6
  go_wp2
  go_ret
  exact ⟨_, _, _, rfl, newT_mk w, below3 _ _ _ _⟩
section
variable {w : World} {B T hb wb : Nat} {s : Tab}
set_option maxHeartbeats 1000000 in
theorem holder_any (h : TabAt w B T hb wb s) {n : Int} (hn : W64 n) : Calls Try.prog 11 #[.pointer (some ⟨T, 0, none⟩), .int .i64 n] w fun e w' => e = .returned (.tuple #[.int .i64 ((lookF s.h n).getD 0), .bool (lookF s.h n).isSome]) ∧ w = w' := by
  obtain ⟨c0, c1, c2⟩ := h.cells
  have L := h.h.iget hn
  clear h hn
  generalize (lookF s.h n).getD 0 = v at L ⊢
  generalize (lookF s.h n).isSome = b at L ⊢
  go_enter Try.func11, Try.ntmps11
  go_wp2
  go_ret2
  exact ⟨rfl, rfl⟩
set_option maxHeartbeats 1000000 in
theorem holder_nil (n : Int) (w : World) : Calls Try.prog 11 #[.pointer none, .int .i64 n] w fun e w' => e = .returned (.tuple #[.int .i64 0, .bool false]) ∧ w = w' := by
  go_enter Try.func11, Try.ntmps11
  go_wp2
  go_ret2
  exact ⟨rfl, rfl⟩
set_option maxHeartbeats 1000000 in
theorem waits_any (h : TabAt w B T hb wb s) {n : Int} (hn : W64 n) : Calls Try.prog 13 #[.pointer (some ⟨T, 0, none⟩), .int .i64 n] w fun e w' => e = .returned (.tuple #[.int .i64 ((lookF s.ws n).getD 0), .bool (lookF s.ws n).isSome]) ∧ w = w' := by
  obtain ⟨c0, c1, c2⟩ := h.cells
  have L := h.ws.iget hn
  clear h hn
  generalize (lookF s.ws n).getD 0 = v at L ⊢
  generalize (lookF s.ws n).isSome = b at L ⊢
  go_enter Try.func13, Try.ntmps13
  go_wp2
  go_ret2
  exact ⟨rfl, rfl⟩
/-- the holder is w -/
theorem holds_eq (o : Option Int) (x : Int) : decide (o = some x) = (o.isSome && o.getD 0 == x) := by
  rcases o with _ | y
  · rfl
  · by_cases e : y = x <;> simp [e]
set_option maxHeartbeats 1000000 in
theorem holds_any (h : TabAt w B T hb wb s) {n : Int} (hn : W64 n) (x : Int) : Calls Try.prog 22 #[.pointer (some ⟨T, 0, none⟩), .int .i64 x, .int .i64 n] w fun e w' => e = .returned (.bool (decide (lookF s.h n = some x))) ∧ w = w' := by
  have HC := hide (holder_any h hn)
  rw [holds_eq]
  clear h hn
  rcases hb : lookF s.h n with _ | y
  all_goals
    rw [hb] at HC
    clear hb
    simp only [Option.isSome_none, Option.isSome_some, Option.getD_none, Option.getD_some, Bool.false_and, Bool.true_and] at HC ⊢
    go_enter Try.func22, Try.ntmps22
    go_wp2_with (go_at_call 11; refine HC.out.mono ?_; rintro e w' ⟨rfl, rfl⟩)
    go_ret
    exact ⟨rfl, rfl⟩
set_option maxHeartbeats 1000000 in
theorem next_any (h : TabAt w B T hb wb s) (ok : s.Ok) {x : Int} (hx : W64 x) : Calls Try.prog 23 #[.pointer (some ⟨T, 0, none⟩), .int .i64 x] w fun e w' => e = .returned (.tuple #[.int .i64 ((nextF s x).getD 0), .bool (nextF s x).isSome]) ∧ w = w' := by
  obtain ⟨c0, c1, c2⟩ := h.cells
  have L := h.ws.iget hx
  unfold nextF
  rcases hb : lookF s.ws x with _ | n
  · rw [hb] at L
    clear h hx ok hb
    simp only [Option.isSome_none, Option.getD_none, Option.bind_none] at L ⊢
    go_enter Try.func23, Try.ntmps23
    go_wp2
    go_ret2
    exact ⟨rfl, rfl⟩
  · rw [hb] at L
    have hn : W64 n := by
      have := (ok.ws _ (lookF_mem hb)).2
      exact w64_of (by simp only at this; omega)
    have HC := hide (holder_any h hn)
    clear h hx ok hb hn
    simp only [Option.isSome_some, Option.getD_some, Option.bind_some] at L ⊢
    go_enter Try.func23, Try.ntmps23
    go_wp2_with (go_at_call 11; refine HC.out.mono ?_; rintro e w' ⟨rfl, rfl⟩)
    go_ret2
    exact ⟨rfl, rfl⟩
set_option maxHeartbeats 1000000 in
theorem rising_any (h : TabAt w B T hb wb s) : Calls Try.prog 15 #[.pointer (some ⟨T, 0, none⟩)] w fun e w' => e = .returned (.bool (!s.br)) ∧ w = w' := by
  obtain ⟨c0, c1, c2⟩ := h.cells
  clear h
  go_enter Try.func15, Try.ntmps15
  go_wp2
  go_ret
  exact ⟨rfl, rfl⟩
set_option maxHeartbeats 1000000 in
theorem rising_nil (w : World) : Calls Try.prog 15 #[.pointer none] w fun e w' => e = .returned (.bool false) ∧ w = w' := by
  go_enter Try.func15, Try.ntmps15
  go_wp2
  go_ret
  exact ⟨rfl, rfl⟩
/-- what a call that turns the table leaves -/
def TabDone (w : World) (B T hb wb : Nat) (r : Tab × Bool) (e : Ending) (w' : World) : Prop := e = .returned (.bool r.2) ∧ TabAt w' B T hb wb r.1 ∧ TurnT w w' T hb wb
set_option maxHeartbeats 1000000 in
theorem give_any (h : TabAt w B T hb wb s) {x n : Int} (hx : W64 x) (hn : W64 n) : Calls Try.prog 8 #[.pointer (some ⟨T, 0, none⟩), .int .i64 x, .int .i64 n] w (TabDone w B T hb wb (giveF s x n)) := by
  have HC := hide (holds_any h hn x)
  unfold giveF
  by_cases e : lookF s.h n = some x
  · rw [if_pos e]
    rw [decide_eq_true e] at HC
    obtain ⟨c0, c1, c2⟩ := h.cells
    obtain ⟨w1, D1, m1, p1⟩ := h.h.idrop hn
    have h1 := h.putH p1 m1
    obtain ⟨d0, d1, d2⟩ := h1.cells
    obtain ⟨w2, D2, m2, p2⟩ := h1.ws.idrop hx
    have D1 := D1 0
    have D2 := D2 0
    have H2 := hide (h1.putW p2 m2)
    have HT := hide ((TurnT.putH (T := T) (wb := wb) p1).trans (TurnT.putW (T := T) (hb := hb) p2))
    clear h hx hn e m1 p1 h1 m2 p2
    go_enter Try.func8, Try.ntmps8
    go_wp2_with (go_at_call 22; refine HC.out.mono ?_; rintro e w' ⟨rfl, rfl⟩)
    go_ret
    exact ⟨rfl, H2.out, HT.out⟩
  · rw [if_neg e]
    rw [decide_eq_false e] at HC
    have H := hide h
    clear h hx hn e
    go_enter Try.func8, Try.ntmps8
    go_wp2_with (go_at_call 22; refine HC.out.mono ?_; rintro e w' ⟨rfl, rfl⟩)
    go_ret
    exact ⟨rfl, H.out, TurnT.refl _ _ _ _⟩
end
end Go.Proofs.Ytknljldmjicfgaa
