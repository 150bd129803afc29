/-
  The package queue: Peek, Pop; the best list: NewBest, Full, Worst. Conditions: the blocks lie as said.
-/
import Derived.Test.YtphbdffgeeicaaaQueE
namespace Go.Proofs.Ytphbdffgeeicaaa
set_option linter.unusedSimpArgs false
set_option linter.unusedVariables false
open Go.RowKit

/-- three cells of a spot stored into a block -/
theorem spot_stored {w0 w1 : World} {R : Nat} {cs : Array Value} (h : Blk w1 R 53 cs) (hc : cs.size = 3) (hb : Below w0.heap.size w0 w1) (hR : w0.heap.size ≤ R) (s : Spt) :
    Blk (((w1.setCell ⟨R, 0, none⟩ (.int .u64 s.1.1)).setCell ⟨R, 1, none⟩ (.int .u64 s.1.2)).setCell ⟨R, 2, none⟩ (.int .i64 s.2)) R 53 #[.int .u64 s.1.1, .int .u64 s.1.2, .int .i64 s.2] ∧
    Below w0.heap.size w0 (((w1.setCell ⟨R, 0, none⟩ (.int .u64 s.1.1)).setCell ⟨R, 1, none⟩ (.int .u64 s.1.2)).setCell ⟨R, 2, none⟩ (.int .i64 s.2)) := by
  refine ⟨?_, ((hb.setCell hR _).setCell hR _).setCell hR _⟩
  have k := ((h.set_ 0 (.int .u64 s.1.1)).set_ 1 (.int .u64 s.1.2)).set_ 2 (.int .i64 s.2)
  have e : ((cs.setIfInBounds 0 (.int .u64 s.1.1)).setIfInBounds 1 (.int .u64 s.1.2)).setIfInBounds 2 (.int .i64 s.2) = #[.int .u64 s.1.1, .int .u64 s.1.2, .int .i64 s.2] := by
    obtain ⟨l⟩ := cs
    rcases l with _ | ⟨a, _ | ⟨b, _ | ⟨c, _ | ⟨d, l⟩⟩⟩⟩ <;> simp at hc <;> rfl
  rwa [e] at k
theorem HpDone.finish {w w2 w3 w4 : World} {B Q R : Nat} {t : TypeId} {ex : Array Value} {f : FuncId} {lt : Spt → Spt → Bool} {v : Value} {l m : List Spt} (h : HpAt w B Q t ex f v l) (hb : Below w.heap.size w w2) (hd : HpDone w2 w3 B Q t ex f lt v m) (hR : w.heap.size ≤ R) (hR2 : R < w2.heap.size)
    (hk : ∀ k, k ≠ R → w4.heap[k]? = w3.heap[k]?) (e1 : w4.os = w3.os) (e2 : w4.tape = w3.tape) (e3 : w4.output = w3.output) (e4 : w4.heap.size = w3.heap.size) : HpDone w w4 B Q t ex f lt v m := by
  obtain ⟨l', v', r1, r2, r3, r4, r5⟩ := hd
  have hlow := h.low
  have hz := hb.size
  refine ⟨l', v', r1, r2, ⟨(hk Q (by omega)).trans r3.q, own_keep r3.own fun g hg => hk g (by
      rcases r5 g hg with e | e
      · have := hlow.2 g e; omega
      · omega), r3.ne, r3.hQ⟩, ⟨e1.trans (r4.os.trans hb.os), e2.trans (r4.tape.trans hb.tape), e3.trans (r4.output.trans hb.output), by rw [e4]; have := r4.size; omega, fun k hk' a b => ?_⟩, fun d hd => (r5 d hd).imp id fun h => Nat.le_trans hz h⟩
  rw [hk k (by omega), r4.block k (by omega) a b]
  exact hb.block k hk'
theorem set3_facts (w1 : World) (R : Nat) (s : Spt) : let w4 := ((w1.setCell ⟨R, 0, none⟩ (.int .u64 s.1.1)).setCell ⟨R, 1, none⟩ (.int .u64 s.1.2)).setCell ⟨R, 2, none⟩ (.int .i64 s.2)
    (∀ k, k ≠ R → w4.heap[k]? = w1.heap[k]?) ∧ w4.os = w1.os ∧ w4.tape = w1.tape ∧ w4.output = w1.output ∧ w4.heap.size = w1.heap.size :=
  ⟨fun k hk => by rw [Below.heap_setCell _ _ _ _ hk, Below.heap_setCell _ _ _ _ hk, Below.heap_setCell _ _ _ _ hk], rfl, rfl, rfl, by simp⟩
section
variable {w : World} {B Q : Nat} {v : Value} {l : List Spt}
set_option maxHeartbeats 2000000 in
theorem qPeek_any (h : QAt w B Q v l) : Calls Try.prog 41 #[.pointer (some ⟨Q, 0, none⟩)] w fun e w' => e = .returned (.tuple #[aggS (fstS l), .bool (decide (0 < l.length))]) ∧ Below w.heap.size w w' := by
  have HN := hide (Blk.new w 53 #[.int .u64 0, .int .u64 0, .int .i64 0])
  have HB := hide (below1 w (.cells #[.int .u64 0, .int .u64 0, .int .i64 0] 53))
  have HC := hide (first_any (h.below HB.out))
  unfold aggS at *
  generalize fstS l = s at *
  generalize decide (0 < l.length) = b at *
  clear h
  go_enter Try.func41, Try.ntmps41
  go_wp2_with (go_at_call 54; refine HC.out.mono ?_; rintro e w1 ⟨rfl, hb⟩; have HN1 := hide (HN.out.below hb HN.out.lt); have HB1 := hide (Below.step HB.out hb); have x0 := HN1.out.cell 0; have x1 := HN1.out.cell 1; have x2 := HN1.out.cell 2; have f0 := HN1.out.frozen 0; have f1 := HN1.out.frozen 1; have f2 := HN1.out.frozen 2; simp at x0 x1 x2; clear hb)
  obtain ⟨q, hb⟩ := spot_stored HN1.out rfl HB1.out (Nat.le_refl _) s
  have q0 := q.cell 0
  have q1 := q.cell 1
  have q2 := q.cell 2
  simp at q0 q1 q2
  exact bodyPost_ret (v := .tuple #[.agg #[.int .u64 s.1.1, .int .u64 s.1.2, .int .i64 s.2], .bool b]) (by simp [results, Try.results41, go_sem, q0, q1, q2]) rfl ⟨rfl, hb⟩
set_option maxHeartbeats 2000000 in
theorem qPeek_nil (w : World) : Calls Try.prog 41 #[.pointer none] w fun e w' => e = .returned (.tuple #[aggS sp0, .bool false]) ∧ Below w.heap.size w w' := by
  go_enter Try.func41, Try.ntmps41
  go_wp2
  exact bodyPost_ret (v := .tuple #[aggS sp0, .bool false]) (by simp [results, Try.results41, go_sem, aggS, sp0]) rfl ⟨rfl, below1 _ _⟩
/-- what a Pop leaves -/
def PopDone (w w' : World) (B Q : Nat) (v : Value) (l : List Spt) : Prop := ∃ m, (l = [] ∧ m = [] ∨ (fstS l :: m).Perm l) ∧ QDone w w' B Q v m
set_option maxHeartbeats 4000000 in
theorem qPop_any (h : QAt w B Q v l) (hh : Heap sptLt l) (hsz : l.length ≤ 500000) : Calls Try.prog 24 #[.pointer (some ⟨Q, 0, none⟩)] w fun e w' => e = .returned (.tuple #[aggS (fstS l), .bool (decide (0 < l.length))]) ∧ PopDone w w' B Q v l := by
  have HN := hide (Blk.new w 53 #[.int .u64 0, .int .u64 0, .int .i64 0])
  have HB := hide (below1 w (.cells #[.int .u64 0, .int .u64 0, .int .i64 0] 53))
  have HC := hide (qPeek_any (h.below HB.out))
  have H := hide h
  have HH := hide hh
  obtain ⟨s, hs⟩ : ∃ s, fstS l = s := ⟨_, rfl⟩
  obtain ⟨b, hb⟩ : ∃ b, decide (0 < l.length) = b := ⟨_, rfl⟩
  have HS := hide hs
  have HBB := hide hb
  rw [hs, hb] at HC ⊢
  unfold aggS at *
  clear h hh hs hb
  rcases b with _ | _
  · have hl0 : l = [] := by have := HBB.out; simpa using this
    have HL0 := hide hl0
    clear hl0
    go_enter Try.func24, Try.ntmps24
    go_upto_region 2 with (go_at_call 41; refine HC.out.mono ?_; rintro e w1 ⟨rfl, hb⟩; have HN1 := hide (HN.out.below hb HN.out.lt); have HB1 := hide (Below.step HB.out hb); clear hb)
    have HN2 := hide (HN1.out.alloc (.cells #[.int .u64 s.1.1, .int .u64 s.1.2, .int .i64 s.2] 53))
    have HP2 := hide (Blk.new w1 53 #[.int .u64 s.1.1, .int .u64 s.1.2, .int .i64 s.2])
    have HB2 := hide (HB1.out.alloc HB1.out.size (.cells #[.int .u64 s.1.1, .int .u64 s.1.2, .int .i64 s.2] 53))
    generalize World.alloc w1 _ = w2 at *
    generalize w1.heap.size = p at *
    have x0 := HN2.out.cell 0
    have x1 := HN2.out.cell 1
    have x2 := HN2.out.cell 2
    have f0 := HN2.out.frozen 0
    have f1 := HN2.out.frozen 1
    have f2 := HN2.out.frozen 2
    have y0 := HP2.out.cell 0
    have y1 := HP2.out.cell 1
    have y2 := HP2.out.cell 2
    simp at x0 x1 x2 y0 y1 y2
    go_wp2
    obtain ⟨q, hb⟩ := spot_stored HN2.out rfl HB2.out (Nat.le_refl _) s
    have q0 := q.cell 0
    have q1 := q.cell 1
    have q2 := q.cell 2
    simp at q0 q1 q2
    exact bodyPost_ret (v := .tuple #[.agg #[.int .u64 s.1.1, .int .u64 s.1.2, .int .i64 s.2], .bool false]) (by simp [results, Try.results24, go_sem, q0, q1, q2]) rfl ⟨rfl, [], .inl ⟨HL0.out, rfl⟩, l, v, HH.out, by rw [HL0.out], H.out.below hb, TurnH.of_below hb, fun d hd => .inl hd⟩
  · have hl0 : 0 < l.length := by simpa using HBB.out
    obtain ⟨x, hx⟩ : ∃ x, l[0]? = some x := ⟨_, List.getElem?_eq_getElem hl0⟩
    obtain rfl : s = x := by rw [← HS.out]; unfold fstS; rw [hx]; rfl
    have Hx := hide hx
    clear hx hl0
    go_enter Try.func24, Try.ntmps24
    go_upto_region 2 with (go_at_call 41; refine HC.out.mono ?_; rintro e w1 ⟨rfl, hb⟩; have HN1 := hide (HN.out.below hb HN.out.lt); have HB1 := hide (Below.step HB.out hb); have HZ := hide (show w.heap.size < w1.heap.size by have := hb.size; simp at this; omega); clear hb)
    have HN2 := hide (HN1.out.alloc (.cells #[.int .u64 s.1.1, .int .u64 s.1.2, .int .i64 s.2] 53))
    have HP2 := hide (Blk.new w1 53 #[.int .u64 s.1.1, .int .u64 s.1.2, .int .i64 s.2])
    have HB2 := hide (HB1.out.alloc HB1.out.size (.cells #[.int .u64 s.1.1, .int .u64 s.1.2, .int .i64 s.2] 53))
    generalize World.alloc w1 _ = w2 at *
    generalize w1.heap.size = p at *
    have HPop := hide (pop_any aheadSpot swoS (H.out.below HB2.out) HH.out Hx.out hsz)
    go_wp2_with (go_at_call 44; refine HPop.out.mono ?_; rintro e w3 ⟨rfl, m, hm, hd⟩; have HM := hide hm; have HD := hide hd; have hT := hd.choose_spec.choose_spec.2.2.2.1; have hlow := H.out.low; have hne : ∀ d, w.heap.size ≤ d → d ≠ Q ∧ some d ≠ v.ownBlock := (fun d hd => ⟨by have := hlow.1; omega, fun e => by have := hlow.2 d e.symm; omega⟩); have n3 : Blk w3 w.heap.size 53 _ := (hT.block _ HN2.out.lt (hne _ (Nat.le_refl _)).1 (hne _ (Nat.le_refl _)).2).trans HN2.out; have p3 : Blk w3 p 53 _ := (hT.block _ HP2.out.lt (hne _ (by have := HZ.out; omega)).1 (hne _ (by have := HZ.out; omega)).2).trans HP2.out; have HN3 := hide n3; have x0 := n3.cell 0; have x1 := n3.cell 1; have x2 := n3.cell 2; have f0 := n3.frozen 0; have f1 := n3.frozen 1; have f2 := n3.frozen 2; have y0 := p3.cell 0; have y1 := p3.cell 1; have y2 := p3.cell 2; simp at x0 x1 x2 y0 y1 y2; clear hm hd hT hne hlow n3 p3)
    obtain ⟨k0, k1, k2, k3, k4⟩ := set3_facts w3 w.heap.size s
    have hfin := HpDone.finish H.out HB2.out HD.out (Nat.le_refl _) (by have := HN2.out.lt; exact this) k0 k1 k2 k3 k4
    have q := ((HN3.out.set_ 0 (.int .u64 s.1.1)).set_ 1 (.int .u64 s.1.2)).set_ 2 (.int .i64 s.2)
    have q0 := q.cell 0
    have q1 := q.cell 1
    have q2 := q.cell 2
    simp at q0 q1 q2
    exact bodyPost_ret (v := .tuple #[.agg #[.int .u64 s.1.1, .int .u64 s.1.2, .int .i64 s.2], .bool true]) (by simp [results, Try.results24, go_sem, q0, q1, q2]) rfl ⟨rfl, m, .inr (by rw [HS.out]; exact HM.out), hfin⟩
end
end Go.Proofs.Ytphbdffgeeicaaa
