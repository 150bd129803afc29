/-
  The package probe: done, Want. Condition: a probe lies as said.
-/
import Derived.Test.YtphbdffgeeicaaaPrbB
namespace Go.Proofs.Ytphbdffgeeicaaa
set_option linter.unusedSimpArgs false
set_option linter.unusedVariables false
open Go.RowKit

/-- whether nothing is wanted any more -/
def doneP (ef : Int) (k : Nat) (l l2 : List Spt) : Bool := !decide (0 < l.length) || decide (ef < 1) || (decide (0 < l2.length) && decide (k ≤ l2.length) && sptLt (fstS l2) (fstS l))
section
variable {w wr : World} {X M Q P k : Nat} {mask ef : Int} {A : Option Addr} {c : Nat} {qs : List Int} {m : List (Int × Int)} {v v2 : Value} {l l2 : List Spt}
set_option maxHeartbeats 4000000 in
theorem done_any (h : PrAt w wr X M Q P k mask ef A c qs m v v2 l l2) : Calls Try.prog 23 #[.pointer (some ⟨X, 0, none⟩)] wr fun e w' => e = .returned (.bool (doneP ef k l l2)) ∧ Below wr.heap.size wr w' := by
  obtain ⟨e0, e1, e2, e3, e4, e5⟩ := h.cells
  have H := hide h
  clear h
  go_enter Try.func23, Try.ntmps23
  go_wp2_with fail
  refine (qPeek_any H.out.q).mono ?_
  rintro e w1 ⟨rfl, hb⟩
  have HB := hide hb
  clear hb
  unfold aggS
  go_upto_region 2 with fail
  have hb := below1 w1 (.cells #[.int .u64 (fstS l).1.1, .int .u64 (fstS l).1.2, .int .i64 (fstS l).2] 53)
  have HN := hide (Blk.new w1 53 #[.int .u64 (fstS l).1.1, .int .u64 (fstS l).1.2, .int .i64 (fstS l).2])
  have HB := hide (Below.step HB.out hb)
  clear hb e0 e1 e2 e3 e4 e5
  generalize World.alloc w1 _ = w2 at *
  generalize w1.heap.size = g1 at *
  obtain ⟨e0, e1, e2, e3, e4, e5⟩ := (H.out.step HB.out).cells
  by_cases hl : 0 < l.length
  · have d0 : decide (0 < l.length) = true := decide_eq_true hl
    by_cases hf : ef < 1
    · have d1 : decide (ef < 1) = true := decide_eq_true hf
      have HD := hide (show doneP ef k l l2 = true by unfold doneP; rw [d0, d1]; rfl)
      rw [d0]
      go_wp2
      go_ret
      exact ⟨by rw [HD.out]; rfl, HB.out⟩
    · have d1 : decide (ef < 1) = false := decide_eq_false hf
      rw [d0]
      go_wp2_with fail
      have H2 := hide (H.out.step HB.out)
      refine (bWorst_any H2.out.b).mono ?_
      rintro e w3 ⟨rfl, hb⟩
      have HB3 := hide (Below.step HB.out hb)
      have HN3 := hide (HN.out.below hb HN.out.lt)
      clear hb e0 e1 e2 e3 e4 e5
      unfold aggS
      go_upto_region 5 with fail
      have hb := below1 w3 (.cells #[.int .u64 (fstS l2).1.1, .int .u64 (fstS l2).1.2, .int .i64 (fstS l2).2] 53)
      have HN2 := hide (Blk.new w3 53 #[.int .u64 (fstS l2).1.1, .int .u64 (fstS l2).1.2, .int .i64 (fstS l2).2])
      have HB4 := hide (Below.step HB3.out hb)
      have HN4 := hide (HN3.out.below hb HN3.out.lt)
      clear hb
      generalize World.alloc w3 _ = w4 at *
      generalize w3.heap.size = g2 at *
      obtain ⟨e0, e1, e2, e3, e4, e5⟩ := (H.out.step HB4.out).cells
      by_cases h2 : 0 < l2.length
      · have d2 : decide (0 < l2.length) = true := decide_eq_true h2
        rw [d2]
        go_wp2_with fail
        have H4 := hide (H.out.step HB4.out)
        refine (bFull_any H4.out.b).mono ?_
        rintro e w5 ⟨rfl, hdw⟩
        have hb := hdw.below
        have HB5 := hide (Below.step HB4.out hb)
        have HM2 := hide (HN2.out.below hb HN2.out.lt)
        have HM4 := hide (HN4.out.below hb HN4.out.lt)
        clear hb hdw e0 e1 e2 e3 e4 e5 HN2 HN4 HN HN3
        by_cases h3 : k ≤ l2.length
        · have d3 : decide (k ≤ l2.length) = true := decide_eq_true h3
          have HD := hide (show doneP ef k l l2 = sptLt (fstS l2) (fstS l) by unfold doneP; rw [d0, d1, d2, d3]; simp)
          rw [d3]
          have y0 : w5.cell? ⟨g2, 0, none⟩ = some (.int .u64 (fstS l2).1.1) := HM2.out.cell 0
          have y1 : w5.cell? ⟨g2, 1, none⟩ = some (.int .u64 (fstS l2).1.2) := HM2.out.cell 1
          have y2 : w5.cell? ⟨g2, 2, none⟩ = some (.int .i64 (fstS l2).2) := HM2.out.cell 2
          have z0 : w5.cell? ⟨g1, 0, none⟩ = some (.int .u64 (fstS l).1.1) := HM4.out.cell 0
          have z1 : w5.cell? ⟨g1, 1, none⟩ = some (.int .u64 (fstS l).1.2) := HM4.out.cell 1
          have z2 : w5.cell? ⟨g1, 2, none⟩ = some (.int .i64 (fstS l).2) := HM4.out.cell 2
          go_wp2_with fail
          refine (spot_any (fstS l2) (fstS l) _).mono ?_
          rintro e w6 ⟨rfl, hb⟩
          have HB6 := hide (Below.step HB5.out hb)
          clear hb
          go_wp2
          go_ret
          exact ⟨by rw [HD.out]; rfl, HB6.out⟩
        · have d3 : decide (k ≤ l2.length) = false := decide_eq_false h3
          have HD := hide (show doneP ef k l l2 = false by unfold doneP; rw [d0, d1, d2, d3]; simp)
          rw [d3]
          go_wp2
          go_ret
          exact ⟨by rw [HD.out]; rfl, HB5.out⟩
      · have d2 : decide (0 < l2.length) = false := decide_eq_false h2
        have HD := hide (show doneP ef k l l2 = false by unfold doneP; rw [d0, d1, d2]; simp)
        rw [d2]
        go_wp2
        go_ret
        exact ⟨by rw [HD.out]; rfl, HB4.out⟩
  · have d0 : decide (0 < l.length) = false := decide_eq_false hl
    have HD := hide (show doneP ef k l l2 = true by unfold doneP; rw [d0]; rfl)
    rw [d0]
    go_wp2
    go_ret
    exact ⟨by rw [HD.out]; rfl, HB.out⟩
set_option maxHeartbeats 4000000 in
theorem want_any (h : PrAt w wr X M Q P k mask ef A c qs m v v2 l l2) (hsz : l.length ≤ 500000) : Calls Try.prog 8 #[.pointer (some ⟨X, 0, none⟩)] wr fun e w' =>
    (doneP ef k l l2 = true ∧ e = .returned (.tuple #[.int .i64 0, .bool false]) ∧ Below wr.heap.size wr w') ∨
    (doneP ef k l l2 = false ∧ e = .returned (.tuple #[.int .i64 (fstS l).2, .bool true]) ∧ ∃ l' v', (fstS l :: l').Perm l ∧ PrAt w w' X M Q P k mask ef A c qs m v' v2 l' l2 ∧ TurnP wr w' M Q P v v2 v' v2) := by
  have H := hide h
  clear h
  go_enter Try.func8, Try.ntmps8
  go_wp2_with fail
  refine (done_any H.out).mono ?_
  rintro e w1 ⟨rfl, hb⟩
  have HB := hide hb
  clear hb
  rcases hd : doneP ef k l l2 with _ | _
  · have H1 := hide (H.out.step HB.out)
    have hl : 0 < l.length := by
      rcases Nat.eq_zero_or_pos l.length with e | e
      · exfalso; unfold doneP at hd; rw [decide_eq_false (by omega)] at hd; simp at hd
      · exact e
    obtain ⟨e0, e1, e2, e3, e4, e5⟩ := H1.out.cells
    go_wp2_with fail
    refine (qPop_any H1.out.q H1.out.hq hsz).mono ?_
    rintro e w2 ⟨rfl, ms, hm, hdn⟩
    have hm : (fstS l :: ms).Perm l := hm.elim (fun h => by rw [h.1] at hl; simp at hl) id
    obtain ⟨l', v', hp, hP, hT⟩ := H1.out.q_ hdn
    have HPm := hide ((hp.cons (fstS l)).trans hm)
    have HP := hide hP
    have HT := hide ((TurnP.of_below HB.out).trans hT)
    clear hm hdn hp hP hT e0 e1 e2 e3 e4 e5
    rw [decide_eq_true hl]
    unfold aggS
    go_upto_region 4 with fail
    have hb := below1 w2 (.cells #[.int .u64 (fstS l).1.1, .int .u64 (fstS l).1.2, .int .i64 (fstS l).2] 53)
    have HN := hide (Blk.new w2 53 #[.int .u64 (fstS l).1.1, .int .u64 (fstS l).1.2, .int .i64 (fstS l).2])
    have HP3 := hide (HP.out.step hb)
    have HT3 := hide (HT.out.trans (TurnP.of_below hb))
    clear hb
    generalize World.alloc w2 _ = w3 at *
    generalize w2.heap.size = g1 at *
    have y2 : w3.cell? ⟨g1, 2, none⟩ = some (.int .i64 (fstS l).2) := HN.out.cell 2
    go_wp2
    go_ret2
    exact .inr ⟨hd, rfl, l', v', HPm.out, HP3.out, HT3.out⟩
  · go_wp2
    go_ret2
    exact .inl ⟨hd, rfl, HB.out⟩
end
end Go.Proofs.Ytphbdffgeeicaaa
