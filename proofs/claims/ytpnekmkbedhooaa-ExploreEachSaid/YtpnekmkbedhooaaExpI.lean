/-
  The package explore: the program's triangle. No condition.
-/
import Derived.Test.YtpnekmkbedhooaaExpH
namespace Go.Proofs.Ytpnekmkbedhooaa
open Go.RowKit

/-- the triangle, its first m cells laid -/
def tv (m i : Nat) : Int := if i < m then triF i else 0
theorem triF_out {n k : Nat} (h : n < k) (hk : k < 65) : triF (n * 65 + k) = 0 := by
  unfold triF
  rw [show (n * 65 + k) / 65 = n by omega, show (n * 65 + k) % 65 = k by omega, pas_out h]; rfl
theorem triF_at (n k : Nat) (hk : k < 65) : triF (n * 65 + k) = ((hN (pas n k) : Nat) : Int) := by
  unfold triF
  rw [show (n * 65 + k) / 65 = n by omega, show (n * 65 + k) % 65 = k by omega]
theorem tv_set (m : Nat) : (ics .u64 (tv m) 4225).setIfInBounds m (.int .u64 (triF m)) = ics .u64 (tv (m + 1)) 4225 :=
  ics_set .u64 _ _ 4225 m _ fun i _ => by
    unfold tv
    by_cases e : i = m
    · subst e; simp
    · rw [if_neg e]
      by_cases h : i < m
      · rw [if_pos h, if_pos (by omega)]
      · rw [if_neg h, if_neg (by omega)]
theorem tv_row (n : Nat) (hn : n ≤ 64) : ics .u64 (tv (n * 65 + (n + 1))) 4225 = ics .u64 (tv ((n + 1) * 65)) 4225 :=
  ics_congr _ _ _ _ fun i _ => by
    unfold tv
    by_cases h : i < n * 65 + (n + 1)
    · rw [if_pos h, if_pos (by omega)]
    · rw [if_neg h]
      by_cases h2 : i < (n + 1) * 65
      · rw [if_pos h2]
        obtain ⟨k, rfl⟩ : ∃ k, i = n * 65 + k := ⟨i - n * 65, by omega⟩
        exact (triF_out (by omega) (by omega)).symm
      · rw [if_neg h2]
theorem tv_full : ics .u64 (tv 4225) 4225 = ics .u64 triF 4225 := ics_congr _ _ _ _ fun i h => by unfold tv; rw [if_pos h]
theorem tv_zero : ics .u64 (tv 0) 4225 = ics .u64 (fun _ => 0) 4225 := ics_congr _ _ _ _ fun i h => by unfold tv; rw [if_neg (by omega)]
theorem tv_cell {w : World} {g m : Nat} {t : TypeId} (h : Blk w g t (ics .u64 (tv m) 4225)) {n k : Nat} (hk : k < 65) (hm : n * 65 + k < m) (hn : n ≤ 64) : w.cell? ⟨g, n * 65 + k, none⟩ = some (.int .u64 (hN (pas n k) : Nat)) := by
  rw [h.cell, ics_get _ _ _ _ (by omega)]
  unfold tv
  rw [if_pos hm, triF_at _ _ hk]
theorem z58 (w : World) : (zeroValue 58).run Try.prog w = .ok (.agg (ics .u64 (fun _ => 0) 4225)) w := by kernel_rfl

set_option maxHeartbeats 2000000 in
theorem triangle_any (w : World) :
    Calls Try.prog 17 #[] w fun e w' => e = .returned (.pointer (some ⟨w.heap.size, 0, none⟩)) ∧ Tri w' w.heap.size ∧ Below w.heap.size w w' := by
  have hz := z58
  have HB0 := hide (show Blk (w.alloc (.cells (ics .u64 (fun _ => 0) 4225) 58)) w.heap.size 58 (ics .u64 (tv (0 * 65)) 4225) by rw [Nat.zero_mul, tv_zero]; exact Blk.new _ _ _)
  have HL0 := hide (below1 w (.cells (ics .u64 (fun _ => 0) 4225) 58))
  go_enter Try.func17, Try.ntmps17
  go_wp2
  generalize hG : w.heap.size = g at *
  generalize w.alloc (.cells (ics .u64 (fun _ => 0) 4225) 58) = w1 at *
  go_loopw [5] (fun i wr => ∃ n : Nat, n ≤ 65 ∧ i = .int .i64 n ∧ Hid (Blk wr g 58 (ics .u64 (tv (n * 65)) 4225)) ∧ Hid (Below g w wr)) (fun i _ => 65 - (intOf i).toNat)
  case atStart => exact ⟨0, by omega, rfl, HB0, HL0⟩
  case round =>
    obtain ⟨n, hn, rfl, hB, hL⟩ := hrel
    by_cases hlt : n < 65
    · have g0 : (0 : Int) ≤ n := by omega
      have g1 : (n : Int) < 65 := by omega
      have f0 := hB.out.frozen (n * 65)
      have q0 : wr.cell? ⟨g, n * 65, none⟩ = some (.int .u64 (tv (n * 65) (n * 65))) := by rw [hB.out.cell, ics_get _ _ _ _ (by omega)]
      have HB1 := hide (show Blk (wr.setCell ⟨g, n * 65, none⟩ (.int .u64 1)) g 58 (ics .u64 (tv (n * 65 + (0 + 1))) 4225) by
        have h := hB.out.set_ (n * 65) (.int .u64 (triF (n * 65)))
        rw [tv_set] at h
        have e : triF (n * 65) = 1 := by have := triF_at n 0 (by omega); rw [Nat.add_zero, pas_zero] at this; rw [this]; rfl
        rw [e] at h
        exact h)
      have HL1 := hide (hL.out.setCell (p := ⟨g, n * 65, none⟩) (Nat.le_refl _) (.int .u64 1))
      obtain ⟨wo, rfl⟩ : ∃ wo : World, wo = wr := ⟨_, rfl⟩
      go_wp2
      clear q0 f0
      go_loopw [3] (fun i w2 => ∃ q : Nat, q ≤ n ∧ i = .int .i64 ((q : Int) + 1) ∧ Hid (Blk w2 g 58 (ics .u64 (tv (n * 65 + (q + 1))) 4225)) ∧ Hid (Below g w w2)) (fun i _ => n + 1 - (intOf i).toNat)
      case atStart => exact ⟨0, by omega, rfl, HB1, HL1⟩
      case round =>
        obtain ⟨q, hq, rfl, hB2, hL2⟩ := hrel
        by_cases hlt2 : q < n
        · obtain ⟨r, hr⟩ : ∃ r, n = r + 1 := ⟨n - 1, by omega⟩
          have c0 := tv_cell hB2.out (n := r) (k := q) (by omega) (by omega) (by omega)
          have c1 := tv_cell hB2.out (n := r) (k := q + 1) (by omega) (by omega) (by omega)
          have f2 := hB2.out.frozen (n * 65 + (q + 1))
          have c2 : wr.cell? ⟨g, n * 65 + (q + 1), none⟩ = some (.int .u64 (tv (n * 65 + (q + 1)) (n * 65 + (q + 1)))) := by rw [hB2.out.cell, ics_get _ _ _ _ (by omega)]
          have HP := hide (pas_step r q)
          rw [← hr] at HP
          have HC := hide (fun W => calls_sym (sum_any _ _ W (hN_lt (pas r q)) (hN_lt (pas r (q + 1)))))
          rw [HP.out] at HC
          have h1 : (q : Int) + 1 ≤ n := by omega
          have h2 : (r : Int) < 65 := by omega
          have h3 : (q : Int) < 65 := by omega
          have h4 : (q : Int) + 1 < 65 := by omega
          have h5 : (n : Int) < 65 := by omega
          have w1' : IntKind.i64.wrap ((n : Int) - 1) = r := by rw [IntKind.wrap_i64]; omega
          have h9 : (0 : Int) ≤ r := by omega
          have w2' : IntKind.i64.wrap (q : Int) = q := by rw [IntKind.wrap_i64]; omega
          have h6 : (q : Int) < n := by omega
          have h7 : (0 : Int) ≤ (q : Int) + 1 := by omega
          have h8 : (0 : Int) ≤ (n : Int) := by omega
          clear hr
          go_upto_region 9 with fail
          go_still_tail 24, (by kernel_rfl)
          still_call (HC.out _)
          repeat still_step
          refine wpStill_nil ?_
          change wpList _ _ _ _ _ wr.drew
          have f3 : wr.drew.frozen? ⟨g, n * 65 + (q + 1), none⟩ = false := f2
          have c3 : wr.drew.cell? ⟨g, n * 65 + (q + 1), none⟩ = some (.int .u64 (tv (n * 65 + (q + 1)) (n * 65 + (q + 1)))) := c2
          have HB3 := hide (show Blk wr.drew g 58 (ics .u64 (tv (n * 65 + (q + 1))) 4225) from hB2.out)
          have HL3 := hide (show Below g w wr.drew from below_drewN hL2.out 1)
          generalize wr.drew = w3 at *
          have HB4 := hide (show Blk (w3.setCell ⟨g, n * 65 + (q + 1), none⟩ (.int .u64 (hN (pas n (q + 1)) : Nat))) g 58 (ics .u64 (tv (n * 65 + (q + 1 + 1))) 4225) by
            have h := HB3.out.set_ (n * 65 + (q + 1)) (.int .u64 (triF (n * 65 + (q + 1))))
            rw [tv_set, triF_at _ _ (by omega)] at h
            exact h)
          have HL4 := hide (HL3.out.setCell (p := ⟨g, n * 65 + (q + 1), none⟩) (Nat.le_refl _) (.int .u64 (hN (pas n (q + 1)) : Nat)))
          clear c0 c1 c2 f2
          go_wp2
          go_roundw
          case rel => exact ⟨q + 1, by omega, by go_num, HB4, HL4⟩
          case measure => simp [intOf]; omega
        · obtain rfl : n = q := by omega
          go_wp2
          go_roundw
          case rel => exact ⟨n + 1, by omega, by go_num, hide (by have h := hB2.out; rw [tv_row _ (by omega)] at h; exact h), hL2⟩
          case measure => simp [intOf]; omega
    · obtain rfl : n = 65 := by omega
      go_wp2
      go_ret
      subst hG
      exact ⟨rfl, by have h := hB.out; rw [show 65 * 65 = 4225 from rfl, tv_full] at h; exact h, hL.out⟩
end Go.Proofs.Ytpnekmkbedhooaa
