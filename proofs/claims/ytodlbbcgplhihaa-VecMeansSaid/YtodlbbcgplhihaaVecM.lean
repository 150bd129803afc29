/-
  The law VecMeans. Conditions: the slices read as lists of int32s.
-/
import Derived.Test.YtodlbbcgplhihaaVecL
namespace Go.Proofs.Ytodlbbcgplhihaa
open Go.RowKit

set_option maxHeartbeats 4000000 in
theorem means_any (A : Option Addr) (n c : Nat) (l : List (List Int)) (w : World) (hx : LL w w.heap.size A l) (hn : l.length = n) (hc : n ≤ c) (hm : c ≤ 9223372036854775807) (hi : ∀ v ∈ l, I32 v) :
    Calls Try.prog 4 #[.slice A n c] w fun e w' => e = .returned (.bool true) ∧ Below w.heap.size w w' := by
  have Hn := hide hn
  have HI := hide hi
  have HX := hide hx
  clear hn hi hx
  by_cases h1 : 100 < (n : Int)
  · have b1 : decide (100 < (n : Int)) = true := decide_eq_true h1
    go_enter Try.func4, Try.ntmps4
    go_wp2_with (go_at_call 5; refine (lives_any _).mono ?_; rintro e w1 ⟨rfl, hb⟩)
    go_ret
    exact ⟨rfl, hb⟩
  · have b1 : decide (100 < (n : Int)) = false := decide_eq_false h1
    go_enter Try.func4, Try.ntmps4
    go_wp2
    go_loopw [15] (fun i wr => ∃ k : Nat, k ≤ n ∧ i = .int .i64 k ∧ Hid (∀ (j : Nat) (v : List Int), j < k → l[j]? = some v → v.length ≤ 1000) ∧ w = wr) (fun i _ => n - (intOf i).toNat)
    case atStart => exact ⟨0, by omega, rfl, hide (fun j v h => by omega), by first | rfl | trivial⟩
    case round =>
      obtain ⟨k, hk, rfl, hev, rfl⟩ := hrel
      by_cases hlt : k < n
      · obtain ⟨ad', v, A', c', rfl, _, hv, q0, q1, q2, q3⟩ := HX.out.slc (k := k) (by have := Hn.out; omega)
        have HV := hide hv
        have g0 : (0 : Int) ≤ k := by omega
        have g1 : (k : Int) < n := by omega
        clear hv q3
        by_cases hvl : 1000 < (v.length : Int)
        · have b2 : decide (1000 < (v.length : Int)) = true := decide_eq_true hvl
          go_wp2_with (go_at_call 5; refine (lives_any _).mono ?_; rintro e w1 ⟨rfl, hb⟩)
          go_ret
          exact ⟨rfl, hb⟩
        · have b2 : decide (1000 < (v.length : Int)) = false := decide_eq_false hvl
          go_wp2
          go_roundw
          case rel => exact ⟨k + 1, by omega, by go_num, hide (fun j v' hj hv' => by
            rcases Nat.lt_or_ge j k with h | h
            · exact hev.out j v' h hv'
            · obtain rfl : j = k := by omega
              rw [HV.out] at hv'; injection hv' with hv'; rw [← hv']; omega), by first | rfl | trivial⟩
          case measure => simp [intOf]; omega
      · obtain rfl : n = k := by omega
        have hle : ∀ v ∈ l, v.length ≤ 1000000 := fun v hv => by
          obtain ⟨j, hj⟩ := List.getElem?_of_mem hv
          have := hev.out j v (by have := (List.getElem?_eq_some_iff.1 hj).1; have := Hn.out; omega) hj
          omega
        have HLE := hide hle
        clear hle
        go_wp2_with (first
          | (go_at_call 11; refine (mean_any A n c l _ HX.out Hn.out hc hm HI.out (by omega) HLE.out).mono ?_; rintro e w1 ⟨v1, rfl, hN1⟩; have N1 := hide hN1; clear hN1)
          | (go_at_call 12; refine (refMean_any A n c l _ (HX.out.at_world N1.out.below) Hn.out hc hm HI.out (by omega) HLE.out).mono ?_; rintro e w2 ⟨v2, rfl, hN2⟩; have N2 := hide hN2; clear hN2)
          | (go_at_call 5; refine (lives_any _).mono ?_; rintro e w3 ⟨rfl, hb⟩; have HB := hide hb; clear hb; obtain ⟨A1, n1, c1, rfl, l1, a1, a2, R1, B1⟩ := N1.out; obtain ⟨A2, n2, c2, rfl, l2, a3, a4, R2, B2⟩ := N2.out; have L1 := hide l1; have L2 := hide l2; have RR1 := hide R1; have RR2 := hide R2; clear l1 l2 R1 R2)
          | (go_at_call 13; refine (refSame_any A1 A2 n1 c1 n2 c2 (meanR l) (meanR l) _ ((RR1.out.rd (B := w1.heap.size) fun b hb => hb.2).below (B2.trans (HB.out.mono B2.size)) (Nat.le_refl _) |>.more (Nat.le_trans B2.size HB.out.size)) L1.out a1 a2 ((RR2.out.rd (B := w2.heap.size) fun b hb => hb.2).below HB.out (Nat.le_refl _) |>.more HB.out.size) L2.out a3 a4).mono ?_; rintro e w4 ⟨rfl, hd⟩; have HD := hide hd; clear hd))
        go_ret
        exact ⟨rfl, Below.step (Below.step (Below.step B1 B2) HB.out) HD.out.below⟩
end Go.Proofs.Ytodlbbcgplhihaa
