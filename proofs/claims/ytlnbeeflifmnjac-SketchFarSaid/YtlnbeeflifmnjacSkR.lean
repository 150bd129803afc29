/-
  A vector's sketch. Conditions: at most a thousand components, each of 32 bits.
-/
import Derived.Test.YtlnbeeflifmnjacSkN
import Derived.Test.YtlnbeeflifmnjacSkO
namespace Go.Proofs.Ytlnbeeflifmnjac
set_option linter.unusedSimpArgs false
set_option linter.unusedVariables false
open Go.RowKit

/-- the planes that a vector lies above -/
def planesK (v : List Int) (seed : Int) (k : Nat) : List Int := ((List.range k).filter fun p : Nat => aboveP v seed p).map Int.ofNat
theorem planesK_yes {v : List Int} {seed : Int} {k : Nat} (h : aboveP v seed k = true) : planesK v seed (k + 1) = planesK v seed k ++ [(k : Int)] := by
  unfold planesK
  rw [List.range_succ, List.filter_append, List.map_append, List.filter_cons, if_pos h]
  rfl
theorem planesK_no {v : List Int} {seed : Int} {k : Nat} (h : aboveP v seed k = false) : planesK v seed (k + 1) = planesK v seed k := by
  unfold planesK
  rw [List.range_succ, List.filter_append, List.map_append, List.filter_cons, if_neg (by rw [h]; decide)]
  simp
theorem planesK_in {v : List Int} {seed : Int} {k : Nat} {x : Int} (h : x ∈ planesK v seed k) : 0 ≤ x ∧ x < k := by
  unfold planesK at h
  obtain ⟨q, h1, rfl⟩ := List.mem_map.1 h
  have := List.mem_range.1 (List.mem_filter.1 h1).1
  show (0 : Int) ≤ (q : Int) ∧ (q : Int) < k
  omega
set_option maxHeartbeats 2000000 in
set_option maxRecDepth 100000 in
theorem eSk_any {A : Option Addr} {n c : Nat} {v : List Int} {w : World} (hx : Rd (Sh.int .i32) w w.heap.size A v) (hn : v.length = n) (hc : n ≤ c) (h10 : n ≤ 1000) (hv : I32L v) (seed m : Int) (N : Nat) (hN : min (max m 0) 4096 = N) :
    Calls Try.prog 11 #[.slice A n c, .int .u64 seed, .int .i64 m] w (GivesO (planesK v seed N) w) := by
  have HX := hide hx
  have Hn := hide hn
  have HV := hide hv
  have HB0 := hide (Below.refl w.heap.size w)
  have hN4 : N ≤ 4096 := by omega
  clear hx hn hv
  go_enter Try.func11, Try.ntmps11
  go_wp2
  go_loopw [7, 12] (fun o i wr => ∃ (k j : Nat) (B : Option Addr) (d : Nat), k ≤ N ∧ j ≤ k ∧ i = .int .i64 k ∧ o = .slice B j d ∧ j ≤ d ∧ d ≤ 9223372036854775807 ∧ Hid ((planesK v seed k).length = j) ∧ Hid (wr.ownsRow w.heap.size 3 1 (.slice B j d) j (fcs encI (planesK v seed k))) ∧ Hid (Below w.heap.size w wr)) (fun _ i _ => N - (intOf i).toNat)
  case atStart => exact ⟨0, 0, none, 0, by omega, by omega, rfl, rfl, by omega, by omega, hide rfl, hide (World.ownsRow_nil _ _ _ _), HB0⟩
  case round =>
    obtain ⟨k, j, B, d, hk, hj, rfl, rfl, c1, c2, HLn, HO, HBr⟩ := hrel
    clear HB0
    by_cases hlt : k < N
    · have g0 : (0 : Int) ≤ k := by omega
      have g1 : (k : Int) < N := by omega
      have CH := hide (eAbove_any (HX.out.at_world HBr.out) Hn.out hc h10 HV.out seed k (by omega))
      by_cases hm : aboveP v seed k = true
      · have HSn := hide (planesK_yes hm)
        rw [hm] at CH
        clear hm
        go_wp2_with (first
          | (go_at_call 25; refine CH.out.mono ?_; rintro e w3 ⟨rfl, rfl⟩)
          | (at_builtin; refine wpList_append_elem rfl (.tmp 19) (.tmp 21) 32 rfl w.heap.size Try.underlying32 info_intE rfl (by decide) (.slice B j d) j _ rfl HO.out _ _ rfl rfl (by simp [Value.oneCell']) (by simp only [maxLen]; omega) (by omega) HBr.out.size ?_; intro v9 w9 hown9 hgr9 hat9; have HO9 := hide (show w9.ownsRow w.heap.size 3 1 v9 (j + 1) (fcs encI (planesK v seed (k + 1))) by rw [HSn.out, fcsI_snoc']; exact hown9); have HB9 := hide (below_own HBr.out HO.out HBr.out.size hgr9); obtain ⟨A8, c8, rfl, l1, l2⟩ := own_form hown9; clear hown9 hgr9 hat9))
        go_roundw
        case rel => exact ⟨k + 1, j + 1, A8, c8, by omega, by omega, by go_num, rfl, l1, l2, hide (by rw [HSn.out, List.length_append, HLn.out]; rfl), HO9, HB9⟩
        case measure => simp [intOf]; omega
      · have hm := Bool.eq_false_iff.2 hm
        have HSn := hide (planesK_no hm)
        rw [hm] at CH
        clear hm
        go_wp2_with (go_at_call 25; refine CH.out.mono ?_; rintro e w3 ⟨rfl, rfl⟩)
        go_roundw
        case rel => exact ⟨k + 1, j, B, d, by omega, by omega, by go_num, rfl, c1, c2, by rw [HSn.out]; exact HLn, by rw [HSn.out]; exact HO, HBr⟩
        case measure => simp [intOf]; omega
    · obtain rfl : N = k := by omega
      have CO := hide (eOf_any (c := d) ((flatI.own HO.out).rd (B := wr.heap.size) fun d hd => hd.2) HLn.out c1 c2 (fun x hx => by have := planesK_in hx; omega))
      clear HO HLn
      go_wp2_with (go_at_call 20; refine CO.out.mono ?_; rintro e w4 ⟨s, v4, hs, rfl, A4, n4, c4, rfl, k1, k2, k3, k4, k5⟩; have HG := hide (show GivesO (planesK v seed N) w (.returned (.slice A4 n4 c4)) w4 from ⟨s, _, hs, rfl, A4, n4, c4, rfl, k1, k2, k3, k4.more fun d hd => ⟨Nat.le_trans HBr.out.size hd.1, hd.2⟩, Below.step HBr.out k5⟩); clear hs k1 k2 k3 k4 k5)
      go_ret
      exact HG.out
end Go.Proofs.Ytlnbeeflifmnjac
