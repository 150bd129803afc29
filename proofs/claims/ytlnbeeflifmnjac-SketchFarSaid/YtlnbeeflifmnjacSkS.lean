/-
  The document's sketch of a vector. Conditions: at most a thousand components, each of 32 bits.
-/
import Derived.Test.YtlnbeeflifmnjacSkR
namespace Go.Proofs.Ytlnbeeflifmnjac
set_option linter.unusedSimpArgs false
set_option linter.unusedVariables false
open Go.RowKit

theorem sgnV_nat (seed : Int) (p i : Nat) : sgnV seed p i = sgn seed p i := by unfold sgnV; rw [if_neg (by omega)]
theorem sgn_pm (seed p i : Int) : sgn seed p i = 1 ∨ sgn seed p i = -1 := by unfold sgn; split <;> simp
set_option maxHeartbeats 4000000 in
set_option maxRecDepth 100000 in
theorem rSk_any {A : Option Addr} {n c : Nat} {v : List Int} {w : World} (hx : Rd (Sh.int .i32) w w.heap.size A v) (hn : v.length = n) (hc : n ≤ c) (h10 : n ≤ 1000) (hv : I32L v) (seed m : Int) (N : Nat) (hN : min (max m 0) 4096 = N) :
    Calls Try.prog 12 #[.slice A n c, .int .u64 seed, .int .i64 m] w (GivesO (planesK v seed N) w) := by
  have HX := hide hx
  have Hn := hide hn
  have HV := hide hv
  have HB0 := hide (Below.refl w.heap.size w)
  have hN4 : N ≤ 4096 := by omega
  clear hx hn hv
  go_enter Try.func12, Try.ntmps12
  go_wp2
  go_loopw [7, 8] (fun o i wr => ∃ (k j : Nat) (B : Option Addr) (d : Nat), k ≤ N ∧ j ≤ k ∧ i = .int .i64 k ∧ o = .slice B j d ∧ j ≤ d ∧ d ≤ 9223372036854775807 ∧ Hid ((planesK v seed k).length = j) ∧ Hid (wr.ownsRow w.heap.size 3 1 (.slice B j d) j (fcs encI (planesK v seed k))) ∧ Hid (Below w.heap.size w wr)) (fun _ i _ => N - (intOf i).toNat)
  case atStart => exact ⟨0, 0, none, 0, by omega, by omega, rfl, rfl, by omega, by omega, hide rfl, hide (World.ownsRow_nil _ _ _ _), HB0⟩
  case round =>
    obtain ⟨k, j, B, d, hk, hj, rfl, rfl, c1, c2, HLn, HO, HBr⟩ := hrel
    clear HB0
    by_cases hlt : k < N
    · have e0 : decide ((k : Int) < min m 4096) = true := decide_eq_true (by omega)
      have hk4 : k < 4096 := by omega
      go_upto_region 6 with fail
      go_wp2
      go_loopw [9, 20] (fun s i wi => ∃ q : Nat, q ≤ n ∧ i = .int .i64 q ∧ s = .int .i64 (sumP v seed k q) ∧ wr = wi) (fun _ i _ => n - (intOf i).toNat)
      case atStart => exact ⟨0, by omega, rfl, rfl, rfl⟩
      case round =>
        obtain ⟨q, hq, rfl, rfl, rfl⟩ := hrel
        by_cases hqn : q < n
        · obtain ⟨ad, x, rfl, _, hxv, q0⟩ := Rd.icell (HX.out.at_world HBr.out) (k := q) (by have := Hn.out; omega)
          have g0 : (0 : Int) ≤ q := by omega
          have g1 : (q : Int) < n := by omega
          have hd : v.getD q 0 = x := by rw [List.getD_eq_getElem?_getD, hxv]; rfl
          have hb := HV.out.getD q
          rw [hd] at hb
          have hsl := sumP_le (seed := seed) (p := (k : Int)) HV.out q
          have C2 := hide (rSign_any seed k q (by omega) (by omega) wr)
          rw [sgnV_nat] at C2
          have hs1 : sumP v seed k (q + 1) = sumP v seed k q + sgn seed k q * x := by show sumP v seed k q + sgn seed k q * v.getD q 0 = _; rw [hd]
          obtain ⟨t, ht⟩ : ∃ t, sumP v seed k q = t := ⟨_, rfl⟩
          rw [ht] at hsl hs1
          rw [ht]
          have hs2 : -2147483648000 ≤ t ∧ t ≤ 2147483648000 := by omega
          rcases sgn_pm seed k q with hz | hz
          · rw [hz] at hs1 C2
            have HS := hide (show sumP v seed k (q + 1) = t + x by omega)
            clear hsl hd hxv hs1 hz ht
            go_wp2_with (go_at_call 9; refine C2.out.mono ?_; rintro e _ ⟨rfl, rfl⟩)
            go_roundw
            case rel => exact ⟨q + 1, by omega, by go_num, by first | (rw [HS.out]; done) | (rw [HS.out]; go_num), by first | rfl | trivial⟩
            case measure => simp [intOf]; omega
          · rw [hz] at hs1 C2
            have HS := hide (show sumP v seed k (q + 1) = t - x by omega)
            clear hsl hd hxv hs1 hz ht
            go_wp2_with (go_at_call 9; refine C2.out.mono ?_; rintro e _ ⟨rfl, rfl⟩)
            go_roundw
            case rel => exact ⟨q + 1, by omega, by go_num, by first | (rw [HS.out]; done) | (rw [HS.out]; go_num), by first | rfl | trivial⟩
            case measure => simp [intOf]; omega
        · obtain rfl : n = q := by omega
          have HF := hide (show aboveP v seed k = decide (0 ≤ sumP v seed k n) by unfold aboveP; rw [Hn.out])
          by_cases hm : aboveP v seed k = true
          · have HSn := hide (planesK_yes hm)
            rw [HF.out] at hm
            go_wp2_with (at_builtin; refine wpList_append_elem rfl (.tmp 37) (.tmp 39) 32 rfl w.heap.size Try.underlying32 info_intE rfl (by decide) (.slice B j d) j _ rfl HO.out _ _ rfl rfl (by simp [Value.oneCell']) (by simp only [maxLen]; omega) (by omega) HBr.out.size ?_; intro v9 w9 hown9 hgr9 hat9; have HO9 := hide (show w9.ownsRow w.heap.size 3 1 v9 (j + 1) (fcs encI (planesK v seed (k + 1))) by rw [HSn.out, fcsI_snoc']; exact hown9); have HB9 := hide (below_own HBr.out HO.out HBr.out.size hgr9); obtain ⟨A8, c8, rfl, l1, l2⟩ := own_form hown9; clear hown9 hgr9 hat9)
            go_roundw
            case rel => exact ⟨k + 1, j + 1, A8, c8, by omega, by omega, by go_num, rfl, l1, l2, hide (by rw [HSn.out, List.length_append, HLn.out]; rfl), HO9, HB9⟩
            case measure => simp [intOf]; omega
          · have hm := Bool.eq_false_iff.2 hm
            have HSn := hide (planesK_no hm)
            rw [HF.out] at hm
            go_wp2
            go_roundw
            case rel => exact ⟨k + 1, j, B, d, by omega, by omega, by go_num, rfl, c1, c2, by rw [HSn.out]; exact HLn, by rw [HSn.out]; exact HO, HBr⟩
            case measure => simp [intOf]; omega
    · have e0 : decide ((k : Int) < min m 4096) = false := decide_eq_false (by omega)
      obtain rfl : N = k := by omega
      have CO := hide (rOf_any (c := d) ((flatI.own HO.out).rd (B := wr.heap.size) fun d hd => hd.2) HLn.out c1 c2 (fun x hx => by have := planesK_in hx; omega))
      clear HO HLn
      go_wp2_with (go_at_call 26; refine CO.out.mono ?_; rintro e w4 ⟨s, v4, hs, rfl, A4, n4, c4, rfl, k1, k2, k3, k4, k5⟩; have HG := hide (show GivesO (planesK v seed N) w (.returned (.slice A4 n4 c4)) w4 from ⟨s, _, hs, rfl, A4, n4, c4, rfl, k1, k2, k3, k4.more fun d hd => ⟨Nat.le_trans HBr.out.size hd.1, hd.2⟩, Below.step HBr.out k5⟩); clear hs k1 k2 k3 k4 k5)
      go_ret
      exact HG.out
end Go.Proofs.Ytlnbeeflifmnjac
