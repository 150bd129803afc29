/-
  The package quant: Check, Dim, fits. Conditions: the slices read as books.
-/
import Derived.Test.YtojanklgjdjniacQuaA
namespace Go.Proofs.Ytojanklgjdjniac
open Go.RowKit

set_option maxHeartbeats 2000000 in
theorem qcheck_any (A : Option Addr) (n c : Nat) (b : Book) (w : World) (hx : Rd SPart w w.heap.size A b) (hn : b.length = n) (hc : n ≤ c) (hm : c ≤ 9223372036854775807) :
    Calls Try.prog 8 #[.slice A n c] w fun e w' => e = .returned (.int .i64 (chkE b)) ∧ Below w.heap.size w w' := by
  have HX := hide hx
  have Hn := hide hn
  clear hx hn
  go_enter Try.func8, Try.ntmps8
  go_wp2
  go_loopw [3, 5, 8] (fun l _ i wr => ∃ k : Nat, k ≤ n ∧ i = .int .i64 k ∧ l = .int .i64 (4096 - (sumK b k : Nat) : Int) ∧ Hid (∀ (j : Nat) (p : Part), j < k → b[j]? = some p → rightB p = true) ∧ Hid (sumK b k ≤ 4096) ∧ Hid (Below w.heap.size w wr)) (fun _ _ i _ => n - (intOf i).toNat)
  case atStart => exact ⟨0, by omega, rfl, rfl, hide (fun j p h => absurd h (by omega)), hide (by simp [sumK]), hide (Below.refl _ _)⟩
  case round =>
    obtain ⟨k, hk, rfl, rfl, HR, HS, HBl⟩ := hrel
    by_cases hlt : k < n
    · obtain ⟨ad, p, A', c', rfl, _, hv, q0, hl1, hl2, hr⟩ := (Rd.below HX.out HBl.out (Nat.le_refl _)).slc (k := k) (by have := Hn.out; omega)
      have h0 : (0 : Int) ≤ k := by omega
      have h1 : (k : Int) < n := by omega
      have CR := hide (right_any A' p.length c' p wr (hr.more HBl.out.size) rfl hl1 hl2)
      have HV := hide hv
      have hs := HS.out
      cases hp : rightB p
      · have HF := hide (chk_no_right hv hp)
        rw [hp] at CR
        clear hr hv hp
        generalize p.length = np at *
        go_wp2_with (go_at_call 21; refine CR.out.mono ?_; rintro e w1 ⟨rfl, hb⟩; have HB1 := hide (HBl.out.trans (hb.mono HBl.out.size)); clear hb)
        go_ret
        exact ⟨by rw [HF.out]; rfl, HB1.out⟩
      · obtain ⟨v, hv0, hvl, hp1⟩ := right_dim hp
        obtain ⟨ad', v', A'', c'', rfl, hadl, hv', q1, _, _, _⟩ := hr.slc (k := 0) (by omega)
        have ev : v' = v := by rw [hv0] at hv'; injection hv' with e; exact e.symm
        subst ev
        rw [add_zero'] at q1
        have HSn := hide (sumK_snoc hv)
        have HR1 := hide (show ∀ (j : Nat) (q : Part), j < k + 1 → b[j]? = some q → rightB q = true from fun j q hj hq => by
          rcases Nat.lt_or_ge j k with h | h
          · exact HR.out j q h hq
          · obtain rfl : j = k := by omega
            rw [hv] at hq; injection hq with e; rw [← e]; exact hp)
        rw [hp] at CR
        rw [hvl] at q1
        have HQ1 := hide (fun (W : World) (hb : Below wr.heap.size wr W) => (hb.cell (p := ad') (Nat.lt_of_lt_of_le hadl HBl.out.size)).trans q1)
        have hpp : (0 : Int) < p.length := by omega
        clear hr hv hp hv0 hv' q1 hvl
        generalize p.length = np at *
        generalize dim0 p = d at *
        by_cases hd : (4096 : Int) - (sumK b k : Nat) < d
        · have HF := hide (chk_no_sum (b := b) (k := k + 1) (by have := (List.getElem?_eq_some_iff.1 HV.out).1; omega) (by rw [HSn.out]; omega))
          clear HSn
          generalize sumK b k = sk at *
          go_wp2_with (go_at_call 21; refine CR.out.mono ?_; rintro e w1 ⟨rfl, hb⟩; have HB1 := hide (HBl.out.trans (hb.mono HBl.out.size)); have q1 := HQ1.out w1 hb; clear hb)
          go_ret
          exact ⟨by rw [HF.out]; rfl, HB1.out⟩
        · have HS1 := hide (show sumK b (k + 1) ≤ 4096 by rw [HSn.out]; omega)
          have HSv := hide (show (4096 : Int) - (sumK b (k + 1) : Nat) = 4096 - (sumK b k : Nat) - d by rw [HSn.out]; omega)
          have e1 : IntKind.i64.wrap ((4096 : Int) - (sumK b k : Nat) - d) = 4096 - (sumK b k : Nat) - d := by rw [IntKind.wrap_i64]; omega
          clear HSn
          generalize sumK b k = sk at *
          go_wp2_with (go_at_call 21; refine CR.out.mono ?_; rintro e w1 ⟨rfl, hb⟩; have HB1 := hide (HBl.out.trans (hb.mono HBl.out.size)); have q1 := HQ1.out w1 hb; clear hb)
          go_roundw
          case rel => exact ⟨k + 1, by omega, by go_num, by rw [HSv.out], HR1, HS1, HB1⟩
          case measure => simp [intOf]; omega
    · obtain rfl : k = n := by omega
      by_cases hl : 1 ≤ k ∧ k ≤ 64
      · have HF := hide (chk_yes (b := b) (by rw [Hn.out]; exact hl) (fun j p hp => HR.out j p (by have := (List.getElem?_eq_some_iff.1 hp).1; have := Hn.out; omega) hp) (by rw [Hn.out]; exact HS.out))
        have g1 : ¬ (k : Int) < 1 := by omega
        have g2 : ¬ (64 : Int) < k := by omega
        go_wp2
        go_ret
        exact ⟨by rw [HF.out]; rfl, HBl.out⟩
      · have HF := hide (chk_no_len (b := b) (by rw [Hn.out]; exact hl))
        by_cases h1 : k < 1
        · have g1 : (k : Int) < 1 := by omega
          go_wp2
          go_ret
          exact ⟨by rw [HF.out]; rfl, HBl.out⟩
        · have g1 : ¬ (k : Int) < 1 := by omega
          have g2 : (64 : Int) < k := by omega
          go_wp2
          go_ret
          exact ⟨by rw [HF.out]; rfl, HBl.out⟩
set_option maxHeartbeats 2000000 in
theorem qdim_any (A : Option Addr) (n c : Nat) (b : Book) (w : World) (hx : Rd SPart w w.heap.size A b) (hn : b.length = n) (hc : n ≤ c) (hm : c ≤ 9223372036854775807) :
    Calls Try.prog 10 #[.slice A n c] w fun e w' => e = .returned (.int .i64 (dimOf b : Nat)) ∧ Below w.heap.size w w' := by
  have HC := hide (qcheck_any A n c b w hx hn hc hm)
  cases hk : chkB b
  · have HD := hide (show dimOf b = 0 by unfold dimOf; rw [hk]; rfl)
    have HE := hide (show chkE b = 7 by unfold chkE; rw [hk]; rfl)
    rw [HE.out] at HC
    clear hx hn hk
    go_enter Try.func10, Try.ntmps10
    go_wp2_with (go_at_call 8; refine HC.out.mono ?_; rintro e w1 ⟨rfl, hb⟩)
    go_ret
    exact ⟨by rw [HD.out]; rfl, hb⟩
  · have HD := hide (show dimOf b = sumK b n by unfold dimOf; rw [hk, hn]; rfl)
    have HE := hide (show chkE b = 0 by unfold chkE; rw [hk]; rfl)
    obtain ⟨h64, hr, hs⟩ := chk_right hk
    have HS := hide (show ∀ k, k ≤ n → sumK b k ≤ 4096 from fun k h => Nat.le_trans (sumK_mono b h) (by rw [← hn]; exact hs))
    have HR := hide hr
    have HX := hide hx
    have Hn := hide hn
    rw [HE.out] at HC
    clear hx hn hk hr hs
    go_enter Try.func10, Try.ntmps10
    go_wp2_with (go_at_call 8; refine HC.out.mono ?_; rintro e w1 ⟨rfl, hb⟩; have HB1 := hide hb; clear hb)
    go_loopw [3, 5, 11] (fun s _ i wr => ∃ k : Nat, k ≤ n ∧ i = .int .i64 k ∧ s = .int .i64 (sumK b k : Nat) ∧ w1 = wr) (fun _ _ i _ => n - (intOf i).toNat)
    case atStart => exact ⟨0, by omega, rfl, rfl, by first | rfl | trivial⟩
    case round =>
      obtain ⟨k, hk, rfl, rfl, rfl⟩ := hrel
      by_cases hlt : k < n
      · obtain ⟨ad, p, A', c', rfl, _, hv, q0, hl1, hl2, hr⟩ := (Rd.below HX.out HB1.out (Nat.le_refl _)).slc (k := k) (by have := Hn.out; omega)
        have h0 : (0 : Int) ≤ k := by omega
        have h1 : (k : Int) < n := by omega
        obtain ⟨v, hv0, hvl, hp1⟩ := right_dim (HR.out p (List.mem_of_getElem? hv))
        obtain ⟨ad', v', A'', c'', rfl, hadl, hv', q1, _, _, _⟩ := hr.slc (k := 0) (by omega)
        have ev : v' = v := by rw [hv0] at hv'; injection hv' with e; exact e.symm
        subst ev
        rw [add_zero', hvl] at q1
        have HSn := hide (sumK_snoc hv)
        have hs1 := HS.out (k + 1) (by omega)
        rw [HSn.out] at hs1
        have hpp : (0 : Int) < p.length := by omega
        clear hr hv hv0 hv' hvl
        generalize p.length = np at *
        generalize dim0 p = d at *
        generalize hsk : sumK b k = sk at *
        have HSK := hide hsk
        clear hsk
        have e1 : IntKind.i64.wrap ((sk : Int) + d) = ((sk + d : Nat) : Int) := by rw [IntKind.wrap_i64]; omega
        go_wp2
        go_roundw
        case rel => exact ⟨k + 1, by omega, by go_num, by rw [HSn.out]; first | rfl | go_num, by first | rfl | trivial⟩
        case measure => simp [intOf]; omega
      · obtain rfl : k = n := by omega
        go_wp2
        go_ret
        exact ⟨by rw [HD.out]; rfl, HB1.out⟩
set_option maxHeartbeats 1000000 in
theorem fits_any (A B : Option Addr) (n c m d : Nat) (b : Book) (v : List Int) (w : World) (hx : Rd SPart w w.heap.size A b) (hn : b.length = n) (hc : n ≤ c) (hm : c ≤ 9223372036854775807)
    (hy : I32s w w.heap.size B v) (hn' : v.length = m) (hd : m ≤ d) (hm' : d ≤ 9223372036854775807) :
    Calls Try.prog 18 #[.slice A n c, .slice B m d] w fun e w' => e = .returned (.int .i64 (fitE b v)) ∧ Below w.heap.size w w' := by
  have HC := hide (qcheck_any A n c b w hx hn hc hm)
  cases hk : chkB b
  · have HD := hide (show fitE b v = 7 by unfold fitE; rw [hk]; rfl)
    have HE := hide (show chkE b = 7 by unfold chkE; rw [hk]; rfl)
    rw [HE.out] at HC
    clear hx hn hk hy hn'
    go_enter Try.func18, Try.ntmps18
    go_wp2_with (go_at_call 8; refine HC.out.mono ?_; rintro e w1 ⟨rfl, hb⟩)
    go_ret
    exact ⟨by rw [HD.out]; rfl, hb⟩
  · have HD := hide (show fitE b v = errOf (vecOk v (dimOf b)) by unfold fitE; rw [hk]; rfl)
    have HE := hide (show chkE b = 0 by unfold chkE; rw [hk]; rfl)
    have HQ := hide (fun (W : World) (hb : Below w.heap.size w W) => qdim_any A n c b W ((Rd.below hx hb (Nat.le_refl _)).more hb.size) hn hc hm)
    have HV := hide (fun (W : World) (hb : Below w.heap.size w W) => check_any B m d v (dimOf b) W ((Rd.below hy hb (Nat.le_refl _)).more hb.size) hn' hd hm')
    rw [HE.out] at HC
    clear hx hn hk hy hn'
    go_enter Try.func18, Try.ntmps18
    go_wp2_with (first
      | (go_at_call 8; refine HC.out.mono ?_; rintro e w1 ⟨rfl, hb⟩; have HB1 := hide hb; clear hb)
      | (go_at_call 10; refine (HQ.out _ HB1.out).mono ?_; rintro e w2 ⟨rfl, hb⟩; have HB2 := hide (Below.step HB1.out hb); clear hb)
      | (go_at_call 9; refine (HV.out _ HB2.out).mono ?_; rintro e w3 ⟨rfl, rfl⟩))
    go_ret
    exact ⟨by rw [HD.out]; rfl, HB2.out⟩
end Go.Proofs.Ytojanklgjdjniac
