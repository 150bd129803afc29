/-
  The document's answer for vec: equal lists, the middle. Conditions: the slices read as lists of int32s, not too many.
-/
import Derived.Test.YtodlbbcgplhihagVecC
namespace Go.Proofs.Ytodlbbcgplhihag
open Go.RowKit

set_option maxHeartbeats 1000000 in
theorem refSame_any (A B : Option Addr) (n c m d : Nat) (xs ys : List Int) (w : World) (hx : I32s w w.heap.size A xs) (hn : xs.length = n) (hc : n ≤ c) (hm : c ≤ 9223372036854775807)
    (hy : I32s w w.heap.size B ys) (hn' : ys.length = m) (hd : m ≤ d) (hm' : d ≤ 9223372036854775807) :
    Calls Try.prog 25 #[.slice A n c, .slice B m d] w fun e w' => e = .returned (.bool (decide (xs = ys))) ∧ Drew w w' := by
  have Hn := hide hn
  have Hm := hide hn'
  by_cases hnm : n = m
  · subst hnm
    clear hn hn'
    go_enter Try.func25, Try.ntmps25
    go_wp2
    go_loopw [13] (fun i wr => ∃ k : Nat, k ≤ n ∧ i = .int .i64 k ∧ Hid (xs.take k = ys.take k) ∧ Drew w wr) (fun i _ => n - (intOf i).toNat)
    case atStart => exact ⟨0, by omega, rfl, hide (by simp), Drew.refl _⟩
    case round =>
      obtain ⟨k, hk, rfl, ht, j, rfl⟩ := hrel
      by_cases hlt : k < n
      · obtain ⟨ad, x, rfl, _, hx1, c1⟩ := hx.icell (k := k) (by have := Hn.out; omega)
        obtain ⟨ad2, y, rfl, _, hy1, c2⟩ := hy.icell (k := k) (by have := Hm.out; omega)
        have h0 : (0 : Int) ≤ k := by omega
        have h1 : (k : Int) < n := by omega
        by_cases e : x = y
        · subst e
          have HT := hide (take_more ht.out hx1 hy1)
          have hb : (x != x) = false := by simp
          clear hx hy hx1 hy1
          go_upto_region 6 with fail
          go_quiet (fail)
          go_wp2
          go_roundw
          case rel => exact ⟨k + 1, by omega, by go_num, HT, ⟨_, rfl⟩⟩
          case measure => simp [intOf]; omega
        · have HF := hide (at_false hx1 hy1 e)
          have hb : (x != y) = true := by simp [e]
          clear hx hy hx1 hy1 e
          go_upto_region 6 with fail
          go_quiet (fail)
          go_wp2
          go_ret
          exact ⟨by rw [HF.out]; rfl, by first | exact ⟨_, rfl⟩ | exact drewN_drewN' _ _ _⟩
      · obtain rfl : k = n := by omega
        have HF := hide (decide_eq_true (same_of_take ht.out (by rw [Hn.out]; omega) (by rw [Hm.out]; omega)))
        clear hx hy
        go_wp2
        go_ret
        exact ⟨by rw [HF.out]; rfl, by first | exact ⟨_, rfl⟩ | exact drewN_drewN' _ _ _⟩
  · have HF := hide (lens_false (xs := xs) (ys := ys) (by omega))
    have hb : ((n : Int) != m) = true := by rw [bne_iff_ne]; omega
    clear hx hy hn hn' hnm
    go_enter Try.func25, Try.ntmps25
    go_wp2
    go_ret
    exact ⟨by rw [HF.out]; rfl, Drew.refl _⟩
set_option maxHeartbeats 1000000 in
theorem refDown_any (s n : Int) (w : World) (hn : 1 ≤ n) (hn2 : n ≤ 1000000) (hs : -2147483648000000 ≤ s ∧ s ≤ 2147483648000000) :
    Calls Try.prog 34 #[.int .i64 s, .int .i64 n] w fun e w' => e = .returned (.int .i64 (s / n)) ∧ w = w' := by
  have fl := floor_step s n hn
  have tb := tdiv_bound s n hn 2147483648000000 (by omega) (by omega)
  have tm := tmod_neg_iff s n hn
  obtain ⟨hs1, hs2⟩ := hs
  by_cases hr : s.tmod n < 0
  · have e := fl.1 (tm.1 hr)
    have hd : decide (s.tmod n < 0) = true := decide_eq_true hr
    have HE := hide e
    clear e fl tm
    generalize hq : s.tdiv n = q at *
    have q1 : -2147483648000000 ≤ q := tb.2.1
    have q2 : q ≤ 2147483648000000 := tb.2.2
    clear tb
    go_enter Try.func34, Try.ntmps34
    go_wp2
    all_goals
      go_ret
      exact ⟨by rw [HE.out]; rfl, rfl⟩
  · have e := fl.2 (fun h => hr (tm.2 h))
    have hd : decide (s.tmod n < 0) = false := decide_eq_false hr
    have HE := hide e
    clear e fl tm
    generalize hq : s.tdiv n = q at *
    have q1 : -2147483648000000 ≤ q := tb.2.1
    have q2 : q ≤ 2147483648000000 := tb.2.2
    clear tb
    go_enter Try.func34, Try.ntmps34
    go_wp2
    all_goals
      go_ret
      exact ⟨by rw [HE.out]; rfl, rfl⟩
theorem info_i64 : (Try.prog.info? 3).map (fun i => (i.zero, i.size, i.bytes)) = some (some (.int .i64 0), 1, 8) := by kernel_rfl
theorem info_i32 : (Try.prog.info? 21).map (fun i => (i.zero, i.size, i.bytes)) = some (some (.int .i32 0), 1, 4) := by kernel_rfl
def midsTo (l : List (List Int)) (i : Nat) : List Value := ((List.range i).map (mids l)).map (Value.int .i32)
theorem midsTo_len (l : List (List Int)) (i : Nat) : (midsTo l i).length = i := by simp [midsTo]
theorem midsTo_next (l : List (List Int)) (i : Nat) : midsTo l (i + 1) = midsTo l i ++ [.int .i32 (mids l i)] := by simp [midsTo, List.range_succ]
set_option maxHeartbeats 4000000 in
theorem refMean_any (A : Option Addr) (n c : Nat) (l : List (List Int)) (w : World) (hx : LL w w.heap.size A l) (hn : l.length = n) (hc : n ≤ c) (hm : c ≤ 9223372036854775807)
    (hi : ∀ v ∈ l, I32 v) (h6 : n ≤ 1000000) (hlen : ∀ v ∈ l, v.length ≤ 1000000) :
    Calls Try.prog 32 #[.slice A n c] w (MeanGives w l) := by
  have Hn := hide hn
  have HI := hide hi
  rcases Nat.eq_zero_or_pos n with h0 | h0
  · subst h0
    have hB : meanB l = false := by rw [List.eq_nil_of_length_eq_zero hn]; rfl
    have HF := hide (meanGives_no hB (Below.refl w.heap.size w))
    clear hx hn hi hlen hB
    go_enter Try.func32, Try.ntmps32
    go_wp2
    go_ret2
    exact HF.out
  obtain ⟨ad, x0, A0, c0, rfl, hb0, hx0, k0, k1, k2, k3⟩ := hx.slc (k := 0) (by omega)
  have hx0' : l.getD 0 [] = x0 := by rw [List.getD_eq_getElem?_getD, hx0]; rfl
  have hlm := hlen x0 (List.mem_of_getElem? hx0)
  generalize hm0 : x0.length = m at *
  have hnn : ((n : Int) == 0) = false := by rw [beq_eq_false_iff_ne]; omega
  have HX := hide hx
  have HX0 := hide hx0'
  have HM0 := hide hm0
  rw [add_zero'] at k0
  have K0 := hide k0
  clear hx hx0 hx0' hm0 hn hi
  go_enter Try.func32, Try.ntmps32
  go_wp2
  go_loopw [4, 18] (fun v i wr => ∃ k : Nat, k ≤ m ∧ i = .int .i64 k ∧ Hid (0 < k → ∀ (j : Nat) (v : List Int), l[j]? = some v → v.length = m) ∧ Hid (wr.ownsRow w.heap.size 21 1 v k (midsTo l k)) ∧ Hid (Below w.heap.size w wr)) (fun _ i _ => m - (intOf i).toNat)
  case atStart => exact ⟨0, by omega, rfl, hide (fun h => by omega), hide ⟨rfl, .inl ⟨rfl, rfl⟩⟩, hide (Below.refl _ _)⟩
  case round =>
    obtain ⟨i, hi, rfl, hev, hO, hB⟩ := hrel
    clear k0
    by_cases him : i < m
    · have kw : wr.cell? ad = some (.slice A0 m c0) := (hB.out.cell hb0).trans K0.out
      go_wp2
      obtain ⟨wo, rfl⟩ : ∃ wo : World, wo = wr := ⟨_, rfl⟩
      go_loopw [6, 23] (fun s i' wr => ∃ k : Nat, k ≤ n ∧ i' = .int .i64 k ∧ s = .int .i64 (colTo l i k) ∧ Hid (∀ (j : Nat) (v : List Int), j < k → l[j]? = some v → v.length = m) ∧ wo = wr) (fun _ i' _ => n - (intOf i').toNat)
      case atStart => exact ⟨0, by omega, rfl, rfl, hide (fun j v h => by omega), by first | rfl | trivial⟩
      case round =>
        obtain ⟨k, hk, rfl, rfl, hev2, rfl⟩ := hrel
        by_cases hlt : k < n
        · obtain ⟨ad', v, A', c', e', _, hv, q0, q1, q2, q3⟩ := (HX.out.below hB.out (Nat.le_refl _)).slc (k := k) (by have := Hn.out; omega)
          injection e' with e'
          subst e'
          have hvi := hide (i32_get HI.out hv)
          have HV := hide hv
          have g0 : (0 : Int) ≤ k := by omega
          have g1 : (k : Int) < n := by omega
          by_cases hvl : v.length = m
          · have hne : ((m : Int) != m) = false := by simp
            obtain ⟨ad2, x, rfl, hb2, hx1, c1⟩ := q3.icell (k := i) (by omega)
            have bx := hvi.out x (List.mem_of_getElem? hx1)
            have bs := colTo_le HI.out i k
            have hst := colTo_next hv i
            rw [cmpAt_of hx1] at hst
            have HST := hide hst
            rw [hvl] at q0 q1
            have HVL := hide hvl
            have i0 : (0 : Int) ≤ i := by omega
            have i1 : (i : Int) < m := by omega
            clear hv q3 hvl hst hx1
            go_wp2
            go_roundw
            case rel => exact ⟨k + 1, by omega, by go_num, by rw [HST.out], hide (fun j v' hj hv' => by
              rcases Nat.lt_or_ge j k with h | h
              · exact hev2.out j v' h hv'
              · obtain rfl : j = k := by omega
                rw [HV.out] at hv'; injection hv' with hv'; rw [← hv']; exact HVL.out), by first | rfl | trivial⟩
            case measure => simp [intOf]; omega
          · have HF := hide (meanGives_no (meanB_no hv (by rw [HX0.out, HM0.out]; exact hvl)) hB.out)
            have hne : ((v.length : Int) != m) = true := by rw [bne_iff_ne]; omega
            clear q3 hv hvl
            go_wp2
            go_ret2
            exact HF.out
        · obtain rfl : n = k := by omega
          have bs := colTo_le HI.out i n
          have bm := mean_i32 HI.out (by have := Hn.out; omega) i
          rw [Hn.out] at bm
          have hmid : mids l i = colTo l i n / (n : Int) := by unfold mids; rw [Hn.out]
          have HMID := hide hmid
          have hdn := hide (refDown_any (colTo l i n) n wo (by omega) (by omega) (by omega))
          have HB2 := hide hB.out.size
          clear hmid
          generalize colTo l i n = s at *
          generalize hd : s / (n : Int) = d at *
          obtain ⟨bm1, bm2⟩ := bm
          have HD := hide hd
          clear hd
          go_wp2_with (first
            | (go_at_call 34; refine hdn.out.mono ?_; rintro e w' ⟨rfl, rfl⟩)
            | (at_builtin; refine wpList_append_elem rfl _ _ 27 rfl w.heap.size Try.underlying27 info_i32 rfl (by decide) _ i (midsTo l i) rfl hO.out _ _ rfl rfl (by simp [Value.oneCell']) (by simp only [maxLen]; omega) (by omega) HB2.out ?_; intro v' w9 hown9 hgr9 hat9; have HO9 := hide hown9; have HB9 := hide (below_own hB.out hO.out hB.out.size hgr9); clear hown9 hgr9 hat9))
          go_roundw
          case rel => exact ⟨i + 1, by omega, by go_num, hide (fun _ j v hv => hev2.out j v (by have := (List.getElem?_eq_some_iff.1 hv).1; have := Hn.out; omega) hv), hide (by rw [midsTo_next, HMID.out]; exact HO9.out), HB9⟩
          case measure => simp [intOf]; omega
    · obtain rfl : m = i := by omega
      have kw : wr.cell? ad = some (.slice A0 m c0) := (hB.out.cell hb0).trans K0.out
      obtain ⟨A9, c9, rfl, o1, o2⟩ := own_form hO.out
      go_wp2
      obtain ⟨wo, rfl⟩ : ∃ wo : World, wo = wr := ⟨_, rfl⟩
      go_loopw [53] (fun i' wr => ∃ k : Nat, k ≤ n ∧ i' = .int .i64 k ∧ Hid (∀ (j : Nat) (v : List Int), j < k → l[j]? = some v → v.length = m) ∧ wo = wr) (fun i' _ => n - (intOf i').toNat)
      case atStart => exact ⟨0, by omega, rfl, hide (fun j v h => by omega), by first | rfl | trivial⟩
      case round =>
        obtain ⟨k, hk, rfl, hev2, rfl⟩ := hrel
        by_cases hlt : k < n
        · obtain ⟨ad', v, A', c', e', _, hv, q0, q1, q2, q3⟩ := (HX.out.below hB.out (Nat.le_refl _)).slc (k := k) (by have := Hn.out; omega)
          injection e' with e'
          subst e'
          have HV := hide hv
          have g0 : (0 : Int) ≤ k := by omega
          have g1 : (k : Int) < n := by omega
          by_cases hvl : v.length = m
          · have hne : ((m : Int) != m) = false := by simp
            rw [hvl] at q0 q1
            have HVL := hide hvl
            clear hv q3 hvl
            go_wp2
            go_roundw
            case rel => exact ⟨k + 1, by omega, by go_num, hide (fun j v' hj hv' => by
              rcases Nat.lt_or_ge j k with h | h
              · exact hev2.out j v' h hv'
              · obtain rfl : j = k := by omega
                rw [HV.out] at hv'; injection hv' with hv'; rw [← hv']; exact HVL.out), by first | rfl | trivial⟩
            case measure => simp [intOf]; omega
          · have HF := hide (meanGives_no (meanB_no hv (by rw [HX0.out, HM0.out]; exact hvl)) hB.out)
            have hne : ((v.length : Int) != m) = true := by rw [bne_iff_ne]; omega
            clear q3 hv hvl
            go_wp2
            go_ret2
            exact HF.out
        · obtain rfl : n = k := by omega
          have hY : meanB l = true := meanB_yes (by rw [Hn.out]; exact h0) fun j v hv => by
            rw [HX0.out, HM0.out]
            exact hev2.out j v (by have := (List.getElem?_eq_some_iff.1 hv).1; have := Hn.out; omega) hv
          have HY := hide hY
          clear hY
          go_wp2
          go_ret2
          refine ⟨_, by rw [show meanE l = 0 by simp [meanE, HY.out]]; rfl, ?_⟩
          rw [meanR_yes HY.out, HX0.out, HM0.out]
          exact NewInts.of_own (n := m) hO.out hB.out
end Go.Proofs.Ytodlbbcgplhihag
