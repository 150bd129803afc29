/-
  The document's clusters: equal lists, runs. Conditions: the slices read as lists of int32s, not too many.
-/
import Derived.Test.YtodlbbcgplhihagCluX
namespace Go.Proofs.Ytodlbbcgplhihag
open Go.RowKit

set_option maxHeartbeats 2000000 in
theorem refSameL_any (A B : Option Addr) (n c m d : Nat) (xs ys : List (List Int)) (w : World) (hx : LL w w.heap.size A xs) (hn : xs.length = n) (hc : n ≤ c) (hm : c ≤ 9223372036854775807)
    (hy : LL w w.heap.size B ys) (hn' : ys.length = m) (hd : m ≤ d) (hm' : d ≤ 9223372036854775807) :
    Calls Try.prog 11 #[.slice A n c, .slice B m d] w fun e w' => e = .returned (.bool (decide (xs = ys))) ∧ Drew w w' := by
  have Hn := hide hn
  have Hm := hide hn'
  have HX := hide hx
  have HY := hide hy
  clear hx hy
  by_cases hnm : n = m
  · subst hnm
    clear hn hn'
    have hne : ((n : Int) != n) = false := by simp
    go_enter Try.func11, Try.ntmps11
    go_wp2
    go_loopw [13] (fun i wr => ∃ k : Nat, k ≤ n ∧ i = .int .i64 k ∧ Hid (xs.take k = ys.take k) ∧ Hid (Drew w wr)) (fun i _ => n - (intOf i).toNat)
    case atStart => exact ⟨0, by omega, rfl, hide (by simp), hide (Drew.refl _)⟩
    case round =>
      obtain ⟨k, hk, rfl, ht, hD⟩ := hrel
      by_cases hlt : k < n
      · obtain ⟨ad, x, A1, c1, rfl, _, hx1, a0, a1, a2, a3⟩ := (HX.out.drew_to hD.out).slc (k := k) (by have := Hn.out; omega)
        obtain ⟨ad2, y, A2, c2, rfl, _, hy1, b0, b1, b2, b3⟩ := (HY.out.drew_to hD.out).slc (k := k) (by have := Hm.out; omega)
        have h0 : (0 : Int) ≤ k := by omega
        have h1 : (k : Int) < n := by omega
        have HC := hide (fun j => refSame_any A1 A2 x.length c1 y.length c2 x y (wr.drewN j) (a3.drewN j) rfl a1 a2 (b3.drewN j) rfl b1 b2)
        have HX1 := hide hx1
        have HY1 := hide hy1
        clear hx1 hy1 a3 b3
        cases hxy : decide (x = y)
        · have HF := hide (lat_false HX1.out HY1.out hxy)
          simp only [hxy] at HC
          clear hxy
          go_upto_region 6 with fail
          go_quiet ((go_at_call 25; exact quiet_drew (HC.out _)))
          go_wp2
          go_ret
          exact ⟨by rw [HF.out]; rfl, hD.out.trans (by first | exact drewN_some _ _ | exact drewN_drewN' _ _ _)⟩
        · have HT := hide (ltake_more ht.out HX1.out HY1.out hxy)
          simp only [hxy] at HC
          clear hxy
          go_upto_region 6 with fail
          go_quiet ((go_at_call 25; exact quiet_drew (HC.out _)))
          go_wp2
          go_roundw
          case rel => exact ⟨k + 1, by omega, by go_num, HT, hide (hD.out.trans (by first | exact drewN_some _ _ | exact drewN_drewN' _ _ _))⟩
          case measure => simp [intOf]; omega
      · obtain rfl : n = k := by omega
        have HF := hide (decide_eq_true (lsame_of_take ht.out (by rw [Hn.out]; omega) (by rw [Hm.out]; omega)))
        go_wp2
        go_ret
        exact ⟨by rw [HF.out]; rfl, hD.out⟩
  · have HF := hide (llens_false (xs := xs) (ys := ys) (by omega))
    have hb : ((n : Int) != m) = true := by rw [bne_iff_ne]; omega
    clear hn hn' hnm
    go_enter Try.func11, Try.ntmps11
    go_wp2
    go_ret
    exact ⟨by rw [HF.out]; rfl, Drew.refl _⟩

set_option maxHeartbeats 4000000 in
set_option maxRecDepth 100000 in
theorem refRun_any (A B : Option Addr) (n c m d : Nat) (l cs : List (List Int)) (a : Int) (w : World) (hx : LL w w.heap.size A l) (hn : l.length = n) (hc : n ≤ c) (hm : c ≤ 9223372036854775807) (hi : ∀ v ∈ l, I32 v)
    (hy : LL w w.heap.size B cs) (hn' : cs.length = m) (hyi : ∀ u ∈ cs, I32 u ∧ u.length ≤ 1000000) (hd : m ≤ d) (hm' : d ≤ 9223372036854775807) (h6 : n ≤ 1000000) (h7 : m ≤ 1000000) (hl1 : ∀ v ∈ l, v.length ≤ 1000000) (ha : a ≤ 1000000) :
    Calls Try.prog 13 #[.slice A n c, .slice B m d, .int .i64 a] w (RunGives w l cs a.toNat) := by
  have HX := hide hx
  have HY := hide hy
  have HI := hide hi
  have HYI := hide hyi
  have Hn := hide hn
  have Hm := hide hn'
  have HL1 := hide hl1
  clear hx hy hi hyi hn hn' hl1
  go_enter Try.func13, Try.ntmps13
  go_wp2
  go_loopw [8, 15] (fun v i wr => ∃ (k : Nat) (hs : List Value), k ≤ m ∧ i = .int .i64 k ∧ Hid (OutR w wr v k hs (cs.take k))) (fun _ i _ => m - (intOf i).toNat)
  case atStart => exact ⟨0, [], by omega, rfl, hide (OutR.start w)⟩
  case round =>
    obtain ⟨k, hs, hk, rfl, hO⟩ := hrel
    by_cases hlt : k < m
    · have hB := hide hO.out.hb
      obtain ⟨ad', u, A', c', rfl, _, hu, q0, q1, q2, q3⟩ := (HY.out.below hB.out (Nat.le_refl _)).slc (k := k) (by have := Hm.out; omega)
      have hul := (HYI.out u (List.mem_of_getElem? hu)).2
      have HU5 := hide (show I32s wr wr.heap.size A' u from q3.more hB.out.size)
      have HT := hide (show cs.take (k + 1) = cs.take k ++ [u] by rw [List.take_add_one, hu]; rfl)
      have g0 : (0 : Int) ≤ k := by omega
      have g1 : (k : Int) < m := by omega
      have ho := hide (World.ownsRow_lit (base := wr.heap.size) (e := 21) (size := 1) wr #[] 0 (Nat.le_refl _) (by simp [maxLen]) rfl)
      clear hu q3
      go_wp2_with (first
          | (at_builtin; refine wpList_append_ints rfl (.tmp 20) (.tmp 21) 27 rfl wr.heap.size Try.underlying27 info_i32 rfl _ 0 [] rfl ho.out wr.heap.size _ u.length c' u rfl (HU5.out.alloc (Nat.le_refl _) _) rfl (by simp only [maxLen]; omega) (by omega) (by simp) ?_; intro v' w8 hown8 hgr8 hat8; simp only [Nat.zero_add, List.nil_append] at hown8; obtain ⟨A8, c8, rfl, o1, o2⟩ := own_form hown8; have B8 := hide (below_own ((Below.refl wr.heap.size wr).alloc (Nat.le_refl _) _) ho.out (by simp) hgr8); have O8 := hide (hO.out.below B8.out); have R8 := hide (hO.out.fresh B8.out (intR_own hown8)); clear hown8 hgr8 hat8)
          | (at_builtin; refine wpList_append_elem rfl (.tmp 19) (.tmp 23) 22 rfl w.heap.size Try.underlying22 info_sl rfl (by decide) _ k hs rfl O8.out.own _ _ rfl rfl (by simp [Value.oneCell']) (by simp only [maxLen]; omega) (by omega) O8.out.hb.size ?_; intro v' w9 hown9 hgr9 hat9; have O9 := hide (O8.out.push rfl o1 o2 R8.out hown9 hgr9 hat9); clear hown9 hgr9 hat9))
      go_roundw
      case rel => exact ⟨k + 1, _, by omega, by go_num, hide (by have := O9.out; rw [HT.out]; exact this)⟩
      case measure => simp [intOf]; omega
    · obtain rfl : m = k := by omega
      have hf := hO.out.gives
      rw [← Hm.out, List.take_length] at hf
      obtain ⟨A0, c0, ev, hA0⟩ := At.new (m := m) (Below.refl w.heap.size w) hf Hm.out
      have HA0 := hide hA0
      have O0 := hide hO.out.hb
      subst ev
      clear hf hA0 hO
      go_wp2
      go_loopw [8, 11] (fun v i wr => ∃ (k : Nat) (A : Option Addr) (c : Nat), (k : Int) ≤ max a 0 ∧ i = .int .i64 k ∧ v = .slice A m c ∧ Hid (NoneYet l cs k) ∧ Hid (At w wr A m c (iterC l cs k))) (fun _ i _ => a.toNat - (intOf i).toNat)
      case atStart => exact ⟨0, _, _, by omega, rfl, rfl, hide (fun i hi => by omega), HA0.out⟩
      case round =>
        obtain ⟨k, A9, c9, hk, rfl, rfl, hN, hA⟩ := hrel
        by_cases hlt2 : (k : Int) < a
        · have HXW := hide (HX.out.at_world hA.out.2.2.2.2)
          have OK9 := hide (iterC_ok HI.out HL1.out HYI.out k)
          have HST := hide (refStep_any A A9 n c m c9 l (iterC l cs k) wr HXW.out Hn.out hc hm HI.out hA.out.rd hA.out.1 OK9.out hA.out.2.1 hA.out.2.2.1 h6 h7 HL1.out)
          go_wp2_with (go_at_call 17; refine HST.out.mono ?_; rintro e w4 ⟨v4, rfl, hN4⟩; obtain ⟨A4, c4, rfl, hA4⟩ := At.new (m := m) hA.out.2.2.2.2 hN4 (by rw [stepC_len]; exact hA.out.1); have B4 := hide hN4.below; have H4 := hide hA4; clear hN4 hA4)
          have AT4 := hide (hA.out.below B4.out)
          have HEQ := hide (refSameL_any A4 A9 m c4 m c9 (stepOfC l (iterC l cs k)) (iterC l cs k) w4 H4.out.rd H4.out.1 H4.out.2.1 H4.out.2.2.1 AT4.out.rd AT4.out.1 AT4.out.2.1 AT4.out.2.2.1)
          cases heq : decide (stepOfC l (iterC l cs k) = iterC l cs k)
          · rw [heq] at HEQ
            have HNE := hide (of_decide_eq_false heq)
            clear heq
            go_wp2_with (go_at_call 11; refine HEQ.out.mono ?_; rintro e _ ⟨rfl, j5, rfl⟩)
            go_roundw
            case rel => exact ⟨k + 1, A4, c4, by omega, by go_num, rfl, hide (fun i hi => by
              rcases Nat.lt_or_ge i k with h | h
              · exact hN.out i h
              · obtain rfl : i = k := by omega
                exact HNE.out), hide (H4.out.below (below_drewN (Below.refl _ _) _))⟩
            case measure => simp [intOf]; omega
          · rw [heq] at HEQ
            have HR := hide (show RunGives w l cs a.toNat (.returned (.tuple #[.slice A9 m c9, .int .i64 k])) w4 from ⟨_, k, rfl, ⟨by omega, hN.out, fun _ => of_decide_eq_true heq⟩, AT4.out.gives⟩)
            clear heq
            go_wp2_with (go_at_call 11; refine HEQ.out.mono ?_; rintro e _ ⟨rfl, j5, rfl⟩)
            go_ret2
            exact runGives_drewN HR.out _
        · have hka : k = a.toNat := by omega
          have HR := hide (show RunGives w l cs a.toNat (.returned (.tuple #[.slice A9 m c9, .int .i64 k])) wr from ⟨_, k, rfl, ⟨by omega, hN.out, fun h => by omega⟩, hA.out.gives⟩)
          clear hka
          go_wp2
          go_ret2
          exact HR.out
end Go.Proofs.Ytodlbbcgplhihag
