/-
  The law ExploreEach. Condition: the slice reads as a list of ints.
-/
import Derived.Test.YtpnekmkbedhooaaExpS
namespace Go.Proofs.Ytpnekmkbedhooaa
open Go.RowKit

set_option maxHeartbeats 4000000 in
set_option maxRecDepth 100000 in
theorem each_any (A : Option Addr) (n c N M : Nat) (xs : List Int) (w : World) (hx : I64s w w.heap.size A xs) (hn : xs.length = n) (hc : n ≤ c) (hm : c ≤ 9223372036854775807) (hN' : N < 18446744073709551616) (hM' : M < 18446744073709551616) :
    Calls Try.prog 3 #[.slice A n c, .int .u64 N, .int .u64 M] w fun e w' => e = .returned (.bool true) ∧ Below w.heap.size w w' := by
  have HK : Hid (Below w.heap.size w w ∧ Rd (Sh.int .i64) w w.heap.size A xs) := hide ⟨Below.refl _ _, hx⟩
  have Hn := hide hn
  have hcl := cnt_lt xs
  clear hx hn
  by_cases hN : N < cntOf xs
  · by_cases hM : M < cntOf xs
    · have HlN := hide hN
      have dN : decide (N < cntOf xs) = true := by simp; omega
      obtain ⟨_, h1, h2⟩ := cnt_ok hN
      obtain ⟨o, ho⟩ := nth_ex _ _ _ rfl h1
      have HO := hide ho
      have eN : decide ((N : Int) < 18446744073709551615) = true := by simp; omega
      clear ho h1 h2
      clear hN
      have HlM := hide hM
      have dM : decide (M < cntOf xs) = true := by simp; omega
      obtain ⟨_, h1, h2⟩ := cnt_ok hM
      obtain ⟨p, ho⟩ := nth_ex _ _ _ rfl h1
      have HP := hide ho
      have eM : decide ((M : Int) < 18446744073709551615) = true := by simp; omega
      clear ho h1 h2
      clear hM
      go_enter Try.func3, Try.ntmps3
      go_wp2_with fail
      refine (Stab.call (K := (fun W => Below w.heap.size w W ∧ Rd (Sh.int .i64) W W.heap.size A xs)) (stab_and (stab_below w) (stab_rd (Sh.int .i64) A xs)) HK.out (Below.refl _ w) (.bool true) (lives_any _) (rfl)).mono ?_
      rintro e w1 ⟨rfl, hK⟩
      have HK' := hide hK
      clear hK HK
      have HK := HK'
      clear HK'
      go_wp2_with fail
      refine (Stab.call (K := (fun W => Below w.heap.size w W ∧ Rd (Sh.int .i64) W W.heap.size A xs)) (stab_and (stab_below w) (stab_rd (Sh.int .i64) A xs)) HK.out (Below.refl _ w1) (.int .u64 (cntOf xs : Nat)) (eCount_any A n c xs _ ((stab_rd (Sh.int .i64) A xs) w1 w1 HK.out.2 (Below.refl _ w1)) Hn.out hc hm) (rfl)).mono ?_
      rintro e w2 ⟨rfl, hK⟩
      have HK' := hide hK
      clear hK HK
      have HK := HK'
      clear HK'
      go_wp2_with fail
      refine (nth_lit (xs := xs) (N := N) ((stab_rd (Sh.int .i64) A xs) w2 w2 HK.out.2 (Below.refl _ w2)) Hn.out hc hm (by first | exact hN' | exact hM') HlN.out HO.out).mono ?_
      rintro e w3 ⟨v, rfl, A1, nA1, cA1, rfl, hlA1, hnA1, hmA1, hR, hb⟩
      have HLA1 := hide hlA1
      have HR := hR.rd (B := w3.heap.size) fun b hb => hb.2
      clear hR hlA1
      have HK1 : Hid (Below w.heap.size w w3 ∧ Rd (Sh.int .i64) w3 w3.heap.size A xs ∧ Rd (Sh.int .i64) w3 w3.heap.size A1 (ni o)) := hide (⟨((stab_below w) w2 w3 HK.out.1 hb), ((stab_rd (Sh.int .i64) A xs) w2 w3 HK.out.2 hb), HR⟩)
      clear HK hb
      have HK := HK1
      clear HK1
      clear HR
      go_wp2_with fail
      refine (nth_lit (xs := xs) (N := M) ((stab_rd (Sh.int .i64) A xs) w3 w3 HK.out.2.1 (Below.refl _ w3)) Hn.out hc hm (by first | exact hN' | exact hM') HlM.out HP.out).mono ?_
      rintro e w4 ⟨v, rfl, A2, nA2, cA2, rfl, hlA2, hnA2, hmA2, hR, hb⟩
      have HLA2 := hide hlA2
      have HR := hR.rd (B := w4.heap.size) fun b hb => hb.2
      clear hR hlA2
      have HK1 : Hid (Below w.heap.size w w4 ∧ Rd (Sh.int .i64) w4 w4.heap.size A xs ∧ Rd (Sh.int .i64) w4 w4.heap.size A1 (ni o) ∧ Rd (Sh.int .i64) w4 w4.heap.size A2 (ni p)) := hide (⟨((stab_below w) w3 w4 HK.out.1 hb), ((stab_rd (Sh.int .i64) A xs) w3 w4 HK.out.2.1 hb), ((stab_rd (Sh.int .i64) A1 (ni o)) w3 w4 HK.out.2.2 hb), HR⟩)
      clear HK hb
      have HK := HK1
      clear HK1
      clear HR
      go_upto_region 10 with fail
      have hok := (cnt_ok HlN.out).1
      have h16 : n ≤ 16 := by have := hok.1; have := Hn.out; omega
      have hmk := run_make_rep (P := Try.prog) Try.underlying22 info_ei rfl .i64 .i64 n n (Nat.le_refl _) (by omega) (by omega) w4
      have HKo := HK
      have HSum := hide hok.2.2
      have HoL := hide (nth_len HO.out)
      have HpL := hide (nth_len HP.out)
      have HB0 := hide (show Blk (w4.alloc (.cells (rep n (.int .i64 0)) 3)) w4.heap.size 3 (ics .i64 (cntF o 0) n) by rw [cntF_zero]; exact Blk.new _ _ _)
      have HL0 := hide (below1 w4 (.cells (rep n (.int .i64 0)) 3))
      clear HK hok
      go_upto_region 12 with fail
      clear hmk
      generalize w4.alloc (.cells (rep n (.int .i64 0)) 3) = wt at *
      go_loopw [14, 67] (fun _ i wr => ∃ k : Nat, k ≤ nA1 ∧ i = .int .i64 k ∧ Hid (Blk wr w4.heap.size 3 (ics .i64 (cntF o k) n)) ∧ Hid (Below w4.heap.size w4 wr)) (fun _ i _ => nA1 - (intOf i).toNat)
      case atStart => exact ⟨0, by omega, rfl, HB0, HL0⟩
      case round =>
        obtain ⟨k, hk, rfl, hB, hL⟩ := hrel
        clear HB0 HL0
        by_cases hlt : k < nA1
        · obtain ⟨ad, x, rfl, _, hv, q0⟩ := ((show Rd (Sh.int .i64) w4 w4.heap.size A1 (ni o) from HKo.out.2.2.1).below hL.out (Nat.le_refl _)).icell (k := k) (by have := HLA1.out; omega)
          obtain ⟨hko, rfl⟩ := ni_at hv
          clear hv
          have hxo : o[k]? = some (o.getD k 0) := by rw [List.getD_eq_getElem?_getD, List.getElem?_eq_getElem hko]; rfl
          have hxn : o.getD k 0 < n := by
            have := (nth_cnt HO.out).2 _ (List.mem_of_getElem? hxo)
            rw [tn_len, Hn.out] at this; exact this
          have HST := hide (cntF_set hxo n)
          have hcb := cntF_le o k (o.getD k 0)
          have hk64 : k ≤ 64 := by have := HoL.out; have := HSum.out; omega
          generalize o.getD k 0 = x at *
          have g0 : (0 : Int) ≤ k := by omega
          have g1 : (k : Int) < nA1 := by omega
          have g2 : (0 : Int) ≤ x := by omega
          have g3 : (x : Int) < n := by omega
          have d1 : decide ((x : Int) < 0) = false := by simp
          have d2 : decide (n ≤ x) = false := by simp; omega
          have f0 := hB.out.frozen x
          have q1 : wr.cell? ⟨w4.heap.size, x, none⟩ = some (.int .i64 (cntF o k x)) := by rw [hB.out.cell, ics_get _ _ _ _ hxn]
          have hw1 : IntKind.i64.wrap (cntF o k x + 1) = cntF o k x + 1 := by rw [IntKind.wrap_i64]; omega
          have hw2 : wrap64 (cntF o k x + 1) = cntF o k x + 1 := by rw [wrap64_i64]; exact hw1
          have HB1 := hide (hB.out.set_ x (.int .i64 (cntF o k x + 1)))
          rw [HST.out] at HB1
          have HL1 := hide (hL.out.setCell (p := ⟨w4.heap.size, x, none⟩) (Nat.le_refl _) (.int .i64 (cntF o k x + 1)))
          generalize cntF o k x = y at *
          clear hko hxo hcb
          go_wp2
          go_roundw
          case rel => exact ⟨k + 1, by omega, by go_num, HB1, HL1⟩
          case measure => simp [intOf]; omega
        · obtain rfl : k = nA1 := by omega
          have HCn := hide (show ∀ i, i < n → cntF o k i = ((tn xs).getD i 0 : Nat) from fun i _ => by
            unfold cntF
            rw [List.take_of_length_le (by have := HLA1.out; rw [ni_len] at this; omega), (nth_cnt HO.out).1])
          go_wp2
          go_loopw [15, 16, 88] (fun _ _ i w2 => ∃ b : Nat, b ≤ n ∧ i = .int .i64 b ∧ w2 = wr) (fun _ _ i _ => n - (intOf i).toNat)
          case atStart => exact ⟨0, by omega, rfl, rfl⟩
          case round =>
            obtain ⟨b, hb, rfl, rfl⟩ := hrel
            by_cases hlt2 : b < n
            · obtain ⟨ad, x, rfl, _, hv, q0⟩ := ((show Rd (Sh.int .i64) w4 w4.heap.size A xs from HKo.out.2.1).below hL.out (Nat.le_refl _)).icell (k := b) (by have := Hn.out; omega)
              have q1 : wr.cell? ⟨w4.heap.size, b, none⟩ = some (.int .i64 (x.toNat : Nat)) := by rw [hB.out.cell, ics_get _ _ _ _ hlt2, HCn.out b hlt2, tn_at hv]
              clear hv
              have g0 : (0 : Int) ≤ b := by omega
              have g1 : (b : Int) < n := by omega
              by_cases hx0 : x < 0
              · rw [show ((x.toNat : Nat) : Int) = 0 by omega] at q1
                go_wp2
                go_roundw
                case rel => exact ⟨b + 1, by omega, by go_num, by first | rfl | trivial⟩
                case measure => simp [intOf]; omega
              · rw [show ((x.toNat : Nat) : Int) = x by omega] at q1
                have hxx : (x != x) = false := by simp
                go_wp2
                go_roundw
                case rel => exact ⟨b + 1, by omega, by go_num, by first | rfl | trivial⟩
                case measure => simp [intOf]; omega
            · obtain rfl : b = n := by omega
              have HK : Hid (Below w.heap.size w wr ∧ Rd (Sh.int .i64) wr wr.heap.size A xs ∧ Rd (Sh.int .i64) wr wr.heap.size A1 (ni o) ∧ Rd (Sh.int .i64) wr wr.heap.size A2 (ni p)) := hide ((stab_and (stab_below w) (stab_and (stab_rd (Sh.int .i64) A xs) (stab_and (stab_rd (Sh.int .i64) A1 (ni o)) (stab_rd (Sh.int .i64) A2 (ni p))))) w4 wr HKo.out hL.out)
              clear HCn hB
              go_wp2_with fail
              refine (Stab.call (K := (fun W => Below w.heap.size w W ∧ Rd (Sh.int .i64) W W.heap.size A xs ∧ Rd (Sh.int .i64) W W.heap.size A1 (ni o) ∧ Rd (Sh.int .i64) W W.heap.size A2 (ni p))) (stab_and (stab_below w) (stab_and (stab_rd (Sh.int .i64) A xs) (stab_and (stab_rd (Sh.int .i64) A1 (ni o)) (stab_rd (Sh.int .i64) A2 (ni p))))) HK.out (Below.refl _ wr) (.tuple #[.int .u64 (N : Nat), .bool true]) (place_lit (xs := xs) (os := ni o) ((stab_rd (Sh.int .i64) A xs) wr wr HK.out.2.1 (Below.refl _ wr)) Hn.out hc hm ((stab_rd (Sh.int .i64) A1 (ni o)) wr wr HK.out.2.2.1 (Below.refl _ wr)) HLA1.out hnA1 hmA1 (nth_pla HO.out HlN.out)) (rfl)).mono ?_
              rintro e w5 ⟨rfl, hK⟩
              have HK' := hide hK
              clear hK HK
              have HK := HK'
              clear HK'
              have hnl : nA2 = k := by have := HLA1.out; have := HLA2.out; have := HoL.out; have := HpL.out; simp only [ni_len] at *; omega
              subst hnl
              have hnn : ((N : Int) != N) = false := by simp
              have hkk : ((nA2 : Int) != nA2) = false := by simp
              go_upto_region 28 with fail
              go_loopw [19, 123] (fun _ i w2 => ∃ j : Nat, j ≤ nA2 ∧ i = .int .i64 j ∧ Hid (o.take j = p.take j) ∧ Drew w5 w2) (fun _ i _ => nA2 - (intOf i).toNat)
              case atStart => exact ⟨0, by omega, rfl, hide (by simp), Drew.refl _⟩
              case round =>
                obtain ⟨j, hj, rfl, hT, z, rfl⟩ := hrel
                have HBw := hide (show Below w.heap.size w w5 from HK.out.1)
                by_cases hlt3 : j < nA2
                · obtain ⟨ad, x, rfl, _, hvx, c1⟩ := (show Rd (Sh.int .i64) w5 w5.heap.size A1 (ni o) from HK.out.2.2.1).icell (k := j) (by have := HLA1.out; omega)
                  obtain ⟨ad2, y, rfl, _, hvy, c2⟩ := (show Rd (Sh.int .i64) w5 w5.heap.size A2 (ni p) from HK.out.2.2.2).icell (k := j) (by have := HLA2.out; omega)
                  obtain ⟨hx1, hx2⟩ := ni_at hvx
                  obtain ⟨hy1, hy2⟩ := ni_at hvy
                  have hxo : o[j]? = some (o.getD j 0) := by rw [List.getD_eq_getElem?_getD, List.getElem?_eq_getElem hx1]; rfl
                  have hyo : p[j]? = some (p.getD j 0) := by rw [List.getD_eq_getElem?_getD, List.getElem?_eq_getElem hy1]; rfl
                  have g0 : (0 : Int) ≤ j := by omega
                  have g1 : (j : Int) < nA2 := by omega
                  by_cases e : x = y
                  · have HT := hide (show o.take (j + 1) = p.take (j + 1) by
                      rw [List.take_add_one, List.take_add_one, hT.out, hxo, hyo, show o.getD j 0 = p.getD j 0 by omega])
                    subst e
                    have hb : (x != x) = false := by simp
                    clear hvx hvy hx2 hy2 hxo hyo hx1 hy1
                    go_upto_region 30 with fail
                    go_quiet (fail)
                    go_wp2
                    go_roundw
                    case rel => exact ⟨j + 1, by omega, by go_num, HT, by first | exact ⟨_, rfl⟩ | exact drewN_drewN' _ _ _⟩
                    case measure => simp [intOf]; omega
                  · have hb : (x != y) = true := by simp [e]
                    by_cases hxy : x < y
                    · have hNM := nth_rise HO.out HP.out j _ _ hT.out hxo hyo (by omega)
                      have hd1 : decide (x < y) = true := by simpa using hxy
                      have hd2 : decide (N < M) = true := by simpa using hNM
                      clear hvx hvy hx2 hy2 hxo hyo hx1 hy1 hxy hNM
                      go_upto_region 30 with fail
                      go_quiet (fail)
                      go_upto_region 31 with fail
                      go_quiet (fail)
                      go_wp2
                      go_ret
                      exact ⟨rfl, by first | exact below_drewN HBw.out _ | exact below_drewN (below_drewN HBw.out _) _ | exact below_drewN (below_drewN (below_drewN HBw.out _) _) _⟩
                    · have hNM := nth_rise HP.out HO.out j _ _ hT.out.symm hyo hxo (by omega)
                      have hd1 : decide (x < y) = false := by simpa using hxy
                      have hd2 : decide (N < M) = false := by simp; omega
                      clear hvx hvy hx2 hy2 hxo hyo hx1 hy1 hxy hNM
                      go_upto_region 30 with fail
                      go_quiet (fail)
                      go_upto_region 31 with fail
                      go_quiet (fail)
                      go_wp2
                      go_ret
                      exact ⟨rfl, by first | exact below_drewN HBw.out _ | exact below_drewN (below_drewN HBw.out _) _ | exact below_drewN (below_drewN (below_drewN HBw.out _) _) _⟩
                · obtain rfl : j = nA2 := by omega
                  have hop : o = p := by
                    have h := hT.out
                    rwa [List.take_of_length_le (by have := HLA1.out; rw [ni_len] at this; omega), List.take_of_length_le (by have := HLA2.out; rw [ni_len] at this; omega)] at h
                  have hNM : N = M := nth_same HO.out (by rw [hop]; exact HP.out)
                  have hq : ((N : Int) == M) = true := by rw [hNM]; simp
                  clear hop hNM
                  go_wp2
                  go_ret
                  exact ⟨rfl, below_drewN HBw.out _⟩
    · have HlN := hide hN
      have dN : decide (N < cntOf xs) = true := by simp; omega
      obtain ⟨_, h1, h2⟩ := cnt_ok hN
      obtain ⟨o, ho⟩ := nth_ex _ _ _ rfl h1
      have HO := hide ho
      have eN : decide ((N : Int) < 18446744073709551615) = true := by simp; omega
      clear ho h1 h2
      clear hN
      have HlM := hide hM
      have dM : decide (M < cntOf xs) = false := by simp; omega
      clear hM
      go_enter Try.func3, Try.ntmps3
      go_wp2_with fail
      refine (Stab.call (K := (fun W => Below w.heap.size w W ∧ Rd (Sh.int .i64) W W.heap.size A xs)) (stab_and (stab_below w) (stab_rd (Sh.int .i64) A xs)) HK.out (Below.refl _ w) (.bool true) (lives_any _) (rfl)).mono ?_
      rintro e w1 ⟨rfl, hK⟩
      have HK' := hide hK
      clear hK HK
      have HK := HK'
      clear HK'
      go_wp2_with fail
      refine (Stab.call (K := (fun W => Below w.heap.size w W ∧ Rd (Sh.int .i64) W W.heap.size A xs)) (stab_and (stab_below w) (stab_rd (Sh.int .i64) A xs)) HK.out (Below.refl _ w1) (.int .u64 (cntOf xs : Nat)) (eCount_any A n c xs _ ((stab_rd (Sh.int .i64) A xs) w1 w1 HK.out.2 (Below.refl _ w1)) Hn.out hc hm) (rfl)).mono ?_
      rintro e w2 ⟨rfl, hK⟩
      have HK' := hide hK
      clear hK HK
      have HK := HK'
      clear HK'
      go_wp2_with fail
      refine (nth_lit (xs := xs) (N := N) ((stab_rd (Sh.int .i64) A xs) w2 w2 HK.out.2 (Below.refl _ w2)) Hn.out hc hm (by first | exact hN' | exact hM') HlN.out HO.out).mono ?_
      rintro e w3 ⟨v, rfl, A1, nA1, cA1, rfl, hlA1, hnA1, hmA1, hR, hb⟩
      have HLA1 := hide hlA1
      have HR := hR.rd (B := w3.heap.size) fun b hb => hb.2
      clear hR hlA1
      have HK1 : Hid (Below w.heap.size w w3 ∧ Rd (Sh.int .i64) w3 w3.heap.size A xs ∧ Rd (Sh.int .i64) w3 w3.heap.size A1 (ni o)) := hide (⟨((stab_below w) w2 w3 HK.out.1 hb), ((stab_rd (Sh.int .i64) A xs) w2 w3 HK.out.2 hb), HR⟩)
      clear HK hb
      have HK := HK1
      clear HK1
      clear HR
      go_wp2_with fail
      go_wp2_with fail
      refine (Stab.call (K := (fun W => Below w.heap.size w W ∧ Rd (Sh.int .i64) W W.heap.size A xs ∧ Rd (Sh.int .i64) W W.heap.size A1 (ni o))) (stab_and (stab_below w) (stab_and (stab_rd (Sh.int .i64) A xs) (stab_rd (Sh.int .i64) A1 (ni o)))) HK.out (Below.refl _ w3) (.tuple #[.slice none 0 0, .bool false]) (nth_lit_no (xs := xs) (N := M) ((stab_rd (Sh.int .i64) A xs) w3 w3 HK.out.2.1 (Below.refl _ w3)) Hn.out hc hm (by first | exact hN' | exact hM') HlM.out) (rfl)).mono ?_
      rintro e w4 ⟨rfl, hK⟩
      have HK' := hide hK
      clear hK HK
      have HK := HK'
      clear HK'
      go_wp2_with fail
      go_ret
      exact ⟨rfl, HK.out.1⟩
  · by_cases hM : M < cntOf xs
    · have HlN := hide hN
      have dN : decide (N < cntOf xs) = false := by simp; omega
      clear hN
      have HlM := hide hM
      have dM : decide (M < cntOf xs) = true := by simp; omega
      obtain ⟨_, h1, h2⟩ := cnt_ok hM
      obtain ⟨p, ho⟩ := nth_ex _ _ _ rfl h1
      have HP := hide ho
      have eM : decide ((M : Int) < 18446744073709551615) = true := by simp; omega
      clear ho h1 h2
      clear hM
      go_enter Try.func3, Try.ntmps3
      go_wp2_with fail
      refine (Stab.call (K := (fun W => Below w.heap.size w W ∧ Rd (Sh.int .i64) W W.heap.size A xs)) (stab_and (stab_below w) (stab_rd (Sh.int .i64) A xs)) HK.out (Below.refl _ w) (.bool true) (lives_any _) (rfl)).mono ?_
      rintro e w1 ⟨rfl, hK⟩
      have HK' := hide hK
      clear hK HK
      have HK := HK'
      clear HK'
      go_wp2_with fail
      refine (Stab.call (K := (fun W => Below w.heap.size w W ∧ Rd (Sh.int .i64) W W.heap.size A xs)) (stab_and (stab_below w) (stab_rd (Sh.int .i64) A xs)) HK.out (Below.refl _ w1) (.int .u64 (cntOf xs : Nat)) (eCount_any A n c xs _ ((stab_rd (Sh.int .i64) A xs) w1 w1 HK.out.2 (Below.refl _ w1)) Hn.out hc hm) (rfl)).mono ?_
      rintro e w2 ⟨rfl, hK⟩
      have HK' := hide hK
      clear hK HK
      have HK := HK'
      clear HK'
      go_wp2_with fail
      go_wp2_with fail
      refine (Stab.call (K := (fun W => Below w.heap.size w W ∧ Rd (Sh.int .i64) W W.heap.size A xs)) (stab_and (stab_below w) (stab_rd (Sh.int .i64) A xs)) HK.out (Below.refl _ w2) (.tuple #[.slice none 0 0, .bool false]) (nth_lit_no (xs := xs) (N := N) ((stab_rd (Sh.int .i64) A xs) w2 w2 HK.out.2 (Below.refl _ w2)) Hn.out hc hm (by first | exact hN' | exact hM') HlN.out) (rfl)).mono ?_
      rintro e w3 ⟨rfl, hK⟩
      have HK' := hide hK
      clear hK HK
      have HK := HK'
      clear HK'
      go_wp2_with fail
      refine (nth_lit (xs := xs) (N := M) ((stab_rd (Sh.int .i64) A xs) w3 w3 HK.out.2 (Below.refl _ w3)) Hn.out hc hm (by first | exact hN' | exact hM') HlM.out HP.out).mono ?_
      rintro e w4 ⟨v, rfl, A2, nA2, cA2, rfl, hlA2, hnA2, hmA2, hR, hb⟩
      have HLA2 := hide hlA2
      have HR := hR.rd (B := w4.heap.size) fun b hb => hb.2
      clear hR hlA2
      have HK1 : Hid (Below w.heap.size w w4 ∧ Rd (Sh.int .i64) w4 w4.heap.size A xs ∧ Rd (Sh.int .i64) w4 w4.heap.size A2 (ni p)) := hide (⟨((stab_below w) w3 w4 HK.out.1 hb), ((stab_rd (Sh.int .i64) A xs) w3 w4 HK.out.2 hb), HR⟩)
      clear HK hb
      have HK := HK1
      clear HK1
      clear HR
      go_wp2_with fail
      go_ret
      exact ⟨rfl, HK.out.1⟩
    · have HlN := hide hN
      have dN : decide (N < cntOf xs) = false := by simp; omega
      clear hN
      have HlM := hide hM
      have dM : decide (M < cntOf xs) = false := by simp; omega
      clear hM
      go_enter Try.func3, Try.ntmps3
      go_wp2_with fail
      refine (Stab.call (K := (fun W => Below w.heap.size w W ∧ Rd (Sh.int .i64) W W.heap.size A xs)) (stab_and (stab_below w) (stab_rd (Sh.int .i64) A xs)) HK.out (Below.refl _ w) (.bool true) (lives_any _) (rfl)).mono ?_
      rintro e w1 ⟨rfl, hK⟩
      have HK' := hide hK
      clear hK HK
      have HK := HK'
      clear HK'
      go_wp2_with fail
      refine (Stab.call (K := (fun W => Below w.heap.size w W ∧ Rd (Sh.int .i64) W W.heap.size A xs)) (stab_and (stab_below w) (stab_rd (Sh.int .i64) A xs)) HK.out (Below.refl _ w1) (.int .u64 (cntOf xs : Nat)) (eCount_any A n c xs _ ((stab_rd (Sh.int .i64) A xs) w1 w1 HK.out.2 (Below.refl _ w1)) Hn.out hc hm) (rfl)).mono ?_
      rintro e w2 ⟨rfl, hK⟩
      have HK' := hide hK
      clear hK HK
      have HK := HK'
      clear HK'
      go_wp2_with fail
      go_wp2_with fail
      refine (Stab.call (K := (fun W => Below w.heap.size w W ∧ Rd (Sh.int .i64) W W.heap.size A xs)) (stab_and (stab_below w) (stab_rd (Sh.int .i64) A xs)) HK.out (Below.refl _ w2) (.tuple #[.slice none 0 0, .bool false]) (nth_lit_no (xs := xs) (N := N) ((stab_rd (Sh.int .i64) A xs) w2 w2 HK.out.2 (Below.refl _ w2)) Hn.out hc hm (by first | exact hN' | exact hM') HlN.out) (rfl)).mono ?_
      rintro e w3 ⟨rfl, hK⟩
      have HK' := hide hK
      clear hK HK
      have HK := HK'
      clear HK'
      go_wp2_with fail
      go_wp2_with fail
      refine (Stab.call (K := (fun W => Below w.heap.size w W ∧ Rd (Sh.int .i64) W W.heap.size A xs)) (stab_and (stab_below w) (stab_rd (Sh.int .i64) A xs)) HK.out (Below.refl _ w3) (.tuple #[.slice none 0 0, .bool false]) (nth_lit_no (xs := xs) (N := M) ((stab_rd (Sh.int .i64) A xs) w3 w3 HK.out.2 (Below.refl _ w3)) Hn.out hc hm (by first | exact hN' | exact hM') HlM.out) (rfl)).mono ?_
      rintro e w4 ⟨rfl, hK⟩
      have HK' := hide hK
      clear hK HK
      have HK := HK'
      clear HK'
      go_wp2_with fail
      go_ret
      exact ⟨rfl, HK.out.1⟩
end Go.Proofs.Ytpnekmkbedhooaa
