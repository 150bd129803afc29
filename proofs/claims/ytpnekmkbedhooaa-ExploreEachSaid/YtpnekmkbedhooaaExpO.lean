/-
  The package explore: Place. Conditions: the slices read as lists of ints.
-/
import Derived.Test.YtpnekmkbedhooaaExpN
import Derived.Test.YtpnekmkbedhooaaExpF
namespace Go.Proofs.Ytpnekmkbedhooaa
open Go.RowKit

set_option maxHeartbeats 4000000 in
theorem ePlace_any (A O : Option Addr) (n c q d : Nat) (xs os : List Int) (w : World) (hx : I64s w w.heap.size A xs) (hn : xs.length = n) (hc : n ≤ c) (hm : c ≤ 9223372036854775807)
    (hy : I64s w w.heap.size O os) (hq : os.length = q) (hd : q ≤ d) (hm' : d ≤ 9223372036854775807) :
    Calls Try.prog 8 #[.slice A n c, .slice O q d] w (PlaceGives w xs os) := by
  have hz := z17
  have C1 := hide (eof_any A n c xs w hx hn hc hm)
  have HY := hide hy
  have Hq := hide hq
  clear hx hy hq
  by_cases hok : okT xs
  · have D1 := hide (of_ok hok C1.out)
    have Hok := hide hok
    have HTL := hide (tn_len xs)
    have HLn := hide (show (tn xs).length ≤ 16 by rw [tn_len]; exact hok.1)
    clear C1 hok
    obtain ⟨T, hTT⟩ : ∃ T : Int, T = (((tn xs).sum : Nat) : Int) := ⟨_, rfl⟩
    have HTF := hide (show leftF (tn xs) 16 = T by rw [hTT]; rfl)
    by_cases hlt : q = (tn xs).sum
    · have hq1 : ((q : Int) == T) = true := by rw [hTT, hlt]; simp
      have hq2 : ((q : Int) != T) = false := by rw [hTT, hlt]; simp
      have HPL := hide (show plaOf xs os = (plc (tn xs) os).filter (· < 18446744073709551615) by unfold plaOf; rw [if_pos ⟨Hok.out, by rw [Hq.out, hlt]⟩])
      have hq64 : q ≤ 64 := by have := Hok.out.2.2; omega
      have Hlt := hide hlt
      clear hlt hTT
      go_enter Try.func8, Try.ntmps8
      go_upto_region 7 with (first
        | (go_at_call 15; refine D1.out.mono ?_; rintro e w1 ⟨rfl, hb⟩; have HB1 := hide hb; clear hb)
        | (refine wpList_store_row rfl 45 (.tmp 6) (.tmp 16) rfl w1.heap.size rfl 45 _ _ rfl (Blk.new w1 45 _) (i17 _) (by simp [ics]) (ics_one _ _ _) ?_; have HB2 := hide (fresh_below HB1.out HB1.out.size (leftF (tn xs))); have HL2 := hide (Lf.fresh w1 (leftF (tn xs))); have HLb := hide HB1.out.size; have q16 : ((w1.alloc (.cells (ics .i64 (fun _ => 0) 17) 45)).setRow w1.heap.size (ics .i64 (leftF (tn xs)) 17)).cell? ⟨w1.heap.size, 16, none⟩ = some (.int .i64 T) := (by rw [HL2.out.cell, ics_get _ _ _ _ (by omega), HTF.out]); generalize (w1.alloc (.cells (ics .i64 (fun _ => 0) 17) 45)).setRow w1.heap.size (ics .i64 (leftF (tn xs)) 17) = w2 at *; generalize w1.heap.size = lb at *)
        | (go_at_call 17; refine (triangle_any w2).mono ?_; rintro e w3 ⟨rfl, ht, hb⟩; have HB3 := hide (Below.step HB2.out hb); have HT3 := hide ht; have HL3 := hide (HL2.out.below hb HL2.out.lt); generalize w2.heap.size = tg at *; clear ht hb))
      have HLT := hide (Blk.ne_ HL3.out HT3.out (by decide))
      clear q16
      go_loopw [9, 11, 12, 30] (fun p _ _ i wr => ∃ (k acc : Nat) (l : List Nat), k ≤ q ∧ i = .int .i64 k ∧ p = .int .u64 (hN acc : Nat) ∧ Hid (Lf wr lb (leftF l)) ∧ Hid (Tri wr tg) ∧ Hid (l.length = n) ∧ Hid (l.sum ≤ 64) ∧ Hid (plc (tn xs) os = (plc l (os.drop k)).map (acc + ·)) ∧ Hid (Below w.heap.size w wr)) (fun _ _ _ i _ => q - (intOf i).toNat)
      case atStart => exact ⟨0, 0, tn xs, by omega, rfl, rfl, HL3, HT3, hide (by rw [HTL.out, hn]), hide Hok.out.2.2, hide (by simp), HB3⟩
      case round =>
        clear HB1 D1 HB2 HL2 HB3 HT3 HL3
        obtain ⟨k, acc, l, hk, rfl, rfl, hLf, hT, hL, hS, hP, hB⟩ := hrel
        have h16 : n ≤ 16 := by have := Hok.out.1; omega
        by_cases hlt : k < q
        · obtain ⟨ado, x, rfl, _, hv, q0⟩ := (HY.out.below hB.out (Nat.le_refl _)).icell (k := k) (by have := Hq.out; omega)
          have g0 : (0 : Int) ≤ k := by omega
          have g1 : (k : Int) < q := by omega
          have HDR := hide (drop_at hv)
          clear hv
          by_cases hgood : 0 ≤ x ∧ x < n ∧ 0 < l.getD x.toNat 0
          · obtain ⟨hx0, hx1, hx2⟩ := hgood
            obtain ⟨j, rfl⟩ : ∃ j : Nat, x = j := ⟨x.toNat, by omega⟩
            have hjn : j < n := by omega
            have Hj0 := hide (show 0 < l.getD j 0 by simpa using hx2)
            have hl2 : j < l.length := by rw [hL.out]; exact hjn
            have HPN := hide (show plc (tn xs) os = (plc (dec l j) (os.drop (k + 1))).map (acc + first 0 l j + ·) by
              rw [hP.out, HDR.out, plc_next _ hl2 Hj0.out]
              cases plc (dec l j) (os.drop (k + 1)) with
              | none => rfl
              | some r => simp [Nat.add_assoc])
            have g2 : (0 : Int) ≤ j := by omega
            have g3 : (j : Int) < n := by omega
            have g3' : (j : Int) < 16 := by omega
            have hd1 : decide ((j : Int) < 0) = false := by simp
            have hd2 : decide (n ≤ j) = false := by simp; omega
            have HWo := hide (fun W b (hb : b < l.length) h0 => without_any l b W (by rw [hL.out]; exact h16) hb h0 hS.out)
            obtain ⟨yj, hyj⟩ : ∃ yj : Int, yj = ((l.getD j 0 : Nat) : Int) := ⟨_, rfl⟩
            have q1 : wr.cell? ⟨lb, j, none⟩ = some (.int .i64 yj) := by rw [hLf.out.cell, ics_get _ _ _ _ (by omega), leftF, if_pos (by omega), hyj]
            have hy0 : (yj == 0) = false := by rw [beq_eq_false_iff_ne]; have := Hj0.out; omega
            clear hx0 hx1 hx2 hyj hl2
            obtain ⟨wo, rfl⟩ : ∃ wo : World, wo = wr := ⟨_, rfl⟩
            go_wp2_with fail
            go_loopw [9, 12, 50] (fun p _ i w2 => ∃ b : Nat, b ≤ j ∧ i = .int .i64 b ∧ p = .int .u64 (hN (acc + first 0 l b) : Nat) ∧ Hid (Below wo.heap.size wo w2)) (fun _ _ i _ => j - (intOf i).toNat)
            case atStart => exact ⟨0, by omega, rfl, rfl, hide (Below.refl _ _)⟩
            case round =>
              obtain ⟨b, hb, rfl, rfl, hB2⟩ := hrel
              have HL2 := hide (hLf.out.below hB2.out hLf.out.lt)
              have HT2 := hide (hT.out.below hB2.out hT.out.lt)
              by_cases hlt2 : b < j
              · obtain ⟨y3, hy3⟩ : ∃ y3 : Int, y3 = ((l.getD b 0 : Nat) : Int) := ⟨_, rfl⟩
                have q2 : wr.cell? ⟨lb, b, none⟩ = some (.int .i64 y3) := by rw [HL2.out.cell, ics_get _ _ _ _ (by omega), leftF, if_pos (by omega), hy3]
                have g4 : (0 : Int) ≤ b := by omega
                have g5 : (b : Int) < 16 := by omega
                have g6 : (b : Int) < j := by omega
                have HFS := hide (show first 0 l (b + 1) = first 0 l b + if 0 < l.getD b 0 then multi 0 (dec l b) else 0 from rfl)
                by_cases hy : l.getD b 0 = 0
                · have hy1 : decide (0 < y3) = false := by simp; omega
                  have HFE := hide (show first 0 l (b + 1) = first 0 l b by rw [HFS.out, if_neg (by omega)]; rfl)
                  clear hy hy3 HFS
                  go_wp2_with fail
                  go_roundw
                  case rel => exact ⟨b + 1, by omega, by go_num, by rw [HFE.out], hB2⟩
                  case measure => simp [intOf]; omega
                · have hyp : 0 < l.getD b 0 := by omega
                  have Hy0 := hide hyp
                  have hy1 : decide (0 < y3) = true := by simp; omega
                  have HFE := hide (show first 0 l (b + 1) = first 0 l b + multi 0 (dec l b) by rw [HFS.out, if_pos hyp])
                  have HDS := hide (show (dec l b).sum + 1 = l.sum from dec_sum hyp)
                  have HDL := hide (show (dec l b).length = n by rw [dec_len, hL.out])
                  have HCo := hide (fun W (h : Tri W tg) => count_any tg (dec l b) W h (by rw [HDL.out]; exact h16) (by have := HDS.out; have := hS.out; omega))
                  have HA := hide (fun W => sum_any (hN (acc + first 0 l b)) (hN (multi 0 (dec l b))) W (hN_lt _) (hN_lt _))
                  rw [hN_add, Nat.add_assoc, ← HFE.out] at HA
                  clear hy HFS hyp hy3
                  generalize hN (multi 0 (dec l b)) = C at *
                  generalize hN (acc + first 0 l b) = D at *
                  generalize hE : hN (acc + first 0 l (b + 1)) = E at *
                  have HE := hide hE
                  clear hE
                  go_wp2_with (first
                    | (refine wpList_load_row rfl 45 (.tmp 6) rfl lb rfl 45 _ (0, 0) _ HL2.out Try.underlying45 rfl (i17 _) ?_)
                    | (go_at_call 18; refine (HWo.out _ b (by rw [hL.out]; omega) Hy0.out).mono ?_; rintro e w6 ⟨rfl, hb⟩; have HB6 := hide (hB2.out.trans (hb.mono hB2.out.size)); have HT6 := hide (HT2.out.below hb HT2.out.lt); clear hb)
                    | (go_at_call 16; refine (HCo.out _ HT6.out).mono ?_; rintro e w8 ⟨rfl, hb⟩; have HB8 := hide (HB6.out.trans (hb.mono HB6.out.size)); clear hb)
                    | (go_at_call 19; refine (HA.out _).mono ?_; rintro e w9 ⟨rfl, rfl⟩))
                  go_roundw
                  case rel => exact ⟨b + 1, by omega, by go_num, by rw [HE.out], HB8⟩
                  case measure => simp [intOf]; omega
              · obtain rfl : j = b := by omega
                have HDS := hide (show (dec l j).sum + 1 = l.sum from dec_sum Hj0.out)
                have HDL := hide (show (dec l j).length = n by rw [dec_len, hL.out])
                have HBx := hide (hB.out.trans (hB2.out.mono hB.out.size))
                go_wp2_with (first
                  | (refine wpList_load_row rfl 45 (.tmp 6) rfl lb rfl 45 _ (0, 0) _ HL2.out Try.underlying45 rfl (i17 _) ?_)
                  | (go_at_call 18; refine (HWo.out _ j (by rw [hL.out]; omega) Hj0.out).mono ?_; rintro e w6 ⟨rfl, hb⟩; have HB6 := hide (HBx.out.trans (hb.mono HBx.out.size)); have HT6 := hide (HT2.out.below hb HT2.out.lt); have HL6 := hide (HL2.out.below hb HL2.out.lt); clear hb)
                  | (refine wpList_store_row rfl 45 (.tmp 6) (.tmp 68) rfl lb rfl 45 _ (ics .i64 (leftF (dec l j)) 17) rfl HL6.out (i17 _) (by simp [ics]) (ics_one _ _ _) ?_; have HL10 := hide (HL6.out.setRow (ics .i64 (leftF (dec l j)) 17)); have HT10 := hide (HT6.out.setRow_far (fun e => HLT.out e.symm) (ics .i64 (leftF (dec l j)) 17)); have HB10 := hide (below_setRow HB6.out HLb.out (ics .i64 (leftF (dec l j)) 17)); generalize w6.setRow lb (ics .i64 (leftF (dec l j)) 17) = w10 at *))
                go_roundw
                case rel => exact ⟨k + 1, acc + first 0 l j, dec l j, by omega, by go_num, rfl, HL10, HT10, HDL, hide (by have := HDS.out; have := hS.out; omega), HPN, HB10⟩
                case measure => simp [intOf]; omega
          · have HF := hide (show PlaceGives w xs os (.returned (.tuple #[.int .u64 0, .bool false])) wr from ⟨.inr ⟨by
              rw [HPL.out, hP.out, HDR.out, plc_no _ (by rw [hL.out]; exact hgood)]; rfl, rfl⟩, hB.out⟩)
            by_cases hx0 : x < 0
            · clear hgood
              have hd1 : decide (x < 0) = true := by simpa using hx0
              go_wp2_with fail
              all_goals go_ret2
              all_goals exact HF.out
            · by_cases hx1 : (n : Int) ≤ x
              · clear hgood
                have hd1 : decide (x < 0) = false := by simpa using hx0
                have hd2 : decide ((n : Int) ≤ x) = true := by simpa using hx1
                go_wp2_with fail
                all_goals go_ret2
                all_goals exact HF.out
              · obtain ⟨j, rfl⟩ : ∃ j : Nat, x = j := ⟨x.toNat, by omega⟩
                have hy : l.getD j 0 = 0 := by
                  rcases Nat.eq_zero_or_pos (l.getD j 0) with h | h
                  · exact h
                  · exact (hgood ⟨by omega, by omega, by simpa using h⟩).elim
                have q1 : wr.cell? ⟨lb, j, none⟩ = some (.int .i64 0) := by rw [hLf.out.cell, ics_get _ _ _ _ (by omega), leftF, if_pos (by omega), hy]; rfl
                have g2 : (0 : Int) ≤ j := by omega
                have g3 : (j : Int) < n := by omega
                have g3' : (j : Int) < 16 := by omega
                have hd1 : decide ((j : Int) < 0) = false := by simp
                have hd2 : decide ((n : Int) ≤ j) = false := by simp; omega
                clear hgood hy hx0 hx1
                go_wp2_with fail
                all_goals go_ret2
                all_goals exact HF.out
        · obtain rfl : q = k := by omega
          have HPE := hide (show plaOf xs os = if acc < 18446744073709551615 then some acc else none by
            rw [HPL.out, hP.out, List.drop_eq_nil_of_le (by rw [Hq.out]; exact Nat.le_refl _)]
            simp only [plc, Option.map_some, Nat.add_zero, Option.filter]
            simp)
          by_cases hacc : acc < 18446744073709551615
          · have HF := hide (show PlaceGives w xs os (.returned (.tuple #[.int .u64 (hN acc : Nat), .bool true])) wr from ⟨.inl ⟨acc, by rw [HPE.out, if_pos hacc], by rw [hN_small (by omega)]⟩, hB.out⟩)
            have hne : (((hN acc : Nat) : Int) == 18446744073709551615) = false := by rw [beq_eq_false_iff_ne, hN_small (by omega)]; omega
            generalize ((hN acc : Nat) : Int) = V at *
            go_wp2_with fail
            go_ret2
            exact HF.out
          · have HF := hide (show PlaceGives w xs os (.returned (.tuple #[.int .u64 0, .bool false])) wr from ⟨.inr ⟨by rw [HPE.out, if_neg hacc], rfl⟩, hB.out⟩)
            have hne : (((hN acc : Nat) : Int) == 18446744073709551615) = true := by rw [hN_great (by omega)]; rfl
            generalize ((hN acc : Nat) : Int) = V at *
            go_wp2_with fail
            go_ret2
            exact HF.out
    · have hq1 : ((q : Int) == T) = false := by rw [hTT, beq_eq_false_iff_ne]; omega
      have hq2 : ((q : Int) != T) = true := by rw [hTT, bne_iff_ne]; omega
      have HPL := hide (show plaOf xs os = none by unfold plaOf; rw [if_neg (by rw [Hq.out]; exact fun h => hlt h.2)])
      clear hlt hTT
      go_enter Try.func8, Try.ntmps8
      go_wp2_with (first
        | (go_at_call 15; refine D1.out.mono ?_; rintro e w1 ⟨rfl, hb⟩; have HB1 := hide hb; clear hb)
        | (refine wpList_store_row rfl 45 (.tmp 6) (.tmp 16) rfl w1.heap.size rfl 45 _ _ rfl (Blk.new w1 45 _) (i17 _) (by simp [ics]) (ics_one _ _ _) ?_; have HB2 := hide (fresh_below HB1.out HB1.out.size (leftF (tn xs))); have HL2 := hide (Lf.fresh w1 (leftF (tn xs))); have HLb := hide HB1.out.size; have q16 : ((w1.alloc (.cells (ics .i64 (fun _ => 0) 17) 45)).setRow w1.heap.size (ics .i64 (leftF (tn xs)) 17)).cell? ⟨w1.heap.size, 16, none⟩ = some (.int .i64 T) := (by rw [HL2.out.cell, ics_get _ _ _ _ (by omega), HTF.out]); generalize (w1.alloc (.cells (ics .i64 (fun _ => 0) 17) 45)).setRow w1.heap.size (ics .i64 (leftF (tn xs)) 17) = w2 at *; generalize w1.heap.size = lb at *))
      go_ret2
      exact ⟨.inr ⟨HPL.out, rfl⟩, HB2.out⟩
  · have D1 := hide (of_no hok C1.out)
    have HPL := hide (show plaOf xs os = none by unfold plaOf; rw [if_neg fun h => hok h.1])
    clear C1 hok
    go_enter Try.func8, Try.ntmps8
    go_wp2_with (first
      | (go_at_call 15; refine D1.out.mono ?_; rintro e w1 ⟨⟨f, rfl⟩, hb⟩; have HB1 := hide hb; clear hb)
      | (refine wpList_store_row rfl 45 (.tmp 6) (.tmp 16) rfl w1.heap.size rfl 45 _ _ rfl (Blk.new w1 45 _) (i17 _) (by simp [ics]) (ics_one _ _ _) ?_; have HB2 := hide (fresh_below HB1.out HB1.out.size f); generalize (w1.alloc (.cells (ics .i64 (fun _ => 0) 17) 45)).setRow w1.heap.size (ics .i64 f 17) = w2 at *))
    go_ret2
    exact ⟨.inr ⟨HPL.out, rfl⟩, HB2.out⟩
end Go.Proofs.Ytpnekmkbedhooaa
