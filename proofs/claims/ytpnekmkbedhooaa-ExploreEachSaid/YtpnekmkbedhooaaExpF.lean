/-
  The package explore: the document's functions: the place of an order. Conditions: the slices read as lists of ints.
-/
import Derived.Test.YtpnekmkbedhooaaExpE
namespace Go.Proofs.Ytpnekmkbedhooaa
open Go.RowKit

/-- the place of an order, if each pick of it is left -/
def plc : List Nat → List Int → Option Nat
  | _, [] => some 0
  | l, x :: o => if 0 ≤ x ∧ x < l.length ∧ 0 < l.getD x.toNat 0 then (plc (dec l x.toNat) o).map (first 0 l x.toNat + ·) else none
theorem plc_no {l : List Nat} {x : Int} (o : List Int) (h : ¬ (0 ≤ x ∧ x < l.length ∧ 0 < l.getD x.toNat 0)) : plc l (x :: o) = none := by rw [plc, if_neg h]
theorem plc_next {l : List Nat} {k : Nat} (o : List Int) (h : k < l.length) (h0 : 0 < l.getD k 0) : plc l ((k : Int) :: o) = (plc (dec l k) o).map (first 0 l k + ·) := by
  rw [plc, if_pos ⟨by omega, by omega, by simpa using h0⟩]; simp
theorem drop_at {α : Type} {l : List α} {k : Nat} {x : α} (h : l[k]? = some x) : l.drop k = x :: l.drop (k + 1) := by
  obtain ⟨hk, rfl⟩ := List.getElem?_eq_some_iff.1 h
  exact List.drop_eq_getElem_cons hk
open Classical in
/-- what 'Place' tells -/
noncomputable def plaOf (xs order : List Int) : Option Nat := if okT xs ∧ order.length = (tn xs).sum then (plc (tn xs) order).filter (· < 18446744073709551615) else none
def PlaceGives (w : World) (xs order : List Int) (e : Ending) (w' : World) : Prop :=
  ((∃ p, plaOf xs order = some p ∧ e = .returned (.tuple #[.int .u64 (p : Nat), .bool true])) ∨ (plaOf xs order = none ∧ e = .returned (.tuple #[.int .u64 0, .bool false]))) ∧ Below w.heap.size w w'

set_option maxHeartbeats 4000000 in
theorem refEPlace_any (A O : Option Addr) (n c q d : Nat) (xs os : List Int) (w : World) (hx : I64s w w.heap.size A xs) (hn : xs.length = n) (hc : n ≤ c) (hm : c ≤ 9223372036854775807)
    (hy : I64s w w.heap.size O os) (hq : os.length = q) (hd : q ≤ d) (hm' : d ≤ 9223372036854775807) :
    Calls Try.prog 10 #[.slice A n c, .slice O q d] w (PlaceGives w xs os) := by
  have C1 := hide (refRight_any A n c xs w hx hn hc hm)
  have HY := hide hy
  have Hq := hide hq
  clear hx hy hq
  by_cases hok : okT xs
  · have D1 := hide (refRight_ok hok C1.out)
    have Hok := hide hok
    have HTL := hide (tn_len xs)
    clear C1 hok
    obtain ⟨T, hTT⟩ : ∃ T : Int, T = (((tn xs).sum : Nat) : Int) := ⟨_, rfl⟩
    have HTq := hide (fun (W : World) A1 c1 (h : I64s W W.heap.size A1 (ni (tn xs))) (h2 : n ≤ c1) (h3 : c1 ≤ 9223372036854775807) => show Calls Try.prog 22 #[.slice A1 n c1] W fun e w' => e = .returned (.int .i64 T) ∧ W = w' by
      rw [hTT]; exact refTotal_any A1 n c1 (tn xs) W h (by rw [HTL.out, hn]) (by have := Hok.out.2.2; omega) h2 h3)
    by_cases hlt : q = (tn xs).sum
    · have hq1 : ((q : Int) == T) = true := by rw [hTT, hlt]; simp
      have hq2 : ((q : Int) != T) = false := by rw [hTT, hlt]; simp
      have HPL := hide (show plaOf xs os = (plc (tn xs) os).filter (· < 18446744073709551615) by unfold plaOf; rw [if_pos ⟨Hok.out, by rw [Hq.out, hlt]⟩])
      have hq64 : q ≤ 64 := by have := Hok.out.2.2; omega
      have Hlt := hide hlt
      clear hlt hTT
      go_enter Try.func10, Try.ntmps10
      go_wp2_with (first
        | (go_at_call 20; refine D1.out.mono ?_; rintro e w1 ⟨v, rfl, A1, n1, c1, rfl, h1, h2, h3, h4, h5⟩; have HB1 := hide h5; have HR1 := hide (h4.more (R' := fun b => b < w1.heap.size) fun b hb => hb.2); obtain rfl : n = n1 := (by rw [ni_len] at h1; have := HTL.out; omega); clear h1 h4 h5)
        | (go_at_call 22; refine (HTq.out _ _ _ HR1.out h2 h3).mono ?_; rintro e w2 ⟨rfl, rfl⟩))
      go_loopw [6, 8, 28] (fun lv p i wr => ∃ (k : Nat) (A2 : Option Addr) (c2 acc : Nat) (l : List Nat), k ≤ q ∧ i = .int .i64 k ∧ lv = .slice A2 n c2 ∧ p = .int .u64 (hN acc : Nat) ∧ n ≤ c2 ∧ c2 ≤ 9223372036854775807 ∧ Hid (I64s wr wr.heap.size A2 (ni l)) ∧ Hid (l.length = n) ∧ Hid (l.sum ≤ 64) ∧ Hid (plc (tn xs) os = (plc l (os.drop k)).map (acc + ·)) ∧ Hid (Below w.heap.size w wr)) (fun _ _ i _ => q - (intOf i).toNat)
      case atStart => exact ⟨0, A1, c1, 0, tn xs, by omega, rfl, rfl, rfl, h2, h3, HR1, hide (by rw [HTL.out, hn]), hide Hok.out.2.2, hide (by simp), HB1⟩
      case round =>
        clear HR1 HB1 HTq D1
        obtain ⟨k, A2, c2, acc, l, hk, rfl, rfl, rfl, hc2, hm2, hR, hL, hS, hP, hB⟩ := hrel
        have h16 : n ≤ 16 := by have := Hok.out.1; omega
        by_cases hlt : k < q
        · obtain ⟨ado, x, rfl, _, hv, q0⟩ := (HY.out.below hB.out (Nat.le_refl _)).icell (k := k) (by have := Hq.out; omega)
          have g0 : (0 : Int) ≤ k := by omega
          have g1 : (k : Int) < q := by omega
          have HDR := hide (drop_at hv)
          clear hv
          by_cases hgood : 0 ≤ x ∧ x < n ∧ 0 < l.getD x.toNat 0
          · obtain ⟨hx0, hx1, hx2⟩ := hgood
            obtain ⟨j, rfl⟩ : ∃ j : Nat, x = j := ⟨x.toNat, by omega⟩
            have hjn : j < n := by omega
            have Hj0 := hide (show 0 < l.getD j 0 by simpa using hx2)
            obtain ⟨ad, y, rfl, _, hv, q1⟩ := hR.out.icell (k := j) (by rw [ni_len, hL.out]; omega)
            obtain ⟨hl2, rfl⟩ := ni_at hv
            have HPN := hide (show plc (tn xs) os = (plc (dec l j) (os.drop (k + 1))).map (acc + first 0 l j + ·) by
              rw [hP.out, HDR.out, plc_next _ hl2 Hj0.out]
              cases plc (dec l j) (os.drop (k + 1)) with
              | none => rfl
              | some r => simp [Nat.add_assoc])
            have hy0 : (((l.getD j 0 : Nat) : Int) == 0) = false := by rw [beq_eq_false_iff_ne]; have := Hj0.out; omega
            have g2 : (0 : Int) ≤ j := by omega
            have g3 : (j : Int) < n := by omega
            have hd1 : decide ((j : Int) < 0) = false := by simp
            have hd2 : decide (n ≤ j) = false := by simp; omega
            have HLs := hide (fun W b (h : I64s W W.heap.size (some ad) (ni l)) hk h0 => refLess_any (some ad) n c2 b l W h hL.out hk h0 (by have := hS.out; omega) (by omega))
            clear hx0 hx1 hx2 hv
            obtain ⟨yj, hyj⟩ : ∃ yj : Int, yj = ((l.getD j 0 : Nat) : Int) := ⟨_, rfl⟩
            rw [← hyj] at q1 hy0
            clear hyj
            obtain ⟨wo, rfl⟩ : ∃ wo : World, wo = wr := ⟨_, rfl⟩
            go_wp2_with fail
            go_loopw [8, 11] (fun p i w2 => ∃ b : Nat, b ≤ j ∧ i = .int .i64 b ∧ p = .int .u64 (hN (acc + first 0 l b) : Nat) ∧ Hid (Below wo.heap.size wo w2)) (fun _ i _ => j - (intOf i).toNat)
            case atStart => exact ⟨0, by omega, rfl, rfl, hide (Below.refl _ _)⟩
            case round =>
              obtain ⟨b, hb, rfl, rfl, hB2⟩ := hrel
              by_cases hlt2 : b < j
              · obtain ⟨ad', y2, e2, _, hv, q2⟩ := (hR.out.below hB2.out (Nat.le_refl _)).icell (k := b) (by rw [ni_len, hL.out]; omega)
                injection e2 with e2
                subst e2
                obtain ⟨hl3, rfl⟩ := ni_at hv
                clear hv
                have g4 : (0 : Int) ≤ b := by omega
                have g5 : (b : Int) < n := by omega
                have g6 : (b : Int) < j := by omega
                have HFS := hide (show first 0 l (b + 1) = first 0 l b + if 0 < l.getD b 0 then multi 0 (dec l b) else 0 from rfl)
                by_cases hy : l.getD b 0 = 0
                · rw [hy] at q2 HFS
                  have HFE := hide (show first 0 l (b + 1) = first 0 l b by rw [HFS.out]; simp)
                  clear hy
                  go_wp2_with fail
                  go_roundw
                  case rel => exact ⟨b + 1, by omega, by go_num, by rw [HFE.out], hB2⟩
                  case measure => simp [intOf]; omega
                · have hyp : 0 < l.getD b 0 := by omega
                  have Hy0 := hide hyp
                  have hy1 : decide ((0 : Int) < ((l.getD b 0 : Nat) : Int)) = true := by simp only [decide_eq_true_eq]; omega
                  have HFE := hide (show first 0 l (b + 1) = first 0 l b + multi 0 (dec l b) by rw [HFS.out, if_pos hyp])
                  have HDS := hide (show (dec l b).sum + 1 = l.sum from dec_sum hyp)
                  have HDL := hide (show (dec l b).length = n by rw [dec_len, hL.out])
                  have hcl := hide (fun W A3 c3 (h : I64s W W.heap.size A3 (ni (dec l b))) (hc3 : n ≤ c3) (hm3 : c3 ≤ 9223372036854775807) => refCount_any A3 n c3 (dec l b) W h HDL.out (by have := HDS.out; have := hS.out; omega) hc3 hm3)
                  have HA := hide (fun W => radd_any (hN (acc + first 0 l b)) (hN (multi 0 (dec l b))) W (hN_lt _) (hN_lt _))
                  rw [hN_add, Nat.add_assoc, ← HFE.out] at HA
                  clear hy HFS hyp
                  generalize l.getD b 0 = y3 at q2 hy1
                  generalize hN (multi 0 (dec l b)) = C at *
                  generalize hN (acc + first 0 l b) = D at *
                  generalize hE : hN (acc + first 0 l (b + 1)) = E at *
                  have HE := hide hE
                  clear hE
                  obtain ⟨yi, hyi⟩ : ∃ yi : Int, yi = (y3 : Int) := ⟨_, rfl⟩
                  rw [← hyi] at q2 hy1
                  clear hyi
                  go_wp2_with (first
                    | (go_at_call 23; refine (HLs.out _ b (stab_rd _ _ _ _ _ hR.out hB2.out) (by omega) Hy0.out).mono ?_; rintro e w3 ⟨v3, rfl, A3, n3, c3, rfl, h1, h2, h3, h4, h5⟩; have HB3 := hide (Below.step hB2.out h5); have HR3 := hide (h4.more (R' := fun b => b < w3.heap.size) fun b hb => hb.2); obtain rfl : n = n3 := (by rw [ni_len] at h1; have := HDL.out; omega); have hc3 := h2; have hm4 := h3; clear h1 h2 h3 h4 h5)
                    | (go_at_call 21; refine (hcl.out _ _ _ HR3.out hc3 hm4).mono ?_; rintro e w4 ⟨rfl, hb4⟩; have HB4 := hide (Below.step HB3.out hb4); clear hb4)
                    | (go_at_call 24; refine (HA.out _).mono ?_; rintro e w5 ⟨rfl, rfl⟩))
                  go_roundw
                  case rel => exact ⟨b + 1, by omega, by go_num, by rw [HE.out], HB4⟩
                  case measure => simp [intOf]; omega
              · obtain rfl : j = b := by omega
                have HDS := hide (show (dec l j).sum + 1 = l.sum from dec_sum Hj0.out)
                have HDL := hide (show (dec l j).length = n by rw [dec_len, hL.out])
                go_wp2_with (go_at_call 23; refine (HLs.out _ j (stab_rd _ _ _ _ _ hR.out hB2.out) hjn Hj0.out).mono ?_; rintro e w3 ⟨v3, rfl, A3, n3, c3, rfl, h1, h2, h3, h4, h5⟩; have HB3 := hide (Below.step hB2.out h5); have HR3 := hide (h4.more (R' := fun b => b < w3.heap.size) fun b hb => hb.2); obtain rfl : n = n3 := (by rw [ni_len] at h1; have := HDL.out; omega); have hc3 := h2; have hm4 := h3; clear h1 h2 h3 h4 h5)
                go_roundw
                case rel => exact ⟨k + 1, A3, c3, acc + first 0 l j, dec l j, by omega, by go_num, rfl, rfl, hc3, hm4, HR3, HDL, hide (by have := HDS.out; have := hS.out; omega), HPN, hide (Below.step hB.out HB3.out)⟩
                case measure => simp [intOf]; omega
          · have HF := hide (show PlaceGives w xs os (.returned (.tuple #[.int .u64 0, .bool false])) wr from ⟨.inr ⟨by
              rw [HPL.out, hP.out, HDR.out, plc_no _ (by rw [hL.out]; exact hgood)]; rfl, rfl⟩, hB.out⟩)
            by_cases hx0 : x < 0
            · clear hgood
              have hd1 : decide (x < 0) = true := by simpa using hx0
              go_wp2_with fail
              all_goals go_ret2
              all_goals exact HF.out
            · by_cases hx1 : (n : Int) ≤ x
              · clear hgood
                have hd1 : decide (x < 0) = false := by simpa using hx0
                have hd2 : decide ((n : Int) ≤ x) = true := by simpa using hx1
                go_wp2_with fail
                all_goals go_ret2
                all_goals exact HF.out
              · obtain ⟨j, rfl⟩ : ∃ j : Nat, x = j := ⟨x.toNat, by omega⟩
                obtain ⟨ad, y, rfl, _, hv, q1⟩ := hR.out.icell (k := j) (by rw [ni_len, hL.out]; omega)
                obtain ⟨hl2, rfl⟩ := ni_at hv
                have hy : l.getD j 0 = 0 := by
                  rcases Nat.eq_zero_or_pos (l.getD j 0) with h | h
                  · exact h
                  · exact (hgood ⟨by omega, by omega, by simpa using h⟩).elim
                rw [hy] at q1
                have g2 : (0 : Int) ≤ j := by omega
                have g3 : (j : Int) < n := by omega
                have hd1 : decide ((j : Int) < 0) = false := by simp
                have hd2 : decide ((n : Int) ≤ j) = false := by simp; omega
                clear hgood hv hy hx0 hx1
                go_wp2_with fail
                all_goals go_ret2
                all_goals exact HF.out
        · obtain rfl : q = k := by omega
          have HPE := hide (show plaOf xs os = if acc < 18446744073709551615 then some acc else none by
            rw [HPL.out, hP.out, List.drop_eq_nil_of_le (by rw [Hq.out]; exact Nat.le_refl _)]
            simp only [plc, Option.map_some, Nat.add_zero, Option.filter]
            simp)
          by_cases hacc : acc < 18446744073709551615
          · have HF := hide (show PlaceGives w xs os (.returned (.tuple #[.int .u64 (hN acc : Nat), .bool true])) wr from ⟨.inl ⟨acc, by rw [HPE.out, if_pos hacc], by rw [hN_small (by omega)]⟩, hB.out⟩)
            have hne : (((hN acc : Nat) : Int) == 18446744073709551615) = false := by rw [beq_eq_false_iff_ne, hN_small (by omega)]; omega
            generalize ((hN acc : Nat) : Int) = V at *
            go_wp2_with fail
            go_ret2
            exact HF.out
          · have HF := hide (show PlaceGives w xs os (.returned (.tuple #[.int .u64 0, .bool false])) wr from ⟨.inr ⟨by rw [HPE.out, if_neg hacc], rfl⟩, hB.out⟩)
            have hne : (((hN acc : Nat) : Int) == 18446744073709551615) = true := by rw [hN_great (by omega)]; rfl
            generalize ((hN acc : Nat) : Int) = V at *
            go_wp2_with fail
            go_ret2
            exact HF.out
    · have hq1 : ((q : Int) == T) = false := by rw [hTT, beq_eq_false_iff_ne]; omega
      have hq2 : ((q : Int) != T) = true := by rw [hTT, bne_iff_ne]; omega
      have HPL := hide (show plaOf xs os = none by unfold plaOf; rw [if_neg (by rw [Hq.out]; exact fun h => hlt h.2)])
      clear hlt hTT
      go_enter Try.func10, Try.ntmps10
      go_wp2_with (first
        | (go_at_call 20; refine D1.out.mono ?_; rintro e w1 ⟨v, rfl, A1, n1, c1, rfl, h1, h2, h3, h4, h5⟩; have HB1 := hide h5; have HR1 := hide (h4.more (R' := fun b => b < w1.heap.size) fun b hb => hb.2); obtain rfl : n = n1 := (by rw [ni_len] at h1; have := HTL.out; omega); clear h1 h4 h5)
        | (go_at_call 22; refine (HTq.out _ _ _ HR1.out h2 h3).mono ?_; rintro e w2 ⟨rfl, rfl⟩))
      go_ret2
      exact ⟨.inr ⟨HPL.out, rfl⟩, HB1.out⟩
  · have D1 := hide (refRight_no hok C1.out)
    have HPL := hide (show plaOf xs os = none by unfold plaOf; rw [if_neg fun h => hok h.1])
    clear C1 hok
    go_enter Try.func10, Try.ntmps10
    go_wp2_with (go_at_call 20; refine D1.out.mono ?_; rintro e w1 ⟨v, rfl, h5⟩; have HB1 := hide h5; clear h5)
    go_ret2
    exact ⟨.inr ⟨HPL.out, rfl⟩, HB1.out⟩
end Go.Proofs.Ytpnekmkbedhooaa
