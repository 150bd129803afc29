/-
  The law ClusterCheaper. Conditions: the slices read as lists of int32s.
-/
import Derived.Test.YtodlbbcgplhihagCluM
import Derived.Test.YtodlbbcgplhihagCluQ
namespace Go.Proofs.Ytodlbbcgplhihag
open Go.RowKit

set_option maxHeartbeats 8000000 in
set_option maxRecDepth 100000 in
theorem cheaper_any (A B : Option Addr) (n c m d : Nat) (l cs : List (List Int)) (a : Int) (w : World) (hx : LL w w.heap.size A l) (hn : l.length = n) (hc : n ≤ c) (hm : c ≤ 9223372036854775807) (hi : ∀ v ∈ l, I32 v)
    (hy : LL w w.heap.size B cs) (hn' : cs.length = m) (hyi : ∀ u ∈ cs, I32 u) (hd : m ≤ d) (hm' : d ≤ 9223372036854775807) :
    Calls Try.prog 3 #[.slice A n c, .slice B m d, .int .i64 a] w fun e w' => e = .returned (.bool true) ∧ Below w.heap.size w w' := by
  have HI := hide hi
  have HYI := hide hyi
  have Hn := hide hn
  have Hm := hide hn'
  have F1 := hide (fun (W : World) (h : LL W W.heap.size A l) => few_any A n c l W h hn hc hm)
  have F2 := hide (fun (W : World) (h : LL W W.heap.size B cs) => few_any B m d cs W h hn' hd hm')
  have HX := hide hx
  have HY := hide hy
  have four : (fewB l = false) ∨ (fewB l = true ∧ fewB cs = false) ∨ (fewB l = true ∧ fewB cs = true ∧ 60 < a) ∨ (fewB l = true ∧ fewB cs = true ∧ a ≤ 60) := by
    cases fewB l <;> cases fewB cs <;> simp <;> omega
  have HF := hide four
  clear hx hy hi hyi hn hn' four
  rcases HF.out with h1 | ⟨h1, h2⟩ | ⟨h1, h2, h3⟩ | ⟨h1, h2, h3⟩
  · skip
    simp only [h1] at F1
    clear HF
    have HO1 := hide h1
    clear h1
    go_enter Try.func3, Try.ntmps3
    go_wp2_with fail
    refine (lives_any _).mono ?_
    rintro e w1 ⟨rfl, hb1⟩
    have HK : Hid (Below w.heap.size w w1 ∧ Rd (Sh.list (Sh.int .i32)) w1 w1.heap.size A l ∧ Rd (Sh.list (Sh.int .i32)) w1 w1.heap.size B cs) := hide ⟨hb1, HX.out.at_world hb1, HY.out.at_world hb1⟩
    clear hb1
    go_wp2_with (first
      | (go_at_call 6; (first | (with_reducible refine Calls.mono (F1.out _ ?hf1) ?_; case hf1 => exact HK.out.2.1) | (with_reducible refine Calls.mono (F2.out _ ?hf2) ?_; case hf2 => exact HK.out.2.2)); rintro e _ ⟨rfl, rfl⟩))
    go_ret
    exact ⟨rfl, HK.out.1⟩
  · skip
    simp only [h1] at F1
    simp only [h2] at F2
    clear HF
    have HO1 := hide h1
    clear h1
    clear h2
    go_enter Try.func3, Try.ntmps3
    go_wp2_with fail
    refine (lives_any _).mono ?_
    rintro e w1 ⟨rfl, hb1⟩
    have HK : Hid (Below w.heap.size w w1 ∧ Rd (Sh.list (Sh.int .i32)) w1 w1.heap.size A l ∧ Rd (Sh.list (Sh.int .i32)) w1 w1.heap.size B cs) := hide ⟨hb1, HX.out.at_world hb1, HY.out.at_world hb1⟩
    clear hb1
    go_wp2_with (first
      | (go_at_call 6; (first | (with_reducible refine Calls.mono (F1.out _ ?hf1) ?_; case hf1 => exact HK.out.2.1) | (with_reducible refine Calls.mono (F2.out _ ?hf2) ?_; case hf2 => exact HK.out.2.2)); rintro e _ ⟨rfl, rfl⟩))
    go_ret
    exact ⟨rfl, HK.out.1⟩
  · skip
    simp only [h1] at F1
    simp only [h2] at F2
    have b3 : decide (60 < a) = true := decide_eq_true h3
    clear HF
    have HO1 := hide h1
    clear h1
    clear h2
    go_enter Try.func3, Try.ntmps3
    go_wp2_with fail
    refine (lives_any _).mono ?_
    rintro e w1 ⟨rfl, hb1⟩
    have HK : Hid (Below w.heap.size w w1 ∧ Rd (Sh.list (Sh.int .i32)) w1 w1.heap.size A l ∧ Rd (Sh.list (Sh.int .i32)) w1 w1.heap.size B cs) := hide ⟨hb1, HX.out.at_world hb1, HY.out.at_world hb1⟩
    clear hb1
    go_wp2_with (first
      | (go_at_call 6; (first | (with_reducible refine Calls.mono (F1.out _ ?hf1) ?_; case hf1 => exact HK.out.2.1) | (with_reducible refine Calls.mono (F2.out _ ?hf2) ?_; case hf2 => exact HK.out.2.2)); rintro e _ ⟨rfl, rfl⟩))
    go_ret
    exact ⟨rfl, HK.out.1⟩
  · skip
    simp only [h1] at F1
    simp only [h2] at F2
    have b3 : decide (60 < a) = false := decide_eq_false (by omega)
    obtain ⟨s1, s2⟩ := fewB_spec h1
    obtain ⟨s3, s4⟩ := fewB_spec h2
    rw [Hn.out] at s1
    rw [Hm.out] at s3
    have HL1 : Hid (∀ v ∈ l, v.length ≤ 1000000) := hide (fun v hv => by have := s2 v hv; omega)
    have HL2 : Hid (∀ u ∈ cs, u.length ≤ 1000000) := hide (fun v hv => by have := s4 v hv; omega)
    have HYI2 : Hid (∀ u ∈ cs, I32 u ∧ u.length ≤ 1000000) := hide (fun v hv => ⟨HYI.out v hv, HL2.out v hv⟩)
    have STOK := hide (stepC_ok HI.out HL1.out HYI2.out)
    have cr := costOf_range l cs
    have cr2 := costOf_range l (stepOfC l cs)
    have csl := cost_step_le l cs
    have CST := hide (fun h => cost_step_lt (l := l) (cs := cs) h)
    clear h1 h2 s2 s4 HF
    go_enter Try.func3, Try.ntmps3
    go_wp2_with fail
    refine (lives_any _).mono ?_
    rintro e w1 ⟨rfl, hb1⟩
    have HK : Hid (Below w.heap.size w w1 ∧ Rd (Sh.list (Sh.int .i32)) w1 w1.heap.size A l ∧ Rd (Sh.list (Sh.int .i32)) w1 w1.heap.size B cs) := hide ⟨hb1, HX.out.at_world hb1, HY.out.at_world hb1⟩
    clear hb1
    go_upto_region 5 with (first
      | (go_at_call 6; (first | (with_reducible refine Calls.mono (F1.out _ ?hf1) ?_; case hf1 => exact HK.out.2.1) | (with_reducible refine Calls.mono (F2.out _ ?hf2) ?_; case hf2 => exact HK.out.2.2)); rintro e _ ⟨rfl, rfl⟩))
    clear F1 F2
    go_wp2_with fail
    refine (groups_any A B n c m d l cs w1 ((stab_rd (Sh.list (Sh.int .i32)) A l) w1 w1 HK.out.2.1 (Below.refl _ w1)) Hn.out hc hm HI.out ((stab_rd (Sh.list (Sh.int .i32)) B cs) w1 w1 HK.out.2.2 (Below.refl _ w1)) Hm.out HYI.out hd hm' (by omega)).mono ?_
    rintro e w2 ⟨v, rfl, AG, nAG, cAG, rfl, hlAG, hnAG, hmAG, hR, hb⟩
    have HLAG := hide hlAG
    have HR := hR.rd (B := w2.heap.size) fun b hb => hb.2
    clear hR hlAG
    have HK1 : Hid (Below w.heap.size w w2 ∧ Rd (Sh.list (Sh.int .i32)) w2 w2.heap.size A l ∧ Rd (Sh.list (Sh.int .i32)) w2 w2.heap.size B cs ∧ Rd (Sh.int .i64) w2 w2.heap.size AG (groupsOf l cs)) := hide (⟨((stab_below w) w1 w2 HK.out.1 hb), ((stab_rd (Sh.list (Sh.int .i32)) A l) w1 w2 HK.out.2.1 hb), ((stab_rd (Sh.list (Sh.int .i32)) B cs) w1 w2 HK.out.2.2 hb), HR⟩)
    clear HK hb
    have HK := HK1
    clear HK1
    clear HR
    have hgn : ((decide ((0 : Int) < m) = false ∧ decide (0 < m) = false) ∧ nAG ≤ 0) ∨ (decide ((0 : Int) < m) = true ∧ ((nAG : Int) != n) = false ∧ nAG = n ∧ 0 < m) := by
      rcases Nat.eq_zero_or_pos m with h0 | h0
      · refine .inl ⟨⟨by simp [h0], by simp [h0]⟩, ?_⟩
        rw [← HLAG.out, List.eq_nil_of_length_eq_zero (show cs.length = 0 by rw [Hm.out]; exact h0)]; exact Nat.le_refl _
      · have hcs : cs ≠ [] := by rintro rfl; have := Hm.out; simp at this; omega
        have e : nAG = n := by rw [← HLAG.out]; unfold groupsOf; rw [if_neg hcs]; simp [Hn.out]
        refine .inr ⟨decide_eq_true (by omega), by rw [e]; simp, e, h0⟩
    have hgg : nAG ≤ n ∧ (0 < nAG → 0 < m) := by rcases hgn with ⟨_, h⟩ | ⟨_, _, h, h'⟩ <;> omega
    have HGN := hide hgn
    clear hgn
    rcases HGN.out with ⟨⟨b1, b5⟩, b2⟩ | ⟨b1, b2, b4, b5⟩
    all_goals
      clear HGN
      try clear b4
      go_upto_region 9 with fail
      try clear b2
      go_loopw [49] (fun i wr => ∃ k : Nat, k ≤ nAG ∧ i = .int .i64 k ∧ Hid ((fun W => Below w.heap.size w W ∧ Rd (Sh.list (Sh.int .i32)) W W.heap.size A l ∧ Rd (Sh.list (Sh.int .i32)) W W.heap.size B cs ∧ Rd (Sh.int .i64) W W.heap.size AG (groupsOf l cs)) wr)) (fun i _ => nAG - (intOf i).toNat)
      case atStart => exact ⟨0, by omega, rfl, HK⟩
      case round =>
        obtain ⟨k, hk, rfl, hK⟩ := hrel
        have HK : Hid (Below w.heap.size w wr ∧ Rd (Sh.list (Sh.int .i32)) wr wr.heap.size A l ∧ Rd (Sh.list (Sh.int .i32)) wr wr.heap.size B cs ∧ Rd (Sh.int .i64) wr wr.heap.size AG (groupsOf l cs)) := hK
        clear hK
        by_cases hlt : k < nAG
        · obtain ⟨ad', v, A', c', rfl, _, hv, q0, q1, q2, q3⟩ := HK.out.2.1.slc (k := k) (by have := Hn.out; omega)
          obtain ⟨adG, x, rfl, _, hx1, cG⟩ := HK.out.2.2.2.icell (k := k) (by have := HLAG.out; omega)
          have hcs : cs ≠ [] := by rintro rfl; have := Hm.out; simp at this; omega
          have hxq : x = (best v cs : Int) := by
            have := hx1
            unfold groupsOf at this
            rw [if_neg hcs, List.getElem?_map, hv] at this
            simp at this
            exact this.symm
          subst hxq
          have hql : best v cs < m := by rw [← Hm.out]; exact bestTo_lt _ _ _ (List.length_pos_iff.2 hcs)
          have hmin := hide (bestTo_min v cs cs.length)
          have HBT := hide (show bestTo v cs cs.length = best v cs from rfl)
          have hvi := hide (i32_get HI.out hv)
          have g0 : (0 : Int) ≤ k := by omega
          have g1 : (k : Int) < nAG := by omega
          have g2 : (k : Int) < n := by omega
          have HV := hide hv
          clear hv q3 hx1 hcs
          rw [HBT.out] at hmin
          generalize best v cs = q at *
          have q4 : decide ((q : Int) < 0) = false := decide_eq_false (by omega)
          have q5 : decide ((m : Int) ≤ q) = false := decide_eq_false (by omega)
          have q6 : (0 : Int) ≤ q := by omega
          have q7 : (q : Int) < m := by omega
          go_upto_region 14 with fail
          clear q0 cG
          obtain ⟨wo, rfl⟩ : ∃ wo : World, wo = wr := ⟨_, rfl⟩
          go_loopw [64] (fun i wr => ∃ j : Nat, j ≤ m ∧ i = .int .i64 j ∧ Hid ((fun W => Below w.heap.size w W ∧ Rd (Sh.list (Sh.int .i32)) W W.heap.size (some ad') l ∧ Rd (Sh.list (Sh.int .i32)) W W.heap.size B cs ∧ Rd (Sh.int .i64) W W.heap.size (some adG) (groupsOf l cs)) wr)) (fun i _ => m - (intOf i).toNat)
          case atStart => exact ⟨0, by omega, rfl, HK⟩
          case round =>
            obtain ⟨j, hj, rfl, hK⟩ := hrel
            clear HK
            have HK : Hid (Below w.heap.size w wr ∧ Rd (Sh.list (Sh.int .i32)) wr wr.heap.size (some ad') l ∧ Rd (Sh.list (Sh.int .i32)) wr wr.heap.size B cs ∧ Rd (Sh.int .i64) wr wr.heap.size (some adG) (groupsOf l cs)) := hK
            clear hK
            by_cases hjm : j < m
            · obtain ⟨ad1, v1, A1, c1, e1, _, hv1, r0, r1, r2, r3⟩ := HK.out.2.1.slc (k := k) (by have := Hn.out; omega)
              injection e1 with e1
              subst e1
              obtain ⟨adB, u, A2, c2, rfl, _, hu, t0, t1, t2, t3⟩ := HK.out.2.2.1.slc (k := j) (by have := Hm.out; omega)
              obtain ⟨ad3, u3, A3, c3, e3, _, hu3, z0, z1, z2, z3⟩ := HK.out.2.2.1.slc (k := q) (by have := Hm.out; omega)
              injection e3 with e3
              subst e3
              have hmj := hmin.out j (by have := Hm.out; omega)
              obtain rfl : v1 = v := by rw [HV.out] at hv1; injection hv1 with hv1; exact hv1.symm
              rw [cAt_of hu, cAt_of hu3] at hmj
              have D1 := hide (fun J => dist_any A1 A2 v1.length c1 u.length c2 v1 u (wr.drewN J) (r3.drewN J) rfl hvi.out r1 r2 (t3.drewN J) rfl (i32_get HYI.out hu) t1 t2)
              have D2 := hide (fun J => dist_any A1 A3 v1.length c1 u3.length c3 v1 u3 (wr.drewN J) (r3.drewN J) rfl hvi.out r1 r2 (z3.drewN J) rfl (i32_get HYI.out hu3) z1 z2)
              have j0 : (0 : Int) ≤ j := by omega
              have j1 : (j : Int) < m := by omega
              clear hv1 r3 hu t3 hu3 z3
              generalize distOf v1 u = p at *
              generalize distOf v1 u3 = r at *
              obtain ⟨m1, m2⟩ := hmj
              rcases (show p = r ∨ (p ≠ r ∧ r < p) by omega) with e | ⟨e, hrp⟩
              · have m3 := m2 e
                subst e
                have d1 : decide (p < p) = false := by simp
                have d2 : (p == p) = true := by simp
                have d3 : decide ((j : Int) < q) = false := decide_eq_false (by omega)
                clear m2 m1
                go_upto_region 16 with fail
                go_quiet ((first | (go_at_call 8; (first | (with_reducible exact quiet_left (D1.out _)) | (with_reducible exact quiet_left (D2.out _))))))
                go_wp2
                go_roundw
                case rel => exact ⟨j + 1, by omega, by go_num, hide ((stab_and (stab_below w) (stab_and (stab_rd (Sh.list (Sh.int .i32)) (some ad') l) (stab_and (stab_rd (Sh.list (Sh.int .i32)) (some adB) cs) (stab_rd (Sh.int .i64) (some adG) (groupsOf l cs))))) _ _ HK.out (below_drewN (Below.refl _ _) _))⟩
                case measure => simp [intOf]; omega
              · have d1 : decide (p < r) = false := decide_eq_false (by omega)
                have d2 : (p == r) = false := by rw [beq_eq_false_iff_ne]; exact e
                clear m2 m1 e
                go_upto_region 16 with fail
                go_quiet ((first | (go_at_call 8; (first | (with_reducible exact quiet_left (D1.out _)) | (with_reducible exact quiet_left (D2.out _))))))
                go_wp2
                go_roundw
                case rel => exact ⟨j + 1, by omega, by go_num, hide ((stab_and (stab_below w) (stab_and (stab_rd (Sh.list (Sh.int .i32)) (some ad') l) (stab_and (stab_rd (Sh.list (Sh.int .i32)) (some adB) cs) (stab_rd (Sh.int .i64) (some adG) (groupsOf l cs))))) _ _ HK.out (below_drewN (Below.refl _ _) _))⟩
                case measure => simp [intOf]; omega
            · obtain rfl : m = j := by omega
              go_wp2
              go_roundw
              case rel => exact ⟨k + 1, by omega, by go_num, HK⟩
              case measure => simp [intOf]; omega
        · obtain rfl : nAG = k := by omega
          go_wp2_with fail
          refine (step_any A B n c m d l cs wr ((stab_rd (Sh.list (Sh.int .i32)) A l) wr wr HK.out.2.1 (Below.refl _ wr)) Hn.out hc hm HI.out ((stab_rd (Sh.list (Sh.int .i32)) B cs) wr wr HK.out.2.2.1 (Below.refl _ wr)) Hm.out HYI.out hd hm' (by omega) (by omega) HL1.out HL2.out).mono ?_
          rintro e w3 ⟨v, rfl, AS, nAS, cAS, rfl, hlAS, hnAS, hmAS, hR, hb⟩
          have HLAS := hide hlAS
          have HR := hR.rd (B := w3.heap.size) fun b hb => hb.2
          clear hR hlAS
          have HK1 : Hid (Below w.heap.size w w3 ∧ Rd (Sh.list (Sh.int .i32)) w3 w3.heap.size A l ∧ Rd (Sh.list (Sh.int .i32)) w3 w3.heap.size B cs ∧ Rd (Sh.int .i64) w3 w3.heap.size AG (groupsOf l cs) ∧ Rd (Sh.list (Sh.int .i32)) w3 w3.heap.size AS (stepOfC l cs)) := hide (⟨((stab_below w) wr w3 HK.out.1 hb), ((stab_rd (Sh.list (Sh.int .i32)) A l) wr w3 HK.out.2.1 hb), ((stab_rd (Sh.list (Sh.int .i32)) B cs) wr w3 HK.out.2.2.1 hb), ((stab_rd (Sh.int .i64) AG (groupsOf l cs)) wr w3 HK.out.2.2.2 hb), HR⟩)
          clear HK hb
          have HK := HK1
          clear HK1
          clear HR
          have enm : m = nAS := by rw [← HLAS.out, stepC_len, Hm.out]
          subst enm
          go_wp2_with fail
          refine (Stab.call (K := (fun W => Below w.heap.size w W ∧ Rd (Sh.list (Sh.int .i32)) W W.heap.size A l ∧ Rd (Sh.list (Sh.int .i32)) W W.heap.size B cs ∧ Rd (Sh.int .i64) W W.heap.size AG (groupsOf l cs) ∧ Rd (Sh.list (Sh.int .i32)) W W.heap.size AS (stepOfC l cs))) (stab_and (stab_below w) (stab_and (stab_rd (Sh.list (Sh.int .i32)) A l) (stab_and (stab_rd (Sh.list (Sh.int .i32)) B cs) (stab_and (stab_rd (Sh.int .i64) AG (groupsOf l cs)) (stab_rd (Sh.list (Sh.int .i32)) AS (stepOfC l cs)))))) HK.out (Below.refl _ w3) (.int .u64 (costOf l cs)) (cost_any A B n c m d l cs _ ((stab_rd (Sh.list (Sh.int .i32)) A l) w3 w3 HK.out.2.1 (Below.refl _ w3)) Hn.out hc hm HI.out ((stab_rd (Sh.list (Sh.int .i32)) B cs) w3 w3 HK.out.2.2.1 (Below.refl _ w3)) Hm.out HYI.out hd hm') (rfl)).mono ?_
          rintro e w4 ⟨rfl, hK⟩
          have HK' := hide hK
          clear hK HK
          have HK := HK'
          clear HK'
          go_wp2_with fail
          refine (Stab.call (K := (fun W => Below w.heap.size w W ∧ Rd (Sh.list (Sh.int .i32)) W W.heap.size A l ∧ Rd (Sh.list (Sh.int .i32)) W W.heap.size B cs ∧ Rd (Sh.int .i64) W W.heap.size AG (groupsOf l cs) ∧ Rd (Sh.list (Sh.int .i32)) W W.heap.size AS (stepOfC l cs))) (stab_and (stab_below w) (stab_and (stab_rd (Sh.list (Sh.int .i32)) A l) (stab_and (stab_rd (Sh.list (Sh.int .i32)) B cs) (stab_and (stab_rd (Sh.int .i64) AG (groupsOf l cs)) (stab_rd (Sh.list (Sh.int .i32)) AS (stepOfC l cs)))))) HK.out (Below.refl _ w4) (.int .u64 (costOf l (stepOfC l cs))) (cost_any A AS n c m cAS l (stepOfC l cs) _ ((stab_rd (Sh.list (Sh.int .i32)) A l) w4 w4 HK.out.2.1 (Below.refl _ w4)) Hn.out hc hm HI.out ((stab_rd (Sh.list (Sh.int .i32)) AS (stepOfC l cs)) w4 w4 HK.out.2.2.2.2 (Below.refl _ w4)) HLAS.out (fun u hu => (STOK.out u hu).1) hnAS hmAS) (rfl)).mono ?_
          rintro e w5 ⟨rfl, hK⟩
          have HK' := hide hK
          clear hK HK
          have HK := HK'
          clear HK'
          go_wp2_with fail
          refine (Stab.call (K := (fun W => Below w.heap.size w W ∧ Rd (Sh.list (Sh.int .i32)) W W.heap.size A l ∧ Rd (Sh.list (Sh.int .i32)) W W.heap.size B cs ∧ Rd (Sh.int .i64) W W.heap.size AG (groupsOf l cs) ∧ Rd (Sh.list (Sh.int .i32)) W W.heap.size AS (stepOfC l cs))) (stab_and (stab_below w) (stab_and (stab_rd (Sh.list (Sh.int .i32)) A l) (stab_and (stab_rd (Sh.list (Sh.int .i32)) B cs) (stab_and (stab_rd (Sh.int .i64) AG (groupsOf l cs)) (stab_rd (Sh.list (Sh.int .i32)) AS (stepOfC l cs)))))) HK.out (Below.refl _ w5) (.bool (decide (stepOfC l cs = cs))) (calls_drew (refSameL_any AS B m cAS m d (stepOfC l cs) cs _ ((stab_rd (Sh.list (Sh.int .i32)) AS (stepOfC l cs)) w5 w5 HK.out.2.2.2.2 (Below.refl _ w5)) HLAS.out hnAS hmAS ((stab_rd (Sh.list (Sh.int .i32)) B cs) w5 w5 HK.out.2.2.1 (Below.refl _ w5)) Hm.out hd hm')) (rfl)).mono ?_
          rintro e w6 ⟨rfl, hK⟩
          have HK' := hide hK
          clear hK HK
          have HK := HK'
          clear HK'
          have SMF : Hid (decide (stepOfC l cs = cs) = false → stepOfC l cs ≠ cs) := hide (fun h => of_decide_eq_false h)
          have hmm : ((m : Int) != m) = false := by simp
          have three : (decide (stepOfC l cs = cs) = true) ∨ (decide (stepOfC l cs = cs) = false ∧ costOf l cs < 18446744073709551615 ∧ costOf l (stepOfC l cs) < costOf l cs) ∨ (decide (stepOfC l cs = cs) = false ∧ ¬ costOf l cs < 18446744073709551615) := by
            cases hsm : decide (stepOfC l cs = cs)
            · by_cases h : costOf l cs < 18446744073709551615
              · exact .inr (.inl ⟨rfl, h, CST.out (of_decide_eq_false hsm) h⟩)
              · exact .inr (.inr ⟨rfl, h⟩)
            · exact .inl rfl
          generalize decide (stepOfC l cs = cs) = sm at *
          have hcb : decide (costOf l cs < costOf l (stepOfC l cs)) = false := decide_eq_false (by omega)
          have HTH := hide three
          clear three CST
          generalize costOf l (stepOfC l cs) = cb at *
          rcases HTH.out with k1 | ⟨k1, k2, k3⟩ | ⟨k1, k2⟩
          all_goals
            clear HTH
            first | have d1 : decide (costOf l cs < 18446744073709551615) = true := decide_eq_true k2 | have d1 : decide (costOf l cs < 18446744073709551615) = false := decide_eq_false k2 | skip
            first | have d2 : decide (costOf l cs ≤ cb) = false := decide_eq_false (by omega) | skip
            have HS1 := hide k1
            rw [k1]
            clear k1
            try clear k2
            try clear k3
            go_wp2_with fail
            refine (run_any A B n c m d l cs a w6 ((stab_rd (Sh.list (Sh.int .i32)) A l) w6 w6 HK.out.2.1 (Below.refl _ w6)) Hn.out hc hm HI.out ((stab_rd (Sh.list (Sh.int .i32)) B cs) w6 w6 HK.out.2.2.1 (Below.refl _ w6)) Hm.out HYI2.out hd hm' (by omega) (by omega) HL1.out (by omega)).mono ?_
            rintro e w7 ⟨v, nP, rfl, hrP, AP, mP, cP, rfl, hlP, hnP, hmP, hR, hb⟩
            have HRP := hide hrP
            have HR := hR.rd (B := w7.heap.size) fun b hb => hb.2
            have enp : m = mP := by rw [← hlP, iterC_len, Hm.out]
            subst enp
            have HLP := hide hlP
            clear hR hrP hlP
            have HK1 : Hid (Below w.heap.size w w7 ∧ Rd (Sh.list (Sh.int .i32)) w7 w7.heap.size A l ∧ Rd (Sh.list (Sh.int .i32)) w7 w7.heap.size B cs ∧ Rd (Sh.int .i64) w7 w7.heap.size AG (groupsOf l cs) ∧ Rd (Sh.list (Sh.int .i32)) w7 w7.heap.size AS (stepOfC l cs) ∧ Rd (Sh.list (Sh.int .i32)) w7 w7.heap.size AP (iterC l cs nP)) := hide (⟨((stab_below w) w6 w7 HK.out.1 hb), ((stab_rd (Sh.list (Sh.int .i32)) A l) w6 w7 HK.out.2.1 hb), ((stab_rd (Sh.list (Sh.int .i32)) B cs) w6 w7 HK.out.2.2.1 hb), ((stab_rd (Sh.int .i64) AG (groupsOf l cs)) w6 w7 HK.out.2.2.2.1 hb), ((stab_rd (Sh.list (Sh.int .i32)) AS (stepOfC l cs)) w6 w7 HK.out.2.2.2.2 hb), HR⟩)
            clear HK hb
            have HK := HK1
            clear HK1
            clear HR
            have IOK := hide (iterC_ok HI.out HL1.out HYI2.out nP)
            have hle := cost_iter_le l cs nP
            have hrn := HRP.out.1
            have hmv := hide (fun (h : sm = false) (hq : 0 < a.toNat) => run_moved HRP.out (SMF.out h) hq)
            have hfin := hide (HRP.out.2.2)
            have hci : decide (costOf l cs < costOf l (iterC l cs nP)) = false := decide_eq_false (by omega)
            have e1 : decide ((nP : Int) < 0) = false := decide_eq_false (by omega)
            have HLE := hide hle
            clear hle
            rcases (show a < 0 ∨ a = 0 ∨ (0 < a ∧ a ≤ nP) ∨ (0 < a ∧ (nP : Int) < a) by omega) with ha | ha | ⟨ha, hb9⟩ | ⟨ha, hb9⟩
            · have e2 : decide ((0 : Int) < nP) = false := decide_eq_false (by omega)
              have e2' : decide (0 < nP) = false := decide_eq_false (by omega)
              have e3 : decide (0 < a) = false := decide_eq_false (by omega)
              go_wp2_with fail
              refine (Stab.call (K := (fun W => Below w.heap.size w W ∧ Rd (Sh.list (Sh.int .i32)) W W.heap.size A l ∧ Rd (Sh.list (Sh.int .i32)) W W.heap.size B cs ∧ Rd (Sh.int .i64) W W.heap.size AG (groupsOf l cs) ∧ Rd (Sh.list (Sh.int .i32)) W W.heap.size AS (stepOfC l cs) ∧ Rd (Sh.list (Sh.int .i32)) W W.heap.size AP (iterC l cs nP))) (stab_and (stab_below w) (stab_and (stab_rd (Sh.list (Sh.int .i32)) A l) (stab_and (stab_rd (Sh.list (Sh.int .i32)) B cs) (stab_and (stab_rd (Sh.int .i64) AG (groupsOf l cs)) (stab_and (stab_rd (Sh.list (Sh.int .i32)) AS (stepOfC l cs)) (stab_rd (Sh.list (Sh.int .i32)) AP (iterC l cs nP))))))) HK.out (Below.refl _ w7) (.int .u64 (costOf l (iterC l cs nP))) (cost_any A AP n c m cP l (iterC l cs nP) _ ((stab_rd (Sh.list (Sh.int .i32)) A l) w7 w7 HK.out.2.1 (Below.refl _ w7)) Hn.out hc hm HI.out ((stab_rd (Sh.list (Sh.int .i32)) AP (iterC l cs nP)) w7 w7 HK.out.2.2.2.2.2 (Below.refl _ w7)) HLP.out (fun u hu => (IOK.out u hu).1) hnP hmP) (rfl)).mono ?_
              rintro e w8 ⟨rfl, hK⟩
              have HK' := hide hK
              clear hK HK
              have HK := HK'
              clear HK'
              go_wp2_with fail
              go_ret
              exact ⟨rfl, HK.out.1⟩
            · subst ha
              have e2 : decide ((0 : Int) < nP) = false := decide_eq_false (by omega)
              have e2' : decide (0 < nP) = false := decide_eq_false (by omega)
              go_wp2_with fail
              refine (Stab.call (K := (fun W => Below w.heap.size w W ∧ Rd (Sh.list (Sh.int .i32)) W W.heap.size A l ∧ Rd (Sh.list (Sh.int .i32)) W W.heap.size B cs ∧ Rd (Sh.int .i64) W W.heap.size AG (groupsOf l cs) ∧ Rd (Sh.list (Sh.int .i32)) W W.heap.size AS (stepOfC l cs) ∧ Rd (Sh.list (Sh.int .i32)) W W.heap.size AP (iterC l cs nP))) (stab_and (stab_below w) (stab_and (stab_rd (Sh.list (Sh.int .i32)) A l) (stab_and (stab_rd (Sh.list (Sh.int .i32)) B cs) (stab_and (stab_rd (Sh.int .i64) AG (groupsOf l cs)) (stab_and (stab_rd (Sh.list (Sh.int .i32)) AS (stepOfC l cs)) (stab_rd (Sh.list (Sh.int .i32)) AP (iterC l cs nP))))))) HK.out (Below.refl _ w7) (.int .u64 (costOf l (iterC l cs nP))) (cost_any A AP n c m cP l (iterC l cs nP) _ ((stab_rd (Sh.list (Sh.int .i32)) A l) w7 w7 HK.out.2.1 (Below.refl _ w7)) Hn.out hc hm HI.out ((stab_rd (Sh.list (Sh.int .i32)) AP (iterC l cs nP)) w7 w7 HK.out.2.2.2.2.2 (Below.refl _ w7)) HLP.out (fun u hu => (IOK.out u hu).1) hnP hmP) (rfl)).mono ?_
              rintro e w8 ⟨rfl, hK⟩
              have HK' := hide hK
              clear hK HK
              have HK := HK'
              clear HK'
              go_wp2_with fail
              go_ret
              exact ⟨rfl, HK.out.1⟩
            · have e2 : decide (a < (nP : Int)) = false := decide_eq_false (by omega)
              have e3 : decide (0 < a) = true := decide_eq_true ha
              have e4 : decide (a ≤ (nP : Int)) = true := decide_eq_true hb9
              have e5 : ¬ a < 0 := by omega
              have e6 : ((nP : Int) == 0) = false := by rw [beq_eq_false_iff_ne]; omega
              go_wp2_with fail
              refine (Stab.call (K := (fun W => Below w.heap.size w W ∧ Rd (Sh.list (Sh.int .i32)) W W.heap.size A l ∧ Rd (Sh.list (Sh.int .i32)) W W.heap.size B cs ∧ Rd (Sh.int .i64) W W.heap.size AG (groupsOf l cs) ∧ Rd (Sh.list (Sh.int .i32)) W W.heap.size AS (stepOfC l cs) ∧ Rd (Sh.list (Sh.int .i32)) W W.heap.size AP (iterC l cs nP))) (stab_and (stab_below w) (stab_and (stab_rd (Sh.list (Sh.int .i32)) A l) (stab_and (stab_rd (Sh.list (Sh.int .i32)) B cs) (stab_and (stab_rd (Sh.int .i64) AG (groupsOf l cs)) (stab_and (stab_rd (Sh.list (Sh.int .i32)) AS (stepOfC l cs)) (stab_rd (Sh.list (Sh.int .i32)) AP (iterC l cs nP))))))) HK.out (Below.refl _ w7) (.int .u64 (costOf l (iterC l cs nP))) (cost_any A AP n c m cP l (iterC l cs nP) _ ((stab_rd (Sh.list (Sh.int .i32)) A l) w7 w7 HK.out.2.1 (Below.refl _ w7)) Hn.out hc hm HI.out ((stab_rd (Sh.list (Sh.int .i32)) AP (iterC l cs nP)) w7 w7 HK.out.2.2.2.2.2 (Below.refl _ w7)) HLP.out (fun u hu => (IOK.out u hu).1) hnP hmP) (rfl)).mono ?_
              rintro e w8 ⟨rfl, hK⟩
              have HK' := hide hK
              clear hK HK
              have HK := HK'
              clear HK'
              go_wp2_with fail
              go_ret
              exact ⟨rfl, HK.out.1⟩
            · have e2 : decide (a < (nP : Int)) = false := decide_eq_false (by omega)
              have e3 : decide (0 < a) = true := decide_eq_true ha
              have e4 : decide (a ≤ (nP : Int)) = false := decide_eq_false (by omega)
              have e5 : ¬ a < 0 := by omega
              have hlt9 : nP < a.toNat := by omega
              have hnz := hide (fun h => hmv.out h (by omega))
              first | have e6 : ((nP : Int) == 0) = false := (by have := hnz.out HS1.out; rw [beq_eq_false_iff_ne]; omega) | skip
              go_wp2_with fail
              refine (Stab.call (K := (fun W => Below w.heap.size w W ∧ Rd (Sh.list (Sh.int .i32)) W W.heap.size A l ∧ Rd (Sh.list (Sh.int .i32)) W W.heap.size B cs ∧ Rd (Sh.int .i64) W W.heap.size AG (groupsOf l cs) ∧ Rd (Sh.list (Sh.int .i32)) W W.heap.size AS (stepOfC l cs) ∧ Rd (Sh.list (Sh.int .i32)) W W.heap.size AP (iterC l cs nP))) (stab_and (stab_below w) (stab_and (stab_rd (Sh.list (Sh.int .i32)) A l) (stab_and (stab_rd (Sh.list (Sh.int .i32)) B cs) (stab_and (stab_rd (Sh.int .i64) AG (groupsOf l cs)) (stab_and (stab_rd (Sh.list (Sh.int .i32)) AS (stepOfC l cs)) (stab_rd (Sh.list (Sh.int .i32)) AP (iterC l cs nP))))))) HK.out (Below.refl _ w7) (.int .u64 (costOf l (iterC l cs nP))) (cost_any A AP n c m cP l (iterC l cs nP) _ ((stab_rd (Sh.list (Sh.int .i32)) A l) w7 w7 HK.out.2.1 (Below.refl _ w7)) Hn.out hc hm HI.out ((stab_rd (Sh.list (Sh.int .i32)) AP (iterC l cs nP)) w7 w7 HK.out.2.2.2.2.2 (Below.refl _ w7)) HLP.out (fun u hu => (IOK.out u hu).1) hnP hmP) (rfl)).mono ?_
              rintro e w8 ⟨rfl, hK⟩
              have HK' := hide hK
              clear hK HK
              have HK := HK'
              clear HK'
              go_wp2_with fail
              refine (step_any A AP n c m cP l (iterC l cs nP) w8 ((stab_rd (Sh.list (Sh.int .i32)) A l) w8 w8 HK.out.2.1 (Below.refl _ w8)) Hn.out hc hm HI.out ((stab_rd (Sh.list (Sh.int .i32)) AP (iterC l cs nP)) w8 w8 HK.out.2.2.2.2.2 (Below.refl _ w8)) HLP.out (fun u hu => (IOK.out u hu).1) hnP hmP (by omega) (by omega) HL1.out (fun u hu => (IOK.out u hu).2)).mono ?_
              rintro e w9 ⟨v, rfl, AF, nAF, cAF, rfl, hlAF, hnAF, hmAF, hR, hb⟩
              have HLAF := hide hlAF
              have HR := hR.rd (B := w9.heap.size) fun b hb => hb.2
              clear hR hlAF
              have HK1 : Hid (Below w.heap.size w w9 ∧ Rd (Sh.list (Sh.int .i32)) w9 w9.heap.size A l ∧ Rd (Sh.list (Sh.int .i32)) w9 w9.heap.size B cs ∧ Rd (Sh.int .i64) w9 w9.heap.size AG (groupsOf l cs) ∧ Rd (Sh.list (Sh.int .i32)) w9 w9.heap.size AS (stepOfC l cs) ∧ Rd (Sh.list (Sh.int .i32)) w9 w9.heap.size AP (iterC l cs nP) ∧ Rd (Sh.list (Sh.int .i32)) w9 w9.heap.size AF (stepOfC l (iterC l cs nP))) := hide (⟨((stab_below w) w8 w9 HK.out.1 hb), ((stab_rd (Sh.list (Sh.int .i32)) A l) w8 w9 HK.out.2.1 hb), ((stab_rd (Sh.list (Sh.int .i32)) B cs) w8 w9 HK.out.2.2.1 hb), ((stab_rd (Sh.int .i64) AG (groupsOf l cs)) w8 w9 HK.out.2.2.2.1 hb), ((stab_rd (Sh.list (Sh.int .i32)) AS (stepOfC l cs)) w8 w9 HK.out.2.2.2.2.1 hb), ((stab_rd (Sh.list (Sh.int .i32)) AP (iterC l cs nP)) w8 w9 HK.out.2.2.2.2.2 hb), HR⟩)
              clear HK hb
              have HK := HK1
              clear HK1
              clear HR
              go_wp2_with fail
              refine (Stab.call (K := (fun W => Below w.heap.size w W ∧ Rd (Sh.list (Sh.int .i32)) W W.heap.size A l ∧ Rd (Sh.list (Sh.int .i32)) W W.heap.size B cs ∧ Rd (Sh.int .i64) W W.heap.size AG (groupsOf l cs) ∧ Rd (Sh.list (Sh.int .i32)) W W.heap.size AS (stepOfC l cs) ∧ Rd (Sh.list (Sh.int .i32)) W W.heap.size AP (iterC l cs nP) ∧ Rd (Sh.list (Sh.int .i32)) W W.heap.size AF (stepOfC l (iterC l cs nP)))) (stab_and (stab_below w) (stab_and (stab_rd (Sh.list (Sh.int .i32)) A l) (stab_and (stab_rd (Sh.list (Sh.int .i32)) B cs) (stab_and (stab_rd (Sh.int .i64) AG (groupsOf l cs)) (stab_and (stab_rd (Sh.list (Sh.int .i32)) AS (stepOfC l cs)) (stab_and (stab_rd (Sh.list (Sh.int .i32)) AP (iterC l cs nP)) (stab_rd (Sh.list (Sh.int .i32)) AF (stepOfC l (iterC l cs nP))))))))) HK.out (Below.refl _ w9) (.bool true) (calls_drew (refSameL_any AF AP nAF cAF m cP (stepOfC l (iterC l cs nP)) (iterC l cs nP) _ ((stab_rd (Sh.list (Sh.int .i32)) AF (stepOfC l (iterC l cs nP))) w9 w9 HK.out.2.2.2.2.2.2 (Below.refl _ w9)) HLAF.out hnAF hmAF ((stab_rd (Sh.list (Sh.int .i32)) AP (iterC l cs nP)) w9 w9 HK.out.2.2.2.2.2.1 (Below.refl _ w9)) HLP.out hnP hmP)) (congrArg Value.bool (decide_eq_true (hfin.out hlt9)))).mono ?_
              rintro e w10 ⟨rfl, hK⟩
              have HK' := hide hK
              clear hK HK
              have HK := HK'
              clear HK'
              go_wp2_with fail
              go_ret
              exact ⟨rfl, HK.out.1⟩
end Go.Proofs.Ytodlbbcgplhihag
