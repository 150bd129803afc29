/-
  The law RecallAll. Conditions: the slices read as lists of items, of numbers, of truths.
-/
import Derived.Test.YtggbokgacffamabRaR
import Derived.Test.YtggbokgacffamabRecP
namespace Go.Proofs.Ytggbokgacffamab
open Go.RowKit

theorem info_item : (Try.prog.info? 28).map (fun i => (i.zero, i.size, i.bytes)) = some (some (.agg #[.int .u64 0, .slice none 0 0, .int .u64 0]), 3, 40) := by kernel_rfl
set_option maxHeartbeats 8000000 in
set_option maxRecDepth 100000 in
theorem all_any (A B C : Option Addr) (n c m d r s : Nat) (l : List ItemP) (q : List Int) (bs : List Bool) (k : Int) (w : World) (hx : Rd SItem w w.heap.size A l) (hn : l.length = n) (hxi : ItsI l) (hid : ∀ it ∈ l, 0 ≤ it.1 ∧ it.1 ≤ 18446744073709551615) (hc : n ≤ c) (hm : c ≤ 9223372036854775807)
    (hy : Rd (Sh.int .i32) w w.heap.size B q) (hn' : q.length = m) (hyi : I32 q) (hd : m ≤ d) (hm' : d ≤ 9223372036854775807)
    (hz : Rd Sh.bool w w.heap.size C bs) (hr : bs.length = r) (hs : r ≤ s) (hm2 : s ≤ 9223372036854775807) :
    Calls Try.prog 3 #[.slice A n c, .slice B m d, .int .i64 k, .slice C r s] w fun e w' => e = .returned (.bool true) ∧ Below w.heap.size w w' := by
  rcases Nat.lt_or_ge 60 n with h6n | h6n
  · have b1 : decide ((60 : Int) < n) = true := decide_eq_true (by omega)
    clear hx hy hz
    go_enter Try.func3, Try.ntmps3
    go_wp2_with (go_at_call 4; refine (lives_any _).mono ?_; rintro e w1 ⟨rfl, hb⟩)
    go_ret
    exact ⟨rfl, hb⟩
  have bn : decide ((60 : Int) < n) = false := decide_eq_false (by omega)
  rcases Nat.lt_or_ge 100 m with h6m | h6m
  · have b1 : decide ((100 : Int) < m) = true := decide_eq_true (by omega)
    clear hx hy hz
    go_enter Try.func3, Try.ntmps3
    go_wp2_with (go_at_call 4; refine (lives_any _).mono ?_; rintro e w1 ⟨rfl, hb⟩)
    go_ret
    exact ⟨rfl, hb⟩
  have bm : decide ((100 : Int) < m) = false := decide_eq_false (by omega)
  rcases Nat.lt_or_ge 60 r with h6r | h6r
  · have b1 : decide ((60 : Int) < r) = true := decide_eq_true (by omega)
    clear hx hy hz
    go_enter Try.func3, Try.ntmps3
    go_wp2_with (go_at_call 4; refine (lives_any _).mono ?_; rintro e w1 ⟨rfl, hb⟩)
    go_ret
    exact ⟨rfl, hb⟩
  have br : decide ((60 : Int) < r) = false := decide_eq_false (by omega)
  have HX := hide hx
  have HY := hide hy
  have HZ := hide hz
  have Hn := hide hn
  have Hm := hide hn'
  have Hr := hide hr
  have HXI := hide hxi
  have HYI := hide hyi
  have HID := hide hid
  clear hx hy hz hn hn' hr hxi hyi hid
  go_enter Try.func3, Try.ntmps3
  go_upto_region 7 with (go_at_call 4; refine (lives_any _).mono ?_; rintro e w1 ⟨rfl, hb⟩; replace HX := hide (HX.out.step hb); replace HY := hide (HY.out.step hb); replace HZ := hide (HZ.out.step hb); have HW := hide hb; clear hb)
  clear bn bm br
  go_loopw [9, 10, 11, 36] (fun v _ _ i wr => ∃ (j : Nat) (cs : List Value), j ≤ n ∧ i = .int .i64 j ∧ Hid (wr.ownsRow w1.heap.size 28 3 v (selK l bs j).length cs) ∧ Hid (RowI w1 w1.heap.size (selK l bs j) cs) ∧ Hid (Below w1.heap.size w1 wr)) (fun _ _ _ i _ => n - (intOf i).toNat)
  case atStart => exact ⟨0, [], by omega, rfl, hide ⟨rfl, .inl ⟨rfl, rfl⟩⟩, hide (RowI.nil w1 w1.heap.size), hide (Below.refl _ _)⟩
  case round =>
    obtain ⟨j, cs, hj, rfl, HO, HRow, HB⟩ := hrel
    by_cases hlt : j < n
    · obtain ⟨ad, ⟨id, vec, tags⟩, V, cv, e2, hb8, hv, r0, r1, r2, hcv, hcm, hR⟩ := RdR.itcell HX.out (k := j) (by have := Hn.out; omega)
      subst e2
      simp only at r0 r1 r2 hR hcv
      have q0 := (HB.out.cell (p := ad.add (j * 3)) (by rw [block_of_add]; exact hb8)).trans r0
      have q1 := (HB.out.cell (p := ⟨(ad.add (j * 3)).block, (ad.add (j * 3)).off + 1, none⟩) (by show (ad.add (j * 3)).block < _; rw [block_of_add]; exact hb8)).trans r1
      have q2 := (HB.out.cell (p := ⟨(ad.add (j * 3)).block, (ad.add (j * 3)).off + 2, none⟩) (by show (ad.add (j * 3)).block < _; rw [block_of_add]; exact hb8)).trans r2
      have g0 : (0 : Int) ≤ j := by omega
      have g1 : (j : Int) < n := by omega
      have HV := hide hv
      have HIt := hide (item_rd (x := (id, vec, tags)) hcv hcm hR)
      have Hle := hide (selK_le l bs j)
      generalize hvn : vec.length = nv at *
      have HVN := hide hvn
      have HN := hide (Blk.new wr 28 #[.int .u64 id, .slice V nv cv, .int .u64 tags])
      have HB1 := hide (HB.out.trans ((below1 wr (.cells #[.int .u64 id, .slice V nv cv, .int .u64 tags] 28)).mono HB.out.size))
      have HO1 := hide (own_keep (w' := wr.alloc (.cells #[.int .u64 id, .slice V nv cv, .int .u64 tags] 28)) HO.out fun g hg => (below1 wr _).block g (HO.out.lt g hg).2)
      clear hv hR hvn r0 r1 r2
      go_upto_region 9 with fail
      clear q0 q1 q2
      generalize wr.alloc (.cells #[.int .u64 id, .slice V nv cv, .int .u64 tags] 28) = w2 at *
      have z0 : w2.cell? ⟨wr.heap.size, 0, none⟩ = some (.int .u64 id) := HN.out.cell 0
      have z1 : w2.cell? ⟨wr.heap.size, 1, none⟩ = some (.slice V nv cv) := HN.out.cell 1
      have z2 : w2.cell? ⟨wr.heap.size, 2, none⟩ = some (.int .u64 tags) := HN.out.cell 2
      generalize wr.heap.size = bx at *
      rcases Nat.lt_or_ge 100 nv with h1 | h1
      · have b1 : decide ((100 : Int) < nv) = true := decide_eq_true (by omega)
        have b0 : decide (100 < nv) = true := decide_eq_true (by omega)
        go_wp2
        go_ret
        exact ⟨rfl, Below.step HW.out HB1.out⟩
      have b1 : decide ((100 : Int) < nv) = false := decide_eq_false (by omega)
      have b0 : decide (100 < nv) = false := decide_eq_false (by omega)
      by_cases hjr : j < r
      · obtain ⟨ad3, bv, e3, hb3, hbv, s0⟩ := RdR.bcell HZ.out (k := j) (by have := Hr.out; omega)
        subst e3
        have s1 : w2.cell? (ad3.add j) = some (.bool bv) := (HB1.out.cell (by rw [block_of_add]; exact hb3)).trans s0
        have c1 : decide ((j : Int) < r) = true := decide_eq_true (by omega)
        have c0 : decide (j < r) = true := decide_eq_true hjr
        have c2 : (j : Int) < r := by omega
        clear s0
        cases bv with
        | true =>
          have HS := hide (selK_yes HV.out hbv)
          have HRow1 := hide (show RowI w1 w1.heap.size (selK l bs (j + 1)) (cs ++ [.int .u64 id, .slice V nv cv, .int .u64 tags]) by
            have h := HRow.out.snoc HIt.out
            rw [HS.out]; exact h)
          clear hbv
          go_wp2_with (at_builtin; refine wpList_append_elem rfl _ _ 22 rfl w1.heap.size Try.underlying22 info_item rfl (by decide) _ (selK l bs j).length cs rfl HO1.out _ _ rfl rfl (by simp [Value.oneCell']) (by simp only [maxLen]; have := Hle.out; omega) (by have := Hle.out; omega) HB1.out.size ?_; intro v' w9 hown9 hgr9 _; have HO9 := hide hown9; have HB9 := hide (below_own HB1.out HO1.out HB1.out.size hgr9); clear hown9 hgr9)
          go_roundw
          case rel => exact ⟨j + 1, cs ++ [.int .u64 id, .slice V nv cv, .int .u64 tags], by omega, by go_num, hide (by rw [HS.out, List.length_append]; exact HO9.out), HRow1, HB9⟩
          case measure => simp [intOf]; omega
        | false =>
          have HS := hide (selK_no (l := l) (s := bs) (k := j) (by rw [hbv]; simp))
          clear hbv
          go_wp2
          go_roundw
          case rel => exact ⟨j + 1, cs, by omega, by go_num, by rw [HS.out]; exact HO1, by rw [HS.out]; exact HRow, HB1⟩
          case measure => simp [intOf]; omega
      · have c1 : decide ((j : Int) < r) = false := decide_eq_false (by omega)
        have c0 : decide (j < r) = false := decide_eq_false hjr
        have c2 : (r : Int) ≤ j := by omega
        have HS := hide (selK_no (l := l) (s := bs) (k := j) (by rw [List.getElem?_eq_none (by have := Hr.out; omega)]; simp))
        go_wp2
        go_roundw
        case rel => exact ⟨j + 1, cs, by omega, by go_num, by rw [HS.out]; exact HO1, by rw [HS.out]; exact HRow, HB1⟩
        case measure => simp [intOf]; omega
    · obtain rfl : j = n := by omega
      have HSub := hide (show (selK l bs j).Sublist l from (selK_sub l bs j).trans (List.take_sublist _ _))
      obtain ⟨Ap, cp, hvp, hcp, hmp⟩ := own_form HO.out
      subst hvp
      have HRp := hide (HRow.out.rd (Nat.le_refl _) HB.out HO.out)
      have HPI := hide (show ItsI (selK l bs j) from fun it h => HXI.out it (HSub.out.subset h))
      have HPD := hide (show ∀ it ∈ selK l bs j, 0 ≤ it.1 ∧ it.1 ≤ 18446744073709551615 from fun it h => HID.out it (HSub.out.subset h))
      have HPle := hide (selK_le l bs j)
      have HX8 := hide (HX.out.step HB.out)
      have HY8 := hide (HY.out.step HB.out)
      have HW8 := hide (Below.step HW.out HB.out)
      clear HX HY HW HZ HO HRow HB
      generalize selK l bs j = part at *
      generalize hpl : part.length = np at *
      have Hpl := hide hpl
      clear hpl
      generalize wr = w8 at *
      have HWT := hide (fun n => wf_hits (q := q) (mask := 0) HID.out n)
      have HWF := hide (fun n => wf_hits (q := q) (mask := 0) HPD.out n)
      have HORD := hide (fun i x y => hits_order (q := q) (mask := 0) HSub.out (i := i) (x := x) (y := y))
      have HLE := hide (hits_sub_le (q := q) (mask := 0) HSub.out)
      have HHL := hide (hitsM_le q 0 l)
      go_wp2_with fail
      refine (search_any A B j c m d l q 0 k w8 HX8.out Hn.out HXI.out hc hm HY8.out Hm.out HYI.out hd hm' (by omega)).mono ?_
      rintro e w3 ⟨v, rfl, hN⟩
      obtain ⟨At, nt, ct, rfl, hlt', hct, hmt, hrt, hb⟩ := hN
      have HRt := hide (hrt.rd (B := w3.heap.size) fun b hb => hb.2)
      replace HRp := hide (HRp.out.step hb)
      replace HY8 := hide (HY8.out.step hb)
      replace HW8 := hide (Below.step HW8.out hb)
      clear hrt hb HX8
      go_wp2_with fail
      refine (search_any Ap B np cp m d part q 0 k w3 HRp.out Hpl.out HPI.out hcp hmp HY8.out Hm.out HYI.out hd hm' (by have := HPle.out; omega)).mono ?_
      rintro e w4 ⟨v, rfl, hN⟩
      obtain ⟨Af, nf, cf, rfl, hlf, hcf, hmf, hrf, hb⟩ := hN
      have HRf := hide (hrf.rd (B := w4.heap.size) fun b hb => hb.2)
      replace HRt := hide (HRt.out.step hb)
      replace HW8 := hide (Below.step HW8.out hb)
      clear hrf hb HRp HY8
      generalize hitsM q 0 l = H at *
      generalize hitsM q 0 part = P at *
      have et : lstN k H.length = nt := by rw [List.length_take] at hlt'; have := lstN_le k H.length; omega
      have ef : lstN k P.length = nf := by rw [List.length_take] at hlf; have := lstN_le k P.length; omega
      rw [et] at HRt hlt'
      rw [ef] at HRf hlf
      have htk : fstN k nt = nt := fst_all (by rw [← et]; unfold lstN; omega)
      have hfk : fstN k nf = nf := fst_all (by rw [← ef]; unfold lstN; omega)
      have hft : nf ≤ nt := by rw [← et, ← ef]; have := HLE.out; unfold lstN; omega
      have hnt : nt ≤ 60 := by have := HHL.out; have := Hn.out; have := lstN_le k H.length; omega
      replace HWT := hide (HWT.out nt)
      replace HWF := hide (HWF.out nf)
      have HOR := hide (show ∀ (i : Nat) (x y : Hit), (P.take nf)[i]? = some x → (H.take nt)[i]? = some y → hitLt x y = false from fun i x y h1 h2 => by
        rw [List.getElem?_take] at h1 h2
        split at h1
        · split at h2
          · exact HORD.out i x y h1 h2
          · cases h2
        · cases h1)
      have Hlt := hide hlt'
      have Hlf := hide hlf
      clear hlt' hlf et ef HORD HLE HHL HSub HPI HPD HPle
      generalize H.take nt = T at *
      generalize P.take nf = F at *
      have HCN := hide (show ∀ W, Rd SH W W.heap.size Af F → Rd SH W W.heap.size At T → Calls Try.prog 6 #[.slice Af nf cf, .slice At nt ct, .int .i64 k] W fun e w' => e = .returned (.tuple #[.int .i64 (cntR F T : Nat), .int .i64 (nt : Nat)]) ∧ Below W.heap.size W w' from fun W h1 h2 => by
        have h3 := eRCount_any Af At nf cf nt ct F T k W h1 Hlf.out hcf hmf HWF.out h2 Hlt.out hct hmt HWT.out
        rw [htk, hfk, List.take_of_length_le (by have := Hlf.out; omega), List.take_of_length_le (by have := Hlt.out; omega)] at h3
        exact h3)
      have HBH := hide (show ∀ (W : World) (A' : Option Addr) (n' c' : Nat) (G : List Hit), n' ≤ nt → fstN k n' = n' → G.length = n' → n' ≤ c' → c' ≤ 9223372036854775807 → (∀ h ∈ G, wfH h) → (∀ (i : Nat) (x y : Hit), T[i]? = some x → G[i]? = some y → x.1 ≤ y.1) → Rd SH W W.heap.size At T → Rd SH W W.heap.size A' G → Calls Try.prog 10 #[.slice At nt ct, .slice A' n' c', .int .i64 k] W fun e w' => e = .returned (.int .u64 0) ∧ Below W.heap.size W w' from fun W A' n' c' G a1 a2 a3 a4 a5 a6 a7 h1 h2 => by
        have h3 := behind_any At A' nt ct n' c' T G k W h1 Hlt.out hct hmt HWT.out h2 a3 a4 a5 a6
        rw [htk, a2, beh_zero a7 (min nt n') (by have := Hlt.out; omega) (by omega)] at h3
        exact h3.mono fun _ _ ⟨h, hd⟩ => ⟨h, hd.below⟩)
      have HPER := hide (fun h => per_iff (n := cntR F T) (o := nt) h (by omega))
      have HSC := hide (fun h => score_one (n := cntR F T) (o := nt) h (by omega))
      have HCL := hide (show cntR F T ≤ nt by have := cntR_le F T; have := Hlt.out; omega)
      have HMC := hide (miss_cnt F T)
      go_wp2_with fail
      refine (HCN.out w4 HRf.out HRt.out).mono ?_
      rintro e w5 ⟨rfl, hb⟩
      generalize cntR F T = N at *
      replace HRt := hide (HRt.out.step hb)
      replace HRf := hide (HRf.out.step hb)
      replace HW8 := hide (Below.step HW8.out hb)
      clear hb HCN
      go_wp2_with fail
      refine (ePermille_any N nt w5).mono ?_
      rintro e w6 ⟨rfl, hb⟩
      have hp := (HPER.out HCL.out).1
      have HPI := hide (HPER.out HCL.out).2
      have HSC1 := hide (HSC.out HCL.out)
      generalize perF (hA N nt) (hB nt) = pv at *
      replace HRt := hide (HRt.out.step hb)
      replace HRf := hide (HRf.out.step hb)
      replace HW8 := hide (Below.step HW8.out hb)
      clear hb HPER HSC
      have hNn := HCL.out
      obtain ⟨eb, heb⟩ : ∃ eb, eb = decide (N = nt) := ⟨_, rfl⟩
      have t1 : ((N : Int) == nt) = eb := by rw [heb, Bool.eq_iff_iff, beq_iff_eq, decide_eq_true_eq]; omega
      have t2 : (pv == 1000) = eb := by
        rw [heb, Bool.eq_iff_iff, beq_iff_eq, decide_eq_true_eq]; exact HPI.out
      have HT3 := hide (show ∀ z : Nat, N + z = T.length → ((z : Int) == 0) = eb from fun z hz => by
        rw [heb, Bool.eq_iff_iff, beq_iff_eq, decide_eq_true_eq]; have := Hlt.out; omega)
      have t4 : decide ((N : Int) < 0) = false := decide_eq_false (by omega)
      have t5 : decide ((nt : Int) < N) = false := decide_eq_false (by omega)
      have t50 : decide (nt < N) = false := decide_eq_false (by omega)
      have t6 : ((nt : Int) != nt) = false := by simp
      have t7 : decide (pv < 0) = false := decide_eq_false (by omega)
      have t8 : decide ((1000 : Int) < pv) = false := decide_eq_false (by omega)
      have t9 : (eb != eb) = false := by simp
      clear heb HPI hp hNn
      go_wp2_with fail
      refine (eMissing_any Af At nf cf nt ct F T w6 HRf.out Hlf.out hcf hmf HWF.out HRt.out Hlt.out hct hmt (by omega) HWT.out).mono ?_
      rintro e w7 ⟨v, rfl, Am, nm, cm, rfl, hlm, hcm2, hmm, _, hb⟩
      have t3 : ((nm : Int) == 0) = eb := HT3.out nm (by rw [← hlm]; exact HMC.out)
      replace HRt := hide (HRt.out.step hb)
      replace HRf := hide (HRf.out.step hb)
      replace HW8 := hide (Below.step HW8.out hb)
      have u1 : decide ((nt : Int) < nf) = false := decide_eq_false (by omega)
      have u0 : decide (nt < nf) = false := decide_eq_false (by omega)
      have hft2 : nf ≤ nt := hft
      clear hb hlm
      go_upto_region 22 with fail
      clear t1 t2 t3 t4 t5 t50 t6 t7 t8 t9 u1 u0
      go_loopw [17, 18, 125] (fun _ _ i wr => ∃ j : Nat, j ≤ nf ∧ i = .int .i64 j ∧ Hid (Below w7.heap.size w7 wr)) (fun _ _ i _ => nf - (intOf i).toNat)
      case atStart => exact ⟨0, by omega, rfl, hide (Below.refl _ _)⟩
      case round =>
        obtain ⟨i, hi, rfl, HB⟩ := hrel
        by_cases hlt : i < nf
        · obtain ⟨ad, ⟨x1, x2⟩, e1, _, hv, q0, q1⟩ := (HRf.out.step HB.out).hcell (k := i) (by have := Hlf.out; omega)
          obtain ⟨ad2, ⟨y1, y2⟩, e2, hb2, hv2, s0, s1⟩ := (HRt.out.step HB.out).hcell (k := i) (by have := Hlt.out; omega)
          subst e1
          subst e2
          simp only at q0 q1 s0 s1
          have g0 : (0 : Int) ≤ i := by omega
          have g1 : (i : Int) < nf := by omega
          have g2 : (i : Int) < nt := by omega
          have HP := hide (HOR.out i _ _ hv hv2)
          have HN := hide (Blk.new wr 36 #[.int .u64 x1, .int .u64 x2])
          have HB1 := hide (Below.step HB.out (below1 wr (.cells #[.int .u64 x1, .int .u64 x2] 36)))
          have HQ := hide (show (wr.alloc (.cells #[.int .u64 x1, .int .u64 x2] 36)).cell? (ad2.add (i * 2)) = some (.int .u64 y1) ∧ (wr.alloc (.cells #[.int .u64 x1, .int .u64 x2] 36)).cell? ⟨(ad2.add (i * 2)).block, (ad2.add (i * 2)).off + 1, none⟩ = some (.int .u64 y2) from
            ⟨((below1 wr _).cell (by rw [block_of_add]; exact hb2)).trans s0, ((below1 wr _).cell (p := ⟨(ad2.add (i * 2)).block, (ad2.add (i * 2)).off + 1, none⟩) (by show (ad2.add (i * 2)).block < _; rw [block_of_add]; exact hb2)).trans s1⟩)
          have hb3 : ad2.block < (wr.alloc (.cells #[.int .u64 x1, .int .u64 x2] 36)).heap.size := by simp; omega
          have HHC := hide (show ∀ W, Calls Try.prog 9 #[.agg #[.int .u64 x1, .int .u64 x2], .agg #[.int .u64 y1, .int .u64 y2]] W fun e w' => e = .returned (.bool false) ∧ Below W.heap.size W w' from fun W => by
            have h3 := hit_any (x1, x2) (y1, y2) W
            rw [HP.out] at h3; exact h3)
          clear hv hv2
          go_upto_region 24 with fail
          clear q0 q1 s0 s1
          generalize wr.alloc (.cells #[.int .u64 x1, .int .u64 x2] 36) = w9 at *
          generalize wr.heap.size = bx at *
          refine wp_region_held_drew (S := Below w9.heap.size w9) (by kernel_rfl) (Below.refl _ _).drew (fun hHeld => ?_)
          generalize World.drew _ = W0 at *
          refine wpAnyH_take (i := 0) (v := .agg #[.int .u64 x1, .int .u64 x2]) rfl (by kernel_rfl) (by kernel_rfl) (by kernel_rfl) (fun _ _ _ h => h) (Or.inl ⟨by rfl, fun W hS => by have hl := HN.out.lt; have hk2 : ∀ j, W.cell? ⟨bx, j, none⟩ = w9.cell? ⟨bx, j, none⟩ := fun j => Below.cell hS hl; have z0 : W.cell? ⟨bx, 0, none⟩ = some (.int .u64 x1) := (hk2 0).trans (HN.out.cell 0); have z1 : W.cell? ⟨bx, 1, none⟩ = some (.int .u64 x2) := (hk2 1).trans (HN.out.cell 1); clear hk2 hl; clear hS hHeld; go_simp⟩) hHeld ?_
          try simp only [Act.put, List.setIfInBounds_toArray, List.set_cons_zero, List.set_cons_succ, List.getElem_toArray, List.getElem_cons_zero, List.getElem_cons_succ]
          refine wpAnyH_take (i := 1) (v := .slice (some ad2) nt ct) rfl (by kernel_rfl) (by kernel_rfl) (by kernel_rfl) (fun _ _ _ h => h) (Or.inl ⟨by rfl, fun W hS => by clear hS hHeld; go_simp⟩) hHeld ?_
          try simp only [Act.put, List.setIfInBounds_toArray, List.set_cons_zero, List.set_cons_succ, List.getElem_toArray, List.getElem_cons_zero, List.getElem_cons_succ]
          refine wpAnyH_take (i := 2) (v := .int .i64 i) rfl (by kernel_rfl) (by kernel_rfl) (by kernel_rfl) (fun _ _ _ h => h) (Or.inl ⟨by rfl, fun W hS => by clear hS hHeld; go_simp⟩) hHeld ?_
          try simp only [Act.put, List.setIfInBounds_toArray, List.set_cons_zero, List.set_cons_succ, List.getElem_toArray, List.getElem_cons_zero, List.getElem_cons_succ]
          refine wpAnyH_take (i := 3) (v := .pointer (some (ad2.add (i * 2)))) rfl (by kernel_rfl) (by kernel_rfl) (by kernel_rfl) (fun _ _ _ h => h) (Or.inl ⟨by rfl, fun W hS => by clear hS hHeld; go_simp⟩) hHeld ?_
          try simp only [Act.put, List.setIfInBounds_toArray, List.set_cons_zero, List.set_cons_succ, List.getElem_toArray, List.getElem_cons_zero, List.getElem_cons_succ]
          refine wpAnyH_take (i := 4) (v := .agg #[.int .u64 y1, .int .u64 y2]) rfl (by kernel_rfl) (by kernel_rfl) (by kernel_rfl) (fun _ _ _ h => h) (Or.inl ⟨by rfl, fun W hS => by have hk2 : ∀ p : Addr, p.block < w9.heap.size → W.cell? p = w9.cell? p := fun p hp => Below.cell hS hp; have z0 := (hk2 (ad2.add (i * 2)) (by rw [block_of_add]; exact hb3)).trans HQ.out.1; have z1 := (hk2 ⟨(ad2.add (i * 2)).block, (ad2.add (i * 2)).off + 1, none⟩ (by show (ad2.add (i * 2)).block < _; rw [block_of_add]; exact hb3)).trans HQ.out.2; clear hk2; clear hS hHeld; go_simp⟩) hHeld ?_
          try simp only [Act.put, List.setIfInBounds_toArray, List.set_cons_zero, List.set_cons_succ, List.getElem_toArray, List.getElem_cons_zero, List.getElem_cons_succ]
          refine wpAnyH_ready (rs := [5]) (by kernel_rfl) (by simp) ?_
          refine AllReadyH.cons rfl (fun K hK => ?_) AllReadyH.nil
          try simp only [Act.put, List.setIfInBounds_toArray, List.set_cons_zero, List.set_cons_succ, List.getElem_toArray, List.getElem_cons_zero, List.getElem_cons_succ]
          go_simp
          go_at_call 9
          refine (HHC.out _).mono ?_
          rintro e W1 ⟨rfl, hb⟩
          refine hK.out _ _ (Below.step hHeld hb) (fun hHeld2 => ?_)
          clear hK K hHeld
          have hHeld := hHeld2
          clear hHeld2
          try simp only [Act.put, List.setIfInBounds_toArray, List.set_cons_zero, List.set_cons_succ, List.getElem_toArray, List.getElem_cons_zero, List.getElem_cons_succ]
          clear hb
          refine wpAnyH_done (by kernel_rfl) ?_ _
          go_wp2
          go_roundw
          case rel => exact ⟨i + 1, by omega, by go_num, hide (Below.step HB1.out hHeld)⟩
          case measure => simp [intOf]; omega
        · obtain rfl : i = nf := by omega
          have HB8 := HB
          go_wp2_with fail
          refine (HBH.out wr At nt ct T (Nat.le_refl _) htk Hlt.out hct hmt HWT.out (fun i x y h1 h2 => by rw [h1] at h2; injection h2 with h2; subst h2; exact Int.le_refl _) (HRt.out.step HB8.out) (HRt.out.step HB8.out)).mono ?_
          rintro e w10 ⟨rfl, hb⟩
          have HB10 := hide (Below.step HB8.out hb)
          clear hb
          go_wp2_with fail
          refine (HBH.out w10 Af i cf F hft2 hfk Hlf.out hcf hmf HWF.out (fun i x y h1 h2 => by have := HOR.out i y x h2 h1; rw [not_hit] at this; omega) (HRt.out.step HB10.out) (HRf.out.step HB10.out)).mono ?_
          rintro e w11 ⟨rfl, hb⟩
          have HB11 := hide (Below.step HB10.out hb)
          have HN := hide (Blk.new w11 40 #[.int .i64 N, .int .i64 nt])
          have HB12 := hide (Below.step HB11.out (below1 w11 (.cells #[.int .i64 N, .int .i64 nt] 40)))
          clear hb
          go_wp2_with fail
          generalize w11.alloc (.cells #[.int .i64 N, .int .i64 nt] 40) = w12 at *
          refine (eScore_any (some ⟨w11.heap.size, 0, none⟩) 1 1 [((N : Int), (nt : Int))] w12 (lit_pairs _ HN.out HN.out.lt rfl) rfl (Nat.le_refl _) (by omega)).mono ?_
          rintro e w13 ⟨rfl, hb⟩
          rw [HSC1.out]
          have hpv : (pv == pv) = true := by simp
          go_wp2
          go_ret
          exact ⟨rfl, Below.step HW8.out (Below.step HB12.out hb)⟩
end Go.Proofs.Ytggbokgacffamab
