/-
  The law ClockJoins, its walk. No condition.
-/
import Derived.Test.YtoodcfldnojkjaaClkJ
namespace Go.Proofs.Ytoodcfldnojkjaa
open Go.RowKit

def Keeps (w : World) (Aj : Option Addr) (J : List Int) (wx : World) : Prop := Below w.heap.size w wx ∧ Ints wx wx.heap.size Aj J

set_option maxHeartbeats 8000000 in
set_option maxRecDepth 100000 in
theorem clockJoins_any (A B C : Option Addr) (na ca nb cb nc cc : Nat) (xs ys zs : List Int) (i : Int) (w : World) (Ja : Ints w w.heap.size A xs) (hla : xs.length = na) (hna : na ≤ ca) (hma : ca ≤ 9223372036854775807)
    (Jb : Ints w w.heap.size B ys) (hlb : ys.length = nb) (hnb : nb ≤ cb) (hmb : cb ≤ 9223372036854775807) (Jc : Ints w w.heap.size C zs) (hlc : zs.length = nc) (hnc : nc ≤ cc) (hmc : cc ≤ 9223372036854775807) :
    Calls Try.prog 4 #[.slice A na ca, .slice B nb cb, .slice C nc cc, .int .i64 i] w fun e w' => e = .returned (.bool true) ∧ Below w.heap.size w w' := by
  have La := hide hla
  have Lb := hide hlb
  have Lc := hide hlc
  clear hla hlb hlc
  have hP : ∀ l : List Int, ∀ i, 0 ≤ clkAt l i := fun l i => pos_pos _
  have HP := hide hP
  have HU1 := hide (up_left (hP xs) (hP ys))
  have HU2 := hide (up_right (hP xs) (hP ys))
  have HU3 := hide (fun h1 h2 => up_least (h := clkAt zs) (hP xs) (hP ys) h1 h2)
  clear hP
  have three : 100 < (na : Int) ∨ ((na : Int) ≤ 100 ∧ 100 < (nb : Int)) ∨ ((na : Int) ≤ 100 ∧ (nb : Int) ≤ 100 ∧ 100 < (nc : Int)) ∨ ((na : Int) ≤ 100 ∧ (nb : Int) ≤ 100 ∧ (nc : Int) ≤ 100) := by omega
  rcases three with h1 | ⟨h1, h2⟩ | ⟨h1, h2, h3⟩ | ⟨h1, h2, h3⟩
  iterate 3
    · go_enter Try.func4, Try.ntmps4
      go_wp2_with fail
      refine (lives_any _).mono ?_
      rintro e w1 ⟨rfl, hb⟩
      go_wp2_with fail
      go_ret
      exact ⟨rfl, hb⟩
  go_enter Try.func4, Try.ntmps4
  go_upto_region 6 with (first
    | (go_at_call 5; refine (lives_any _).mono ?_; rintro e w1 ⟨rfl, hb⟩)
    | (go_at_call 13; ((with_reducible refine (join_any _ _ _ _ _ _ xs ys _ (Ja.at_world hb) La.out hna hma (Jb.at_world hb) Lb.out hnb hmb).mono ?_); rintro e w2 ⟨Aj, nj, cj, rfl, hlj, hnj, hmj, Ij, hc⟩; have Lj := hide hlj; clear hlj; have hb := Below.step hb hc; have hj := Below.refl w2.heap.size w2; clear hc)))
  go_cut [57] (fun s wx => s = .bool false ∧ Keeps w Aj (shortOf (withOf (clkAt xs) (clkAt ys))) wx)
  case first =>
    obtain ⟨p, Hp⟩ : ∃ p, Hid (anyLt (clkAt zs) (clkAt xs) 65 = p) := ⟨_, rfl⟩
    obtain ⟨q, Hq⟩ : ∃ q, Hid (anyLt (clkAt zs) (clkAt ys) 65 = q) := ⟨_, rfl⟩
    cases p <;> cases q
    all_goals
      go_wp2_with (go_at_call 17; first
        | ((with_reducible refine (up_true xs (shortOf (withOf (clkAt xs) (clkAt ys))) HU1.out _ (Ja.at_world hb) La.out hna hma (Ij.at_world hj) Lj.out hnj hmj).mono ?_); rintro e w3 ⟨rfl, hc⟩; have hj := Below.step hj hc; have hb := Below.step hb hc; clear hc)
        | ((with_reducible refine (up_true ys (shortOf (withOf (clkAt xs) (clkAt ys))) HU2.out _ (Jb.at_world hb) Lb.out hnb hmb (Ij.at_world hj) Lj.out hnj hmj).mono ?_); rintro e w3 ⟨rfl, hc⟩; have hj := Below.step hj hc; have hb := Below.step hb hc; clear hc)
        | ((with_reducible refine (up_true xs zs Hp.out _ (Ja.at_world hb) La.out hna hma (Jc.at_world hb) Lc.out hnc hmc).mono ?_); rintro e w3 ⟨rfl, hc⟩; have hj := Below.step hj hc; have hb := Below.step hb hc; clear hc)
        | ((with_reducible refine (up_false xs zs Hp.out _ (Ja.at_world hb) La.out hna hma (Jc.at_world hb) Lc.out hnc hmc).mono ?_); rintro e w3 ⟨rfl, hc⟩; have hj := Below.step hj hc; have hb := Below.step hb hc; clear hc)
        | ((with_reducible refine (up_true ys zs Hq.out _ (Jb.at_world hb) Lb.out hnb hmb (Jc.at_world hb) Lc.out hnc hmc).mono ?_); rintro e w3 ⟨rfl, hc⟩; have hj := Below.step hj hc; have hb := Below.step hb hc; clear hc)
        | ((with_reducible refine (up_false ys zs Hq.out _ (Jb.at_world hb) Lb.out hnb hmb (Jc.at_world hb) Lc.out hnc hmc).mono ?_); rintro e w3 ⟨rfl, hc⟩; have hj := Below.step hj hc; have hb := Below.step hb hc; clear hc)
        | ((with_reducible refine (up_true (shortOf (withOf (clkAt xs) (clkAt ys))) zs (HU3.out Hp.out Hq.out) _ (Ij.at_world hj) Lj.out hnj hmj (Jc.at_world hb) Lc.out hnc hmc).mono ?_); rintro e w3 ⟨rfl, hc⟩; have hj := Below.step hj hc; have hb := Below.step hb hc; clear hc))
      go_meet
      case rel => exact ⟨rfl, hb, Ij.at_world hj⟩
  case rest =>
    obtain ⟨rfl, hb, Ij⟩ := hcut
    have hj := Below.refl wc.heap.size wc
    go_upto_region 9 with (go_at_call 15; first
      | ((with_reducible refine (compare_any _ _ _ _ _ _ xs ys _ (Ja.at_world hb) La.out hna hma (Jb.at_world hb) Lb.out hnb hmb).mono ?_); rintro e w3 ⟨rfl, hc⟩; have hj := Below.step hj hc; have hb := Below.step hb hc; clear hc)
      | ((with_reducible refine (compare_any _ _ _ _ _ _ ys xs _ (Jb.at_world hb) Lb.out hnb hmb (Ja.at_world hb) La.out hna hma).mono ?_); rintro e w3 ⟨rfl, hc⟩; have hj := Below.step hj hc; have hb := Below.step hb hc; clear hc))
    go_cut [10, 11, 96] (fun _ _ s wx => s = .bool false ∧ Keeps w Aj (shortOf (withOf (clkAt xs) (clkAt ys))) wx)
    case first =>
      obtain ⟨l, Hl⟩ : ∃ l, Hid (anyLt (clkAt xs) (clkAt ys) 65 = l) := ⟨_, rfl⟩
      obtain ⟨g, Hg⟩ : ∃ g, Hid (anyLt (clkAt ys) (clkAt xs) 65 = g) := ⟨_, rfl⟩
      unfold cmp
      rw [Hl.out, Hg.out]
      cases l <;> cases g
      all_goals
        simp only [cmpOf, Bool.and_self, Bool.and_false, Bool.and_true, Bool.false_eq_true, if_true, if_false]
        go_wp2_with fail
        go_meet
        case rel => exact ⟨rfl, hb, Ij.at_world hj⟩
    case rest =>
      obtain ⟨rfl, hb, Ij⟩ := hcut
      rename_i wd
      have hj := Below.refl wc.heap.size wc
      go_upto_region 12 with (go_at_call 11; ((with_reducible refine (tick_any _ _ _ xs _ _ (Ja.at_world hb) La.out hna hma).mono ?_); rintro e w3 ⟨At, nt, ct, rfl, hlt, hnt, hmt, It, hc⟩; have Lt := hide hlt; clear hlt; have hj := Below.step hj hc; have hb := Below.step hb hc; clear hc; have ht := Below.refl w3.heap.size w3))
      go_cut [13] (fun s wx => s = .bool (ticksB (clkAt xs) i) ∧ Below w.heap.size w wx ∧ Ints wx wx.heap.size Aj (shortOf (withOf (clkAt xs) (clkAt ys))) ∧ Ints wx wx.heap.size At (shortOf (stepOf (clkAt xs) i)))
      case first =>
        have cases4 : i < 0 ∨ (0 ≤ i ∧ 64 < i) ∨ (0 ≤ i ∧ i ≤ 64 ∧ 4611686018427387904 ≤ atSpec (clkAt xs) i) ∨ (0 ≤ i ∧ i ≤ 64 ∧ atSpec (clkAt xs) i < 4611686018427387904) := by omega
        rcases cases4 with c1 | ⟨c1, c2⟩ | ⟨c1, c2, c3⟩ | ⟨c1, c2, c3⟩
        iterate 3
          · have hT := decide_eq_false (p := 0 ≤ i ∧ i ≤ 64 ∧ atSpec (clkAt xs) i < 4611686018427387904) (by omega)
            have HT := hide hT
            clear hT
            go_wp2_with (go_at_call 6; ((with_reducible refine (at_any _ _ _ xs _ _ (Ja.at_world hb) La.out hna hma).mono ?_); rintro e w4 ⟨rfl, hc⟩; have ht := Below.step ht hc; have hj := Below.step hj hc; have hb := Below.step hb hc; clear hc))
            go_meet
            case rel => exact ⟨by (rw [ticksB, HT.out]) <;> (rw [decide_eq_false (by omega)]), hb, Ij.at_world hj, It.at_world ht⟩
        · have hT := decide_eq_true (p := 0 ≤ i ∧ i ≤ 64 ∧ atSpec (clkAt xs) i < 4611686018427387904) ⟨c1, c2, c3⟩
          have HT := hide hT
          clear hT
          go_wp2_with (go_at_call 6; ((with_reducible refine (at_any _ _ _ xs _ _ (Ja.at_world hb) La.out hna hma).mono ?_); rintro e w4 ⟨rfl, hc⟩; have ht := Below.step ht hc; have hj := Below.step hj hc; have hb := Below.step hb hc; clear hc))
          go_meet
          case rel => exact ⟨by (rw [ticksB, HT.out]) <;> (rw [decide_eq_false (by omega)]), hb, Ij.at_world hj, It.at_world ht⟩
      case rest =>
        obtain ⟨rfl, hb, Ij, It⟩ := hcut
        have hj := Below.refl wc.heap.size wc
        have ht := Below.refl wc.heap.size wc
        go_upto_region 13 with fail
        go_cut [13, 138] (fun _ s wx => s = .bool false ∧ Keeps w Aj (shortOf (withOf (clkAt xs) (clkAt ys))) wx)
        case first =>
          obtain ⟨T, HT⟩ : ∃ T, Hid (ticksB (clkAt xs) i = T) := ⟨_, rfl⟩
          rw [HT.out]
          cases T
          · have HC := hide (ticks_no (HP.out xs) HT.out)
            go_wp2_with (first
              | (go_at_call 15; refine (cmp_lit xs (shortOf (stepOf (clkAt xs) i)) 0 HC.out _ (Ja.at_world hb) La.out hna hma (It.at_world ht) Lt.out hnt hmt).mono ?_; rintro e w4 ⟨rfl, hc⟩; have ht := Below.step ht hc; have hj := Below.step hj hc; have hb := Below.step hb hc; clear hc))
            go_meet
            case rel => exact ⟨rfl, hb, Ij.at_world hj⟩
          · obtain ⟨e1, e2, i0, i64, a0, a1⟩ := ticks_yes (HP.out xs) HT.out
            have HC := hide e1
            have HA := hide e2
            clear e1 e2
            go_wp2_with (first
              | (go_at_call 15; refine (cmp_lit xs (shortOf (stepOf (clkAt xs) i)) (-1) HC.out _ (Ja.at_world hb) La.out hna hma (It.at_world ht) Lt.out hnt hmt).mono ?_; rintro e w4 ⟨rfl, hc⟩; have ht := Below.step ht hc; have hj := Below.step hj hc; have hb := Below.step hb hc; clear hc)
              | (go_at_call 6; first
                | ((with_reducible refine (at_lit (shortOf (stepOf (clkAt xs) i)) i (atSpec (clkAt xs) i + 1) HA.out _ (It.at_world ht) Lt.out hnt hmt).mono ?_); rintro e w4 ⟨rfl, hc⟩; have ht := Below.step ht hc; have hj := Below.step hj hc; have hb := Below.step hb hc; clear hc)
                | ((with_reducible refine (at_any _ _ _ xs _ _ (Ja.at_world hb) La.out hna hma).mono ?_); rintro e w4 ⟨rfl, hc⟩; have ht := Below.step ht hc; have hj := Below.step hj hc; have hb := Below.step hb hc; clear hc)))
            go_meet
            case rel => exact ⟨rfl, hb, Ij.at_world hj⟩
        case rest =>
          obtain ⟨rfl, hb, Ij⟩ := hcut
          have hj := Below.refl wc.heap.size wc
          go_wp2_with fail
          refine (join_any _ _ _ _ _ _ ys xs _ (Jb.at_world hb) Lb.out hnb hmb (Ja.at_world hb) La.out hna hma).mono ?_; rintro e w_ ⟨Ap, np, cp, rfl, hl, hnp, hmp, Ip, hc⟩; have hb := Below.step hb hc; have hj := Below.step hj hc; clear hc; obtain ⟨wv, hwv⟩ : ∃ wv, wv = w_ := ⟨_, rfl⟩; subst hwv; have hp := Below.refl wv.heap.size wv
          rw [join_comm] at hl Ip
          have Lp := hide hl; clear hl
          go_wp2_with fail
          refine (same_lit (shortOf (withOf (clkAt xs) (clkAt ys))) (shortOf (withOf (clkAt xs) (clkAt ys))) _ (Ij.at_world hj) Lj.out hnj hmj (Ip.at_world hp) Lp.out).mono ?_; rintro e w_ ⟨rfl, hc⟩; have hb := Below.step hb hc; have hj := Below.step hj hc; have hp := Below.step hp hc; clear hc; go_wp2_with fail
          refine (join_any _ _ _ _ _ _ (shortOf (withOf (clkAt xs) (clkAt ys))) zs _ (Ij.at_world hj) Lj.out hnj hmj (Jc.at_world hb) Lc.out hnc hmc).mono ?_; rintro e w_ ⟨Aq, nq, cq, rfl, hl, hnq, hmq, Iq, hc⟩; have hb := Below.step hb hc; have hj := Below.step hj hc; have hp := Below.step hp hc; clear hc; obtain ⟨wv, hwv⟩ : ∃ wv, wv = w_ := ⟨_, rfl⟩; subst hwv; have hq := Below.refl wv.heap.size wv
          rw [join_assoc (HP.out xs) (HP.out ys) (HP.out zs)] at hl Iq
          have Lq := hide hl; clear hl
          go_wp2_with fail
          refine (join_any _ _ _ _ _ _ ys zs _ (Jb.at_world hb) Lb.out hnb hmb (Jc.at_world hb) Lc.out hnc hmc).mono ?_; rintro e w_ ⟨Ar, nr, cr, rfl, hl, hnr, hmr, Ir, hc⟩; have hb := Below.step hb hc; have hj := Below.step hj hc; have hp := Below.step hp hc; have hq := Below.step hq hc; clear hc; obtain ⟨wv, hwv⟩ : ∃ wv, wv = w_ := ⟨_, rfl⟩; subst hwv; have hr := Below.refl wv.heap.size wv
          have Lr := hide hl; clear hl
          go_wp2_with fail
          refine (join_any _ _ _ _ _ _ xs (shortOf (withOf (clkAt ys) (clkAt zs))) _ (Ja.at_world hb) La.out hna hma (Ir.at_world hr) Lr.out hnr hmr).mono ?_; rintro e w_ ⟨As, ns, cs, rfl, hl, hns, hms, Is, hc⟩; have hb := Below.step hb hc; have hj := Below.step hj hc; have hp := Below.step hp hc; have hq := Below.step hq hc; have hr := Below.step hr hc; clear hc; obtain ⟨wv, hwv⟩ : ∃ wv, wv = w_ := ⟨_, rfl⟩; subst hwv; have hs := Below.refl wv.heap.size wv
          have Ls := hide hl; clear hl
          go_wp2_with fail
          refine (same_lit (shortOf (withOf (clkAt xs) (clkAt (shortOf (withOf (clkAt ys) (clkAt zs)))))) (shortOf (withOf (clkAt xs) (clkAt (shortOf (withOf (clkAt ys) (clkAt zs)))))) _ (Iq.at_world hq) Lq.out hnq hmq (Is.at_world hs) Ls.out).mono ?_; rintro e w_ ⟨rfl, hc⟩; have hb := Below.step hb hc; have hj := Below.step hj hc; have hp := Below.step hp hc; have hq := Below.step hq hc; have hr := Below.step hr hc; have hs := Below.step hs hc; clear hc; go_wp2_with fail
          refine (join_any _ _ _ _ _ _ xs xs _ (Ja.at_world hb) La.out hna hma (Ja.at_world hb) La.out hna hma).mono ?_; rintro e w_ ⟨Au, nu, cu, rfl, hl, hnu, hmu, Iu, hc⟩; have hb := Below.step hb hc; have hj := Below.step hj hc; have hp := Below.step hp hc; have hq := Below.step hq hc; have hr := Below.step hr hc; have hs := Below.step hs hc; clear hc; obtain ⟨wv, hwv⟩ : ∃ wv, wv = w_ := ⟨_, rfl⟩; subst hwv; have hu := Below.refl wv.heap.size wv
          rw [join_self] at hl Iu
          have Lu := hide hl; clear hl
          go_wp2_with fail
          refine (short_any _ _ _ xs _ (Ja.at_world hb) La.out hna hma).mono ?_; rintro e w_ ⟨Av, nv, cv, rfl, hl, hnv, hmv, Iv, hc⟩; have hb := Below.step hb hc; have hj := Below.step hj hc; have hp := Below.step hp hc; have hq := Below.step hq hc; have hr := Below.step hr hc; have hs := Below.step hs hc; have hu := Below.step hu hc; clear hc; obtain ⟨wv, hwv⟩ : ∃ wv, wv = w_ := ⟨_, rfl⟩; subst hwv; have hv := Below.refl wv.heap.size wv
          have Lv := hide hl; clear hl
          go_wp2_with fail
          refine (same_lit (shortOf (clkAt xs)) (shortOf (clkAt xs)) _ (Iu.at_world hu) Lu.out hnu hmu (Iv.at_world hv) Lv.out).mono ?_; rintro e w_ ⟨rfl, hc⟩; have hb := Below.step hb hc; have hj := Below.step hj hc; have hp := Below.step hp hc; have hq := Below.step hq hc; have hr := Below.step hr hc; have hs := Below.step hs hc; have hu := Below.step hu hc; have hv := Below.step hv hc; clear hc; go_wp2_with fail
          go_ret
          exact ⟨rfl, hb⟩
end Go.Proofs.Ytoodcfldnojkjaa
