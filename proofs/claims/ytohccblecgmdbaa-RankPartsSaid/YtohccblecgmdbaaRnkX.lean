/-
  The law RankParts. Conditions: the slices read as lists of spots, and of hits.
-/
import Derived.Test.YtohccblecgmdbaaRnkV
namespace Go.Proofs.Ytohccblecgmdbaa
open Go.RowKit

theorem own_start (w : World) (e : TypeId) (k : Nat) : (w.alloc (.cells #[] e)).ownsRow w.heap.size e k (.slice (some ⟨w.heap.size, 0, none⟩) 0 0) 0 [] :=
  ⟨by simp, .inr ⟨w.heap.size, 0, #[], rfl, Nat.le_refl _, heap_alloc_new _ _, Nat.le_refl _, Nat.zero_le _, by simp, by simp⟩⟩
section
variable {w w' : World} {l m : List Hit}
theorem mem_snoc {x y : Hit} {j : Nat} (h : l[j]? = some x) : decide (y ∈ l.take (j + 1)) = (decide (y ∈ l.take j) || decide (x = y)) := by
  rw [take_snoc h]
  by_cases e : x = y
  · subst e; simp
  · simp [e, Ne.symm e]
end
set_option maxHeartbeats 16000000 in
set_option maxRecDepth 100000 in
theorem parts_any (A B C D : Option Addr) (n c m d p q r s : Nat) (a b : List Spt) (x y : List Hit) (k : Int) (w : World) (hx : Rd SP w w.heap.size A a) (hn : a.length = n) (hc : n ≤ c) (hm : c ≤ 9223372036854775807)
    (hy : Rd SP w w.heap.size B b) (hn' : b.length = m) (hd : m ≤ d) (hm' : d ≤ 9223372036854775807)
    (hz : Rd SH w w.heap.size C x) (hp : x.length = p) (hq : p ≤ q) (hm2 : q ≤ 9223372036854775807)
    (hu : Rd SH w w.heap.size D y) (hr : y.length = r) (hs : r ≤ s) (hm3 : s ≤ 9223372036854775807) :
    Calls Try.prog 5 #[.slice A n c, .slice B m d, .int .i64 k, .slice C p q, .slice D r s] w fun e w' => e = .returned (.bool true) ∧ Below w.heap.size w w' := by
  rcases Nat.lt_or_ge 200 n with h0 | h0
  · have b0 : decide ((200 : Int) < n) = true := by simp; omega
    clear hx hy hz hu
    go_enter Try.func5, Try.ntmps5
    go_wp2_with (go_at_call 6; refine (lives_any _).mono ?_; rintro e w1 ⟨rfl, hb⟩)
    go_ret
    exact ⟨rfl, hb⟩
  have b0 : decide ((200 : Int) < n) = false := by simp; omega
  rcases Nat.lt_or_ge 200 m with h1 | h1
  · have b1 : decide ((200 : Int) < m) = true := by simp; omega
    clear hx hy hz hu
    go_enter Try.func5, Try.ntmps5
    go_wp2_with (go_at_call 6; refine (lives_any _).mono ?_; rintro e w1 ⟨rfl, hb⟩)
    go_ret
    exact ⟨rfl, hb⟩
  have b1 : decide ((200 : Int) < m) = false := by simp; omega
  rcases Nat.lt_or_ge 200 p with h2 | h2
  · have b2 : decide ((200 : Int) < p) = true := by simp; omega
    clear hx hy hz hu
    go_enter Try.func5, Try.ntmps5
    go_wp2_with (go_at_call 6; refine (lives_any _).mono ?_; rintro e w1 ⟨rfl, hb⟩)
    go_ret
    exact ⟨rfl, hb⟩
  have b2 : decide ((200 : Int) < p) = false := by simp; omega
  rcases Nat.lt_or_ge 200 r with h3 | h3
  · have b3 : decide ((200 : Int) < r) = true := by simp; omega
    clear hx hy hz hu
    go_enter Try.func5, Try.ntmps5
    go_wp2_with (go_at_call 6; refine (lives_any _).mono ?_; rintro e w1 ⟨rfl, hb⟩)
    go_ret
    exact ⟨rfl, hb⟩
  have b3 : decide ((200 : Int) < r) = false := by simp; omega
  have HX := hide hx
  have HY := hide hy
  have HZ := hide hz
  have HU := hide hu
  have Hn := hide hn
  have Hm := hide hn'
  have Hp := hide hp
  have Hr := hide hr
  obtain ⟨i2, hi2, hz2⟩ := Option.map_eq_some_iff.1 info_hitR
  obtain ⟨i3, hi3, hz3⟩ := Option.map_eq_some_iff.1 info_spot
  simp only [Prod.mk.injEq] at hz2 hz3
  have HI2 := hide hi2
  have HZ2 := hide hz2.1
  have HS2 := hide hz2.2.1
  have HY2 := hide hz2.2.2
  have HI3 := hide hi3
  have HZ3 := hide hz3.1
  have HS3 := hide hz3.2.1
  have HY3 := hide hz3.2.2
  clear hx hy hz hu hn hn' hp hr hi2 hz2 hi3 hz3
  go_enter Try.func5, Try.ntmps5
  go_upto_region 5 with (go_at_call 6; refine (lives_any _).mono ?_; rintro e w1 ⟨rfl, hb⟩; replace HX := hide (HX.out.step hb); replace HY := hide (HY.out.step hb); replace HZ := hide (HZ.out.step hb); replace HU := hide (HU.out.step hb); have HW := hide hb; clear hb)
  have HO0 := hide (own_start w1 36 3)
  have HB0 := hide (below1 w1 (.cells #[] 36))
  have HR0 := hide (flatS.reads (fun _ h => h) (HX.out.step HB0.out) Hn.out)
  clear b0 b1 b2 b3
  go_upto_region 6 with (first
    | (at_builtin; refine wpList_append_any _ rfl _ _ 22 rfl w1.heap.size 36 i3 _ 3 24 Try.underlying22 HI3.out HZ3.out HS3.out HY3.out rfl (by decide) _ (0 + n) _ rfl HO3.out _ B m d (fcs encS b) rfl (flatS.reads (fun _ h => h) (HY.out.step HB3.out) Hm.out) (flatS.ones b) (by simp only [maxLen]; omega) (by omega) HB3.out.size ?_; intro v4 w4 hown hgr _; have HO4 := hide hown; have HB4 := hide (below_own HB3.out HO3.out HB3.out.size hgr); clear hown hgr)
    | (at_builtin; refine wpList_append_any _ rfl _ _ 22 rfl w1.heap.size 36 i3 _ 3 24 Try.underlying22 HI3.out HZ3.out HS3.out HY3.out rfl (by decide) _ 0 _ rfl HO0.out _ A n c (fcs encS a) rfl HR0.out (flatS.ones a) (by simp only [maxLen]; omega) (by omega) HB0.out.size ?_; intro v3 w3 hown hgr _; have HO3 := hide hown; have HB3 := hide (below_own HB0.out HO0.out HB0.out.size hgr); clear hown hgr))
  have HO5 := hide (show w4.ownsRow w1.heap.size 36 3 v4 (n + m) (fcs encS (a ++ b)) by have h := HO4.out; simpa [fcs_append] using h)
  obtain ⟨A4, c4, rfl, hc4, hm4⟩ := own_form HO5.out
  have HV : Hid (Rd SP w4 w4.heap.size A4 (a ++ b)) := hide ((flatS.own HO5.out).rd fun _ hb => hb.2)
  replace HX := hide (HX.out.step HB4.out)
  replace HY := hide (HY.out.step HB4.out)
  replace HZ := hide (HZ.out.step HB4.out)
  replace HU := hide (HU.out.step HB4.out)
  replace HW := hide (Below.step HW.out HB4.out)
  clear HO0 HB0 HR0 HO3 HB3 HO4 HB4 HO5
  have HO0 := hide (own_start w4 36 3)
  have HB0 := hide (below1 w4 (.cells #[] 36))
  go_wp2_with fail
  generalize w4.alloc (.cells #[] 36) = w5 at *
  refine (least_any A n c k a w5 (HX.out.step HB0.out) Hn.out hc hm (by omega)).mono ?_
  rintro e w6 ⟨v6, rfl, hnew⟩
  obtain ⟨A6, c6, rfl, hc6, hm6, hr6, hb6⟩ := hnew.at_
  have Hle6 : ((srtS a).take (lstN k n)).length ≤ 200 := by rw [List.length_take]; have := lstN_le k n; omega
  generalize hL1 : (srtS a).take (lstN k n) = L1 at *
  generalize hl1 : L1.length = l1 at *
  have HL1 := hide hL1
  have Hl1 := hide hl1
  have HR6 := hide (flatS.reads (fun _ h => h) hr6 hl1)
  have HO6 := hide (own_keep HO0.out fun g hg => hb6.block g (HO0.out.lt g hg).2)
  have HB6 := hide (Below.step HB0.out hb6)
  clear hnew hL1 hl1 hr6 hb6 HO0 HB0
  go_wp2_with (at_builtin; refine wpList_append_any _ rfl _ _ 22 rfl w4.heap.size 36 i3 _ 3 24 Try.underlying22 HI3.out HZ3.out HS3.out HY3.out rfl (by decide) _ 0 _ rfl HO6.out _ A6 l1 c6 (fcs encS L1) rfl HR6.out (flatS.ones L1) (by simp only [maxLen]; omega) (by omega) HB6.out.size ?_; intro v7 w7 hown hgr _; have HO7 := hide hown; have HB7 := hide (below_own HB6.out HO6.out HB6.out.size hgr); clear hown hgr)
  refine (least_any B m d k b w7 (HY.out.step HB7.out) Hm.out hd hm' (by omega)).mono ?_
  rintro e w8 ⟨v8, rfl, hnew⟩
  obtain ⟨A8, c8, rfl, hc8, hm8, hr8, hb8⟩ := hnew.at_
  have Hle8 : ((srtS b).take (lstN k m)).length ≤ 200 := by rw [List.length_take]; have := lstN_le k m; omega
  generalize hL2 : (srtS b).take (lstN k m) = L2 at *
  generalize hl2 : L2.length = l2 at *
  have HL2 := hide hL2
  have Hl2 := hide hl2
  have HR8 := hide (flatS.reads (fun _ h => h) hr8 hl2)
  have HO8 := hide (own_keep HO7.out fun g hg => hb8.block g (HO7.out.lt g hg).2)
  have HB8 := hide (Below.step HB7.out hb8)
  clear hnew hL2 hl2 hr8 hb8 HO6 HB6 HO7 HB7
  go_upto_region 7 with (at_builtin; refine wpList_append_any _ rfl _ _ 22 rfl w4.heap.size 36 i3 _ 3 24 Try.underlying22 HI3.out HZ3.out HS3.out HY3.out rfl (by decide) _ (0 + l1) _ rfl HO8.out _ A8 l2 c8 (fcs encS L2) rfl HR8.out (flatS.ones L2) (by simp only [maxLen]; omega) (by omega) HB8.out.size ?_; intro v9 w9 hown hgr _; have HO9 := hide hown; have HB9 := hide (below_own HB8.out HO8.out HB8.out.size hgr); clear hown hgr)
  have HO5 := hide (show w9.ownsRow w4.heap.size 36 3 v9 (l1 + l2) (fcs encS (L1 ++ L2)) by have h := HO9.out; simpa [fcs_append] using h)
  obtain ⟨A9, c9, rfl, hc9, hm9⟩ := own_form HO5.out
  have HK : Hid (Below w.heap.size w w9 ∧ Rd SH w9 w9.heap.size C x ∧ Rd SH w9 w9.heap.size D y ∧ Rd SP w9 w9.heap.size A4 (a ++ b) ∧ Rd SP w9 w9.heap.size A9 (L1 ++ L2)) :=
    hide ⟨Below.step HW.out HB9.out, HZ.out.step HB9.out, HU.out.step HB9.out, HV.out.step HB9.out, (flatS.own HO5.out).rd fun _ hb => hb.2⟩
  have Hnm := hide (show (a ++ b).length = n + m by rw [List.length_append, Hn.out, Hm.out])
  have Hll := hide (show (L1 ++ L2).length = l1 + l2 by rw [List.length_append, Hl1.out, Hl2.out])
  have HEQ := hide (show (srtS (a ++ b)).take (lstN k (n + m)) = (srtS (L1 ++ L2)).take (lstN k (l1 + l2)) by
    rw [← HL1.out, ← HL2.out]; exact least_parts a b k Hn.out Hm.out (by rw [HL1.out, HL2.out]; exact Hll.out))
  clear HO8 HB8 HO9 HB9 HO5 HV HX HY HZ HU HW HR6 HR8 HL1 HL2
  go_wp2_with fail
  refine (least_any A4 (n + m) c4 k (a ++ b) w9 ((stab_rd SP A4 (a ++ b)) w9 w9 HK.out.2.2.2.1 (Below.refl _ w9)) Hnm.out hc4 hm4 (by omega)).mono ?_
  rintro e w10 ⟨v, rfl, P1, nP1, cP1, rfl, hlP1, hnP1, hmP1, hR, hb⟩
  have HLP1 := hide hlP1
  have HR := hR.rd (B := w10.heap.size) fun b hb => hb.2
  clear hR hlP1
  have HK1 : Hid (Below w.heap.size w w10 ∧ Rd SH w10 w10.heap.size C x ∧ Rd SH w10 w10.heap.size D y ∧ Rd SP w10 w10.heap.size A4 (a ++ b) ∧ Rd SP w10 w10.heap.size A9 (L1 ++ L2) ∧ Rd SP w10 w10.heap.size P1 ((srtS (a ++ b)).take (lstN k (n + m)))) := hide (⟨((stab_below w) w9 w10 HK.out.1 hb), ((stab_rd SH C x) w9 w10 HK.out.2.1 hb), ((stab_rd SH D y) w9 w10 HK.out.2.2.1 hb), ((stab_rd SP A4 (a ++ b)) w9 w10 HK.out.2.2.2.1 hb), ((stab_rd SP A9 (L1 ++ L2)) w9 w10 HK.out.2.2.2.2 hb), HR⟩)
  clear HK hb
  have HK := HK1
  clear HK1
  clear HR
  go_wp2_with fail
  refine (least_any A9 (l1 + l2) c9 k (L1 ++ L2) w10 ((stab_rd SP A9 (L1 ++ L2)) w10 w10 HK.out.2.2.2.2.1 (Below.refl _ w10)) Hll.out hc9 hm9 (by omega)).mono ?_
  rintro e w11 ⟨v, rfl, P2, nP2, cP2, rfl, hlP2, hnP2, hmP2, hR, hb⟩
  have HLP2 := hide hlP2
  have HR := hR.rd (B := w11.heap.size) fun b hb => hb.2
  clear hR hlP2
  have HK1 : Hid (Below w.heap.size w w11 ∧ Rd SH w11 w11.heap.size C x ∧ Rd SH w11 w11.heap.size D y ∧ Rd SP w11 w11.heap.size A4 (a ++ b) ∧ Rd SP w11 w11.heap.size A9 (L1 ++ L2) ∧ Rd SP w11 w11.heap.size P1 ((srtS (a ++ b)).take (lstN k (n + m))) ∧ Rd SP w11 w11.heap.size P2 ((srtS (L1 ++ L2)).take (lstN k (l1 + l2)))) := hide (⟨((stab_below w) w10 w11 HK.out.1 hb), ((stab_rd SH C x) w10 w11 HK.out.2.1 hb), ((stab_rd SH D y) w10 w11 HK.out.2.2.1 hb), ((stab_rd SP A4 (a ++ b)) w10 w11 HK.out.2.2.2.1 hb), ((stab_rd SP A9 (L1 ++ L2)) w10 w11 HK.out.2.2.2.2.1 hb), ((stab_rd SP P1 ((srtS (a ++ b)).take (lstN k (n + m)))) w10 w11 HK.out.2.2.2.2.2 hb), HR⟩)
  clear HK hb
  have HK := HK1
  clear HK1
  clear HR
  go_wp2_with fail
  refine (Stab.call (K := (fun W => Below w.heap.size w W ∧ Rd SH W W.heap.size C x ∧ Rd SH W W.heap.size D y ∧ Rd SP W W.heap.size A4 (a ++ b) ∧ Rd SP W W.heap.size A9 (L1 ++ L2) ∧ Rd SP W W.heap.size P1 ((srtS (a ++ b)).take (lstN k (n + m))) ∧ Rd SP W W.heap.size P2 ((srtS (L1 ++ L2)).take (lstN k (l1 + l2))))) (stab_and (stab_below w) (stab_and (stab_rd SH C x) (stab_and (stab_rd SH D y) (stab_and (stab_rd SP A4 (a ++ b)) (stab_and (stab_rd SP A9 (L1 ++ L2)) (stab_and (stab_rd SP P1 ((srtS (a ++ b)).take (lstN k (n + m)))) (stab_rd SP P2 ((srtS (L1 ++ L2)).take (lstN k (l1 + l2)))))))))) HK.out (Below.refl _ w11) (.bool true) (calls_drew (same_any P1 P2 nP1 cP1 nP2 cP2 ((srtS (a ++ b)).take (lstN k (n + m))) ((srtS (L1 ++ L2)).take (lstN k (l1 + l2))) _ ((stab_rd SP P1 ((srtS (a ++ b)).take (lstN k (n + m)))) w11 w11 HK.out.2.2.2.2.2.1 (Below.refl _ w11)) HLP1.out hnP1 hmP1 ((stab_rd SP P2 ((srtS (L1 ++ L2)).take (lstN k (l1 + l2)))) w11 w11 HK.out.2.2.2.2.2.2 (Below.refl _ w11)) HLP2.out hnP2 hmP2)) (congrArg Value.bool (decide_eq_true HEQ.out))).mono ?_
  rintro e w12 ⟨rfl, hK⟩
  have HK' := hide hK
  clear hK HK
  have HK := HK'
  clear HK'
  go_wp2_with fail
  refine (merge_any C D p q r s x y w12 ((stab_rd SH C x) w12 w12 HK.out.2.1 (Below.refl _ w12)) Hp.out hq hm2 ((stab_rd SH D y) w12 w12 HK.out.2.2.1 (Below.refl _ w12)) Hr.out hs hm3 (by omega) (by omega)).mono ?_
  rintro e w13 ⟨v, rfl, AM, nAM, cAM, rfl, hlAM, hnAM, hmAM, hR, hb⟩
  have HLAM := hide hlAM
  have HR := hR.rd (B := w13.heap.size) fun b hb => hb.2
  clear hR hlAM
  have HK1 : Hid (Below w.heap.size w w13 ∧ Rd SH w13 w13.heap.size C x ∧ Rd SH w13 w13.heap.size D y ∧ Rd SP w13 w13.heap.size A4 (a ++ b) ∧ Rd SP w13 w13.heap.size A9 (L1 ++ L2) ∧ Rd SP w13 w13.heap.size P1 ((srtS (a ++ b)).take (lstN k (n + m))) ∧ Rd SP w13 w13.heap.size P2 ((srtS (L1 ++ L2)).take (lstN k (l1 + l2))) ∧ Rd SH w13 w13.heap.size AM (dd (srtH (x ++ y)))) := hide (⟨((stab_below w) w12 w13 HK.out.1 hb), ((stab_rd SH C x) w12 w13 HK.out.2.1 hb), ((stab_rd SH D y) w12 w13 HK.out.2.2.1 hb), ((stab_rd SP A4 (a ++ b)) w12 w13 HK.out.2.2.2.1 hb), ((stab_rd SP A9 (L1 ++ L2)) w12 w13 HK.out.2.2.2.2.1 hb), ((stab_rd SP P1 ((srtS (a ++ b)).take (lstN k (n + m)))) w12 w13 HK.out.2.2.2.2.2.1 hb), ((stab_rd SP P2 ((srtS (L1 ++ L2)).take (lstN k (l1 + l2)))) w12 w13 HK.out.2.2.2.2.2.2 hb), HR⟩)
  clear HK hb
  have HK := HK1
  clear HK1
  clear HR
  have HMEM := hide (dd_srt_mem (x ++ y))
  have HRIS := hide (ris_dd (x ++ y))
  have HCOM := hide (show dd (srtH (y ++ x)) = dd (srtH (x ++ y)) by rw [srtH_comm])
  have HlM : nAM ≤ 400 := by have h1 := dd_len (srtH (x ++ y)); rw [srtH_len, List.length_append, Hp.out, Hr.out, HLAM.out] at h1; omega
  have HW := hide HK.out.1
  have HZ := hide HK.out.2.1
  have HU := hide HK.out.2.2.1
  have HM := hide HK.out.2.2.2.2.2.2.2
  clear HK HEQ HLP1 HLP2 Hnm Hll Hn Hm Hl1 Hl2
  generalize dd (srtH (x ++ y)) = M at *
  have HO0 := hide (own_start w13 34 2)
  have HB0 := hide (below1 w13 (.cells #[] 34))
  have HR0 := hide (flatH.reads (fun _ h => h) (HZ.out.step HB0.out) Hp.out)
  go_upto_region 11 with (first
    | (at_builtin; refine wpList_append_any _ rfl _ _ 23 rfl w13.heap.size 34 i2 _ 2 16 Try.underlying23 HI2.out HZ2.out HS2.out HY2.out rfl (by decide) _ (0 + p) _ rfl HOca.out _ D r s (fcs encH y) rfl (flatH.reads (fun _ h => h) (HU.out.step HBca.out) Hr.out) (flatH.ones y) (by simp only [maxLen]; omega) (by omega) HBca.out.size ?_; intro vcb wcb hown hgr _; obtain ⟨Ac, cc, hvf, hcc, hmcc⟩ := own_form hown; subst hvf; have HOcb := hide hown; have HBcb := hide (below_own HBca.out HOca.out HBca.out.size hgr); clear hown hgr)
    | (at_builtin; refine wpList_append_any _ rfl _ _ 23 rfl w13.heap.size 34 i2 _ 2 16 Try.underlying23 HI2.out HZ2.out HS2.out HY2.out rfl (by decide) _ 0 _ rfl HO0.out _ C p q (fcs encH x) rfl HR0.out (flatH.ones x) (by simp only [maxLen]; omega) (by omega) HB0.out.size ?_; intro vca wca hown hgr _; have HOca := hide hown; have HBca := hide (below_own HB0.out HO0.out HB0.out.size hgr); clear hown hgr))
  have HO5 := hide (show wcb.ownsRow w13.heap.size 34 2 (.slice Ac (p + r) cc) (p + r) (fcs encH (x ++ y)) by have h := HOcb.out; simpa [fcs_append] using h)
  have HXY : Hid (Rd SH wcb wcb.heap.size Ac (x ++ y)) := hide ((flatH.own HO5.out).rd fun _ hb => hb.2)
  have HXYl := hide (show (x ++ y).length = p + r by rw [List.length_append, Hp.out, Hr.out])
  replace HM := hide (HM.out.step HBcb.out)
  replace HZ := hide (HZ.out.step HBcb.out)
  replace HU := hide (HU.out.step HBcb.out)
  replace HW := hide (Below.step HW.out HBcb.out)
  clear HO0 HB0 HR0 HOca HBca HOcb HBcb HO5
  go_loopw [15, 16, 18, 75] (fun _ _ _ i wr => ∃ j : Nat, j ≤ p + r ∧ i = .int .i64 j ∧ Hid (Below wcb.heap.size wcb wr)) (fun _ _ _ i _ => p + r - (intOf i).toNat)
  case atStart => exact ⟨0, by omega, rfl, hide (Below.refl _ _)⟩
  case round =>
    obtain ⟨j, hj, rfl, HB⟩ := hrel
    by_cases hlt : j < p + r
    · obtain ⟨ad, ⟨h1, h2⟩, rfl, _, hv, q0, q1⟩ := (HXY.out.below HB.out (Nat.le_refl _)).hcell (k := j) (by have := HXYl.out; omega)
      simp only at q0 q1
      have g0 : (0 : Int) ≤ j := by omega
      have g1 : (j : Int) < (p + r : Nat) := by omega
      have HN := hide (Blk.new wr 34 #[.int .u64 h1, .int .u64 h2])
      have HBs := hide (Below.step HB.out (below1 wr (.cells #[.int .u64 h1, .int .u64 h2] 34)))
      have HIN := hide ((HMEM.out (h1, h2)).2 (List.mem_of_getElem? hv))
      clear hv
      go_upto_region 15 with fail
      generalize wr.alloc (.cells #[.int .u64 h1, .int .u64 h2] 34) = w20 at *
      generalize wr.heap.size = bx at *
      go_loopw [16, 18, 81] (fun is _ i wr => ∃ t : Nat, t ≤ nAM ∧ i = .int .i64 t ∧ is = .bool (decide ((h1, h2) ∈ M.take t)) ∧ Hid (Below w20.heap.size w20 wr)) (fun _ _ i _ => nAM - (intOf i).toNat)
      case atStart => exact ⟨0, by omega, rfl, by simp, hide (Below.refl _ _)⟩
      case round =>
        obtain ⟨t, ht, rfl, rfl, HBi⟩ := hrel
        have HSt := hide (Below.step HBs.out HBi.out)
        by_cases htl : t < nAM
        · obtain ⟨ad2, ⟨g1, g2⟩, e2, _, hv2, r0, r1⟩ := (HM.out.below HSt.out (Nat.le_refl _)).hcell (k := t) (by have := HLAM.out; omega)
          subst e2
          simp only at r0 r1
          have HSn := hide (mem_snoc (y := (h1, h2)) hv2)
          have t0 : (0 : Int) ≤ t := by omega
          have t1 : (t : Int) < (nAM : Nat) := by omega
          have HNw := hide ((HN.out.below HBi.out HN.out.lt).alloc (.cells #[.int .u64 g1, .int .u64 g2] 34))
          have HNn := hide (Blk.new wr 34 #[.int .u64 g1, .int .u64 g2])
          have HBn := hide (Below.step HBi.out (below1 wr (.cells #[.int .u64 g1, .int .u64 g2] 34)))
          clear hv2
          go_upto_region 17 with fail
          generalize wr.alloc (.cells #[.int .u64 g1, .int .u64 g2] 34) = w30 at *
          have y0 : w30.cell? ⟨bx, 0, none⟩ = some (.int .u64 h1) := HNw.out.cell 0
          have y1 : w30.cell? ⟨bx, 1, none⟩ = some (.int .u64 h2) := HNw.out.cell 1
          have z0 : w30.cell? ⟨wr.heap.size, 0, none⟩ = some (.int .u64 g1) := HNn.out.cell 0
          have z1 : w30.cell? ⟨wr.heap.size, 1, none⟩ = some (.int .u64 g2) := HNn.out.cell 1
          generalize wr.heap.size = by_ at *
          cases hdec : decide ((h1, h2) ∈ M.take t) with
          | true =>
            rw [hdec] at HSn
            go_wp2
            go_roundw
            case rel => exact ⟨t + 1, by omega, by go_num, by rw [HSn.out]; rfl, HBn⟩
            case measure => simp [intOf]; omega
          | false =>
            rw [hdec] at HSn
            by_cases e : ((g1, g2) : Hit) = (h1, h2)
            · have he := run_eql_hit g1 g2 h1 h2 (hit_same e)
              rw [decide_eq_true e] at HSn
              clear e
              go_wp2
              go_roundw
              case rel => exact ⟨t + 1, by omega, by go_num, by rw [HSn.out]; rfl, HBn⟩
              case measure => simp [intOf]; omega
            · have he := run_eql_hit g1 g2 h1 h2 (hit_other e)
              rw [decide_eq_false e] at HSn
              clear e
              go_wp2
              go_roundw
              case rel => exact ⟨t + 1, by omega, by go_num, by rw [HSn.out]; rfl, HBn⟩
              case measure => simp [intOf]; omega
        · have hT : decide ((h1, h2) ∈ M.take t) = true := by rw [List.take_of_length_le (by have := HLAM.out; omega)]; exact decide_eq_true HIN.out
          rw [hT]
          clear hT
          go_wp2
          go_roundw
          case rel => exact ⟨j + 1, by omega, by go_num, HSt⟩
          case measure => simp [intOf]; omega

    · have hx : ¬ ((j : Int) < ((p + r : Nat) : Int)) := by omega
      have hx2 : ((p + r : Nat) : Int) ≤ (j : Int) := by omega
      have hx3 : (p : Int) + (r : Int) ≤ (j : Int) := by omega
      go_upto_region 23 with fail
      clear hx hx2 hx3
      go_loopw [20, 21, 23, 97] (fun _ _ _ i wr => ∃ j : Nat, j ≤ nAM ∧ i = .int .i64 j ∧ Hid (Below wcb.heap.size wcb wr)) (fun _ _ _ i _ => nAM - (intOf i).toNat)
      case atStart => exact ⟨0, by omega, rfl, HB⟩
      case round =>
        clear HB
        obtain ⟨j, hj, rfl, HB⟩ := hrel
        by_cases hlt2 : j < nAM
        · obtain ⟨ad, ⟨h1, h2⟩, rfl, _, hv, q0, q1⟩ := (HM.out.below HB.out (Nat.le_refl _)).hcell (k := j) (by have := HLAM.out; omega)
          simp only at q0 q1
          have g0 : (0 : Int) ≤ j := by omega
          have g1 : (j : Int) < nAM := by omega
          have HN0 := hide (Blk.new wr 34 #[.int .u64 h1, .int .u64 h2])
          have HBs0 := hide (Below.step HB.out (below1 wr (.cells #[.int .u64 h1, .int .u64 h2] 34)))
          have HIN := hide ((HMEM.out (h1, h2)).1 (List.mem_of_getElem? hv))
          clear hv
          go_upto_region 26 with fail
          generalize wr.alloc (.cells #[.int .u64 h1, .int .u64 h2] 34) = w20 at *
          generalize wr.heap.size = bx at *
          have HZ0 := hide (HZ.out.step HBs0.out)
          have HU0 := hide (HU.out.step HBs0.out)
          have HO0 := hide (own_start w20 34 2)
          have HB0 := hide (below1 w20 (.cells #[] 34))
          have HR0 := hide (flatH.reads (fun _ h => h) (HZ0.out.step HB0.out) Hp.out)
          go_upto_region 27 with (first
    | (at_builtin; refine wpList_append_any _ rfl _ _ 23 rfl w20.heap.size 34 i2 _ 2 16 Try.underlying23 HI2.out HZ2.out HS2.out HY2.out rfl (by decide) _ (0 + p) _ rfl HOda.out _ D r s (fcs encH y) rfl (flatH.reads (fun _ h => h) (HU0.out.step HBda.out) Hr.out) (flatH.ones y) (by simp only [maxLen]; omega) (by omega) HBda.out.size ?_; intro vdb wdb hown hgr _; obtain ⟨Ad, cd, hvf, hcd, hmcd⟩ := own_form hown; subst hvf; have HOdb := hide hown; have HBdb := hide (below_own HBda.out HOda.out HBda.out.size hgr); clear hown hgr)
    | (at_builtin; refine wpList_append_any _ rfl _ _ 23 rfl w20.heap.size 34 i2 _ 2 16 Try.underlying23 HI2.out HZ2.out HS2.out HY2.out rfl (by decide) _ 0 _ rfl HO0.out _ C p q (fcs encH x) rfl HR0.out (flatH.ones x) (by simp only [maxLen]; omega) (by omega) HB0.out.size ?_; intro vda wda hown hgr _; have HOda := hide hown; have HBda := hide (below_own HB0.out HO0.out HB0.out.size hgr); clear hown hgr))
          have HO5 := hide (show wdb.ownsRow w20.heap.size 34 2 (.slice Ad (p + r) cd) (p + r) (fcs encH (x ++ y)) by have h := HOdb.out; simpa [fcs_append] using h)
          have HXD : Hid (Rd SH wdb wdb.heap.size Ad (x ++ y)) := hide ((flatH.own HO5.out).rd fun _ hb => hb.2)
          have HN := hide (HN0.out.below HBdb.out HN0.out.lt)
          have HBs := hide (Below.step HBs0.out HBdb.out)
          clear HO0 HB0 HR0 HOda HBda HOdb HBdb HO5 HN0 HBs0 HZ0 HU0
          go_loopw [21, 23, 107] (fun is _ i wr => ∃ t : Nat, t ≤ p + r ∧ i = .int .i64 t ∧ is = .bool (decide ((h1, h2) ∈ (x ++ y).take t)) ∧ Hid (Below wdb.heap.size wdb wr)) (fun _ _ i _ => p + r - (intOf i).toNat)
          case atStart => exact ⟨0, by omega, rfl, by simp, hide (Below.refl _ _)⟩
          case round =>
            obtain ⟨t, ht, rfl, rfl, HBi⟩ := hrel
            have HSt := hide (Below.step HBs.out HBi.out)
            by_cases htl : t < p + r
            · obtain ⟨ad2, ⟨g1, g2⟩, e2, _, hv2, r0, r1⟩ := (HXD.out.below HBi.out (Nat.le_refl _)).hcell (k := t) (by have := HXYl.out; omega)
              subst e2
              simp only at r0 r1
              have HSn := hide (mem_snoc (y := (h1, h2)) hv2)
              have t0 : (0 : Int) ≤ t := by omega
              have t1 : (t : Int) < (p + r : Nat) := by omega
              have HNw := hide ((HN.out.below HBi.out HN.out.lt).alloc (.cells #[.int .u64 g1, .int .u64 g2] 34))
              have HNn := hide (Blk.new wr 34 #[.int .u64 g1, .int .u64 g2])
              have HBn := hide (Below.step HBi.out (below1 wr (.cells #[.int .u64 g1, .int .u64 g2] 34)))
              clear hv2
              go_upto_region 29 with fail
              generalize wr.alloc (.cells #[.int .u64 g1, .int .u64 g2] 34) = w30 at *
              have y0 : w30.cell? ⟨bx, 0, none⟩ = some (.int .u64 h1) := HNw.out.cell 0
              have y1 : w30.cell? ⟨bx, 1, none⟩ = some (.int .u64 h2) := HNw.out.cell 1
              have z0 : w30.cell? ⟨wr.heap.size, 0, none⟩ = some (.int .u64 g1) := HNn.out.cell 0
              have z1 : w30.cell? ⟨wr.heap.size, 1, none⟩ = some (.int .u64 g2) := HNn.out.cell 1
              generalize wr.heap.size = by_ at *
              cases hdec : decide ((h1, h2) ∈ (x ++ y).take t) with
              | true =>
                rw [hdec] at HSn
                go_wp2
                go_roundw
                case rel => exact ⟨t + 1, by omega, by go_num, by rw [HSn.out]; rfl, HBn⟩
                case measure => simp [intOf]; omega
              | false =>
                rw [hdec] at HSn
                by_cases e : ((g1, g2) : Hit) = (h1, h2)
                · have he := run_eql_hit g1 g2 h1 h2 (hit_same e)
                  rw [decide_eq_true e] at HSn
                  clear e
                  go_wp2
                  go_roundw
                  case rel => exact ⟨t + 1, by omega, by go_num, by rw [HSn.out]; rfl, HBn⟩
                  case measure => simp [intOf]; omega
                · have he := run_eql_hit g1 g2 h1 h2 (hit_other e)
                  rw [decide_eq_false e] at HSn
                  clear e
                  go_wp2
                  go_roundw
                  case rel => exact ⟨t + 1, by omega, by go_num, by rw [HSn.out]; rfl, HBn⟩
                  case measure => simp [intOf]; omega
            · have hT : decide ((h1, h2) ∈ (x ++ y).take t) = true := by rw [List.take_of_length_le (by have := HXYl.out; omega)]; exact decide_eq_true HIN.out
              rw [hT]
              clear hT
              go_wp2
              go_roundw
              case rel => exact ⟨j + 1, by omega, by go_num, HSt⟩
              case measure => simp [intOf]; omega

        · obtain rfl : j = nAM := by omega
          go_wp2_with fail
          refine (live_rising AM cAM wr _ M true HRIS.out HLAM.out (by omega) hnAM hmAM (HM.out.step HB.out)).mono ?_
          rintro e w40 ⟨rfl, hb⟩
          have HB1 := hide (Below.step HB.out hb)
          clear hb HB
          go_wp2_with fail
          refine (merge_any D C r s p q y x w40 (HU.out.step HB1.out) Hr.out hs hm3 (HZ.out.step HB1.out) Hp.out hq hm2 (by omega) (by omega)).mono ?_
          rintro e w41 ⟨v, rfl, hnew⟩
          rw [HCOM.out] at hnew
          obtain ⟨AN, cN, rfl, hcN, hmN, hrN, hb⟩ := hnew.at_
          have hlN : M.length = j := HLAM.out
          rw [hlN] at hcN
          rw [hlN]
          have HRN := hide hrN
          have HB2 := hide (Below.step HB1.out hb)
          clear hb HB1 hnew hrN hlN
          go_wp2_with fail
          refine (calls_drew (sameHits_any AM AN j cAM j cN M M w41 (HM.out.step HB2.out) HLAM.out hnAM hmAM HRN.out HLAM.out hcN hmN)).mono ?_
          rintro e w42 ⟨rfl, hb⟩
          have HB3 := hide (Below.step HB2.out hb)
          clear hb
          rw [decide_eq_true (rfl : M = M)]
          go_wp2
          go_ret
          exact ⟨rfl, Below.step HW.out HB3.out⟩
end Go.Proofs.Ytohccblecgmdbaa
