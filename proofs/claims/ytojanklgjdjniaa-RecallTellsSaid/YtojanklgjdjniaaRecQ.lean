/-
  The law RecallTells. Conditions: the slices read as lists of hits, and of pairs.
-/
import Derived.Test.YtojanklgjdjniaaRecP
namespace Go.Proofs.Ytojanklgjdjniaa
open Go.RowKit ChangeMaps

set_option maxHeartbeats 4000000 in
set_option maxRecDepth 100000 in
theorem tells_any (A B C : Option Addr) (n c m d p q : Nat) (f t : List Hit) (k a b : Int) (l : List (Int × Int)) (w : World) (hx : Rd SH w w.heap.size A f) (hn : f.length = n) (hc : n ≤ c) (hm : c ≤ 9223372036854775807) (hf : ∀ h ∈ f, wfH h)
    (hy : Rd SH w w.heap.size B t) (hn' : t.length = m) (hd : m ≤ d) (hm' : d ≤ 9223372036854775807) (ht : ∀ h ∈ t, wfH h)
    (hz : Rd SP w w.heap.size C l) (hp : l.length = p) (hq : p ≤ q) (hm2 : q ≤ 9223372036854775807) :
    Calls Try.prog 3 #[.slice A n c, .slice B m d, .int .i64 k, .int .i64 a, .int .i64 b, .slice C p q] w fun e w' => e = .returned (.bool true) ∧ Below w.heap.size w w' := by
  rcases Nat.lt_or_ge 200 n with h1 | h1
  · have b1 : decide ((200 : Int) < n) = true := by simp; omega
    clear hx hy hz
    go_enter Try.func3, Try.ntmps3
    go_wp2_with (go_at_call 4; refine (lives_any _).mono ?_; rintro e w1 ⟨rfl, hb⟩)
    go_ret
    exact ⟨rfl, hb⟩
  have b1 : decide ((200 : Int) < n) = false := by simp; omega
  rcases Nat.lt_or_ge 200 m with h2 | h2
  · have b2 : decide ((200 : Int) < m) = true := by simp; omega
    clear hx hy hz
    go_enter Try.func3, Try.ntmps3
    go_wp2_with (go_at_call 4; refine (lives_any _).mono ?_; rintro e w1 ⟨rfl, hb⟩)
    go_ret
    exact ⟨rfl, hb⟩
  have b2 : decide ((200 : Int) < m) = false := by simp; omega
  rcases Nat.lt_or_ge 200 p with h3 | h3
  · have b3 : decide ((200 : Int) < p) = true := by simp; omega
    clear hx hy hz
    go_enter Try.func3, Try.ntmps3
    go_wp2_with (go_at_call 4; refine (lives_any _).mono ?_; rintro e w1 ⟨rfl, hb⟩)
    go_ret
    exact ⟨rfl, hb⟩
  have b3 : decide ((200 : Int) < p) = false := by simp; omega
  have HK : Hid (Below w.heap.size w w ∧ Rd SH w w.heap.size A f ∧ Rd SH w w.heap.size B t ∧ Rd SP w w.heap.size C l) := hide ⟨Below.refl _ _, hx, hy, hz⟩
  have Hn := hide hn
  have Hm := hide hn'
  have Hp := hide hp
  have HWf := hide hf
  have HWt := hide ht
  clear hx hy hz hn hn' hp hf ht
  go_enter Try.func3, Try.ntmps3
  go_wp2_with fail
  refine (Stab.call (K := (fun W => Below w.heap.size w W ∧ Rd SH W W.heap.size A f ∧ Rd SH W W.heap.size B t ∧ Rd SP W W.heap.size C l)) (stab_and (stab_below w) (stab_and (stab_rd SH A f) (stab_and (stab_rd SH B t) (stab_rd SP C l)))) HK.out (Below.refl _ w) (.tuple #[.int .i64 ((cntR (f.take (fstN k n)) (t.take (fstN k m)) : Nat) : Int), .int .i64 ((fstN k m : Nat) : Int)]) (eRCount_any A B n c m d f t k _ ((stab_rd SH A f) w w HK.out.2.1 (Below.refl _ w)) Hn.out hc hm HWf.out ((stab_rd SH B t) w w HK.out.2.2.1 (Below.refl _ w)) Hm.out hd hm' HWt.out) (rfl)).mono ?_
  rintro e w1 ⟨rfl, hK⟩
  have HK' := hide hK
  clear hK HK
  have HK := HK'
  clear HK'
  go_wp2_with fail
  refine (Stab.call (K := (fun W => Below w.heap.size w W ∧ Rd SH W W.heap.size A f ∧ Rd SH W W.heap.size B t ∧ Rd SP W W.heap.size C l)) (stab_and (stab_below w) (stab_and (stab_rd SH A f) (stab_and (stab_rd SH B t) (stab_rd SP C l)))) HK.out (Below.refl _ w1) (.tuple #[.int .i64 ((cntR (f.take (fstN k n)) (t.take (fstN k m)) : Nat) : Int), .int .i64 ((fstN k m : Nat) : Int)]) (refRCount_any A B n c m d f t k _ ((stab_rd SH A f) w1 w1 HK.out.2.1 (Below.refl _ w1)) Hn.out hc hm ((stab_rd SH B t) w1 w1 HK.out.2.2.1 (Below.refl _ w1)) Hm.out hd hm') (rfl)).mono ?_
  rintro e w2 ⟨rfl, hK⟩
  have HK' := hide hK
  clear hK HK
  have HK := HK'
  clear HK'
  go_wp2_with fail
  refine (Stab.call (K := (fun W => Below w.heap.size w W ∧ Rd SH W W.heap.size A f ∧ Rd SH W W.heap.size B t ∧ Rd SP W W.heap.size C l)) (stab_and (stab_below w) (stab_and (stab_rd SH A f) (stab_and (stab_rd SH B t) (stab_rd SP C l)))) HK.out (Below.refl _ w2) (.bool true) (lives_any _) (rfl)).mono ?_
  rintro e w3 ⟨rfl, hK⟩
  have HK' := hide hK
  clear hK HK
  have HK := HK'
  clear HK'
  have e1 : (((cntR (f.take (fstN k n)) (t.take (fstN k m)) : Nat) : Int) == ((cntR (f.take (fstN k n)) (t.take (fstN k m)) : Nat) : Int)) = true := by simp
  have e2 : (((fstN k m : Nat) : Int) == ((fstN k m : Nat) : Int)) = true := by simp
  go_wp2_with fail
  refine (Stab.call (K := (fun W => Below w.heap.size w W ∧ Rd SH W W.heap.size A f ∧ Rd SH W W.heap.size B t ∧ Rd SP W W.heap.size C l)) (stab_and (stab_below w) (stab_and (stab_rd SH A f) (stab_and (stab_rd SH B t) (stab_rd SP C l)))) HK.out (Below.refl _ w3) (.int .i64 (perF (hA a b) (hB b))) (ePermille_any a b _) (rfl)).mono ?_
  rintro e w4 ⟨rfl, hK⟩
  have HK' := hide hK
  clear hK HK
  have HK := HK'
  clear HK'
  go_wp2_with fail
  refine (Stab.call (K := (fun W => Below w.heap.size w W ∧ Rd SH W W.heap.size A f ∧ Rd SH W W.heap.size B t ∧ Rd SP W W.heap.size C l)) (stab_and (stab_below w) (stab_and (stab_rd SH A f) (stab_and (stab_rd SH B t) (stab_rd SP C l)))) HK.out (Below.refl _ w4) (.int .i64 (perF (hA a b) (hB b))) (calls_same (refPermille_any a b _)) (rfl)).mono ?_
  rintro e w5 ⟨rfl, hK⟩
  have HK' := hide hK
  clear hK HK
  have HK := HK'
  clear HK'
  have e3 : (perF (hA a b) (hB b) == perF (hA a b) (hB b)) = true := by simp
  go_wp2_with fail
  refine (eMissing_any A B n c m d f t w5 ((stab_rd SH A f) w5 w5 HK.out.2.1 (Below.refl _ w5)) Hn.out hc hm HWf.out ((stab_rd SH B t) w5 w5 HK.out.2.2.1 (Below.refl _ w5)) Hm.out hd hm' (by omega) HWt.out).mono ?_
  rintro e w6 ⟨v, rfl, A1, nA1, cA1, rfl, hlA1, hnA1, hmA1, hR, hb⟩
  have HLA1 := hide hlA1
  have HR := hR.rd (B := w6.heap.size) fun b hb => hb.2
  clear hR hlA1
  have HK1 : Hid (Below w.heap.size w w6 ∧ Rd SH w6 w6.heap.size A f ∧ Rd SH w6 w6.heap.size B t ∧ Rd SP w6 w6.heap.size C l ∧ Rd SH w6 w6.heap.size A1 (missR f t)) := hide (⟨((stab_below w) w5 w6 HK.out.1 hb), ((stab_rd SH A f) w5 w6 HK.out.2.1 hb), ((stab_rd SH B t) w5 w6 HK.out.2.2.1 hb), ((stab_rd SP C l) w5 w6 HK.out.2.2.2 hb), HR⟩)
  clear HK hb
  have HK := HK1
  clear HK1
  clear HR
  go_wp2_with fail
  refine (refMissing_any A B n c m d f t w6 ((stab_rd SH A f) w6 w6 HK.out.2.1 (Below.refl _ w6)) Hn.out hc hm ((stab_rd SH B t) w6 w6 HK.out.2.2.1 (Below.refl _ w6)) Hm.out hd hm' (by omega)).mono ?_
  rintro e w7 ⟨v, rfl, A2, nA2, cA2, rfl, hlA2, hnA2, hmA2, hR, hb⟩
  have HLA2 := hide hlA2
  have HR := hR.rd (B := w7.heap.size) fun b hb => hb.2
  clear hR hlA2
  have HK1 : Hid (Below w.heap.size w w7 ∧ Rd SH w7 w7.heap.size A f ∧ Rd SH w7 w7.heap.size B t ∧ Rd SP w7 w7.heap.size C l ∧ Rd SH w7 w7.heap.size A1 (missR f t) ∧ Rd SH w7 w7.heap.size A2 (missR f t)) := hide (⟨((stab_below w) w6 w7 HK.out.1 hb), ((stab_rd SH A f) w6 w7 HK.out.2.1 hb), ((stab_rd SH B t) w6 w7 HK.out.2.2.1 hb), ((stab_rd SP C l) w6 w7 HK.out.2.2.2.1 hb), ((stab_rd SH A1 (missR f t)) w6 w7 HK.out.2.2.2.2 hb), HR⟩)
  clear HK hb
  have HK := HK1
  clear HK1
  clear HR
  go_wp2_with fail
  refine (Stab.call (K := (fun W => Below w.heap.size w W ∧ Rd SH W W.heap.size A f ∧ Rd SH W W.heap.size B t ∧ Rd SP W W.heap.size C l ∧ Rd SH W W.heap.size A1 (missR f t) ∧ Rd SH W W.heap.size A2 (missR f t))) (stab_and (stab_below w) (stab_and (stab_rd SH A f) (stab_and (stab_rd SH B t) (stab_and (stab_rd SP C l) (stab_and (stab_rd SH A1 (missR f t)) (stab_rd SH A2 (missR f t))))))) HK.out (Below.refl _ w7) (.bool true) (calls_drew (sameHits_any A1 A2 nA1 cA1 nA2 cA2 (missR f t) (missR f t) _ ((stab_rd SH A1 (missR f t)) w7 w7 HK.out.2.2.2.2.1 (Below.refl _ w7)) HLA1.out hnA1 hmA1 ((stab_rd SH A2 (missR f t)) w7 w7 HK.out.2.2.2.2.2 (Below.refl _ w7)) HLA2.out hnA2 hmA2)) (congrArg Value.bool (decide_eq_true rfl))).mono ?_
  rintro e w8 ⟨rfl, hK⟩
  have HK' := hide hK
  clear hK HK
  have HK := HK'
  clear HK'
  go_wp2_with fail
  refine (Stab.call (K := (fun W => Below w.heap.size w W ∧ Rd SH W W.heap.size A f ∧ Rd SH W W.heap.size B t ∧ Rd SP W W.heap.size C l ∧ Rd SH W W.heap.size A1 (missR f t) ∧ Rd SH W W.heap.size A2 (missR f t))) (stab_and (stab_below w) (stab_and (stab_rd SH A f) (stab_and (stab_rd SH B t) (stab_and (stab_rd SP C l) (stab_and (stab_rd SH A1 (missR f t)) (stab_rd SH A2 (missR f t))))))) HK.out (Below.refl _ w8) (.int .u64 ((hM (behK f t (min (fstN k n) (fstN k m))) : Nat) : Int)) (calls_drew (behind_any A B n c m d f t k _ ((stab_rd SH A f) w8 w8 HK.out.2.1 (Below.refl _ w8)) Hn.out hc hm HWf.out ((stab_rd SH B t) w8 w8 HK.out.2.2.1 (Below.refl _ w8)) Hm.out hd hm' HWt.out)) (rfl)).mono ?_
  rintro e w9 ⟨rfl, hK⟩
  have HK' := hide hK
  clear hK HK
  have HK := HK'
  clear HK'
  go_wp2_with fail
  refine (Stab.call (K := (fun W => Below w.heap.size w W ∧ Rd SH W W.heap.size A f ∧ Rd SH W W.heap.size B t ∧ Rd SP W W.heap.size C l ∧ Rd SH W W.heap.size A1 (missR f t) ∧ Rd SH W W.heap.size A2 (missR f t))) (stab_and (stab_below w) (stab_and (stab_rd SH A f) (stab_and (stab_rd SH B t) (stab_and (stab_rd SP C l) (stab_and (stab_rd SH A1 (missR f t)) (stab_rd SH A2 (missR f t))))))) HK.out (Below.refl _ w9) (.int .u64 ((hM (behK f t (min (fstN k n) (fstN k m))) : Nat) : Int)) (calls_drew (refBehind_any A B n c m d f t k _ ((stab_rd SH A f) w9 w9 HK.out.2.1 (Below.refl _ w9)) Hn.out hc hm HWf.out ((stab_rd SH B t) w9 w9 HK.out.2.2.1 (Below.refl _ w9)) Hm.out hd hm' HWt.out)) (rfl)).mono ?_
  rintro e w10 ⟨rfl, hK⟩
  have HK' := hide hK
  clear hK HK
  have HK := HK'
  clear HK'
  have e4 : (((hM (behK f t (min (fstN k n) (fstN k m))) : Nat) : Int) == ((hM (behK f t (min (fstN k n) (fstN k m))) : Nat) : Int)) = true := by simp
  go_wp2_with fail
  refine (Stab.call (K := (fun W => Below w.heap.size w W ∧ Rd SH W W.heap.size A f ∧ Rd SH W W.heap.size B t ∧ Rd SP W W.heap.size C l ∧ Rd SH W W.heap.size A1 (missR f t) ∧ Rd SH W W.heap.size A2 (missR f t))) (stab_and (stab_below w) (stab_and (stab_rd SH A f) (stab_and (stab_rd SH B t) (stab_and (stab_rd SP C l) (stab_and (stab_rd SH A1 (missR f t)) (stab_rd SH A2 (missR f t))))))) HK.out (Below.refl _ w10) (.int .i64 (scoF l)) (eScore_any C p q l _ ((stab_rd SP C l) w10 w10 HK.out.2.2.2.1 (Below.refl _ w10)) Hp.out hq hm2) (rfl)).mono ?_
  rintro e w11 ⟨rfl, hK⟩
  have HK' := hide hK
  clear hK HK
  have HK := HK'
  clear HK'
  go_wp2_with fail
  refine (Stab.call (K := (fun W => Below w.heap.size w W ∧ Rd SH W W.heap.size A f ∧ Rd SH W W.heap.size B t ∧ Rd SP W W.heap.size C l ∧ Rd SH W W.heap.size A1 (missR f t) ∧ Rd SH W W.heap.size A2 (missR f t))) (stab_and (stab_below w) (stab_and (stab_rd SH A f) (stab_and (stab_rd SH B t) (stab_and (stab_rd SP C l) (stab_and (stab_rd SH A1 (missR f t)) (stab_rd SH A2 (missR f t))))))) HK.out (Below.refl _ w11) (.int .i64 (scoF l)) (refScore_any C p q l _ ((stab_rd SP C l) w11 w11 HK.out.2.2.2.1 (Below.refl _ w11)) Hp.out hq hm2) (rfl)).mono ?_
  rintro e w12 ⟨rfl, hK⟩
  have HK' := hide hK
  clear hK HK
  have HK := HK'
  clear HK'
  have e5 : (scoF l == scoF l) = true := by simp
  go_wp2_with fail
  go_ret
  exact ⟨rfl, HK.out.1⟩
end Go.Proofs.Ytojanklgjdjniaa
