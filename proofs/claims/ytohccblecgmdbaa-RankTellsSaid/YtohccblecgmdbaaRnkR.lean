/-
  The law RankTells. Conditions: the slices read as lists of spots, and of hits.
-/
import Derived.Test.YtohccblecgmdbaaRnkQ
namespace Go.Proofs.Ytohccblecgmdbaa
open Go.RowKit

theorem sortN_any (A : Option Addr) (n c : Nat) (l : List Spt) (w : World) (hx : Rd SP w w.heap.size A l) (hn : l.length = n) (hc : n ≤ c) (hm : c ≤ 9223372036854775807) (h6 : n ≤ 1000000) :
    Calls Try.prog 8 #[.slice A n c] w fun e w' => ∃ v, e = .returned v ∧ NewL SP w (srtS l) v w' :=
  (sort_any A n c l w hx hn hc hm h6).mono fun _ _ ⟨v, h, ho, hb⟩ => ⟨v, h, flatS.new ho hb⟩
theorem refSortN_any (A : Option Addr) (n c : Nat) (l : List Spt) (w : World) (hx : Rd SP w w.heap.size A l) (hn : l.length = n) (hc : n ≤ c) (hm : c ≤ 9223372036854775807) (h6 : n ≤ 1000000) :
    Calls Try.prog 9 #[.slice A n c] w fun e w' => ∃ v, e = .returned v ∧ NewL SP w (srtS l) v w' :=
  (refSort_any A n c l w hx hn hc hm h6).mono fun _ _ ⟨v, h, ho, hb⟩ => ⟨v, h, flatS.new ho hb⟩
set_option maxHeartbeats 4000000 in
set_option maxRecDepth 100000 in
theorem tells_any (A B C : Option Addr) (n c m d p q : Nat) (l : List Spt) (f t : List Hit) (k : Int) (w : World) (hx : Rd SP w w.heap.size A l) (hn : l.length = n) (hc : n ≤ c) (hm : c ≤ 9223372036854775807)
    (hy : Rd SH w w.heap.size B f) (hn' : f.length = m) (hd : m ≤ d) (hm' : d ≤ 9223372036854775807)
    (hz : Rd SH w w.heap.size C t) (hp : t.length = p) (hq : p ≤ q) (hm2 : q ≤ 9223372036854775807) :
    Calls Try.prog 3 #[.slice A n c, .slice B m d, .slice C p q, .int .i64 k] w fun e w' => e = .returned (.bool true) ∧ Below w.heap.size w w' := by
  rcases Nat.lt_or_ge 200 n with h1 | h1
  · have b1 : decide ((200 : Int) < n) = true := by simp; omega
    clear hx hy hz
    go_enter Try.func3, Try.ntmps3
    go_wp2_with (go_at_call 6; refine (lives_any _).mono ?_; rintro e w1 ⟨rfl, hb⟩)
    go_ret
    exact ⟨rfl, hb⟩
  have b1 : decide ((200 : Int) < n) = false := by simp; omega
  rcases Nat.lt_or_ge 200 m with h2 | h2
  · have b2 : decide ((200 : Int) < m) = true := by simp; omega
    clear hx hy hz
    go_enter Try.func3, Try.ntmps3
    go_wp2_with (go_at_call 6; refine (lives_any _).mono ?_; rintro e w1 ⟨rfl, hb⟩)
    go_ret
    exact ⟨rfl, hb⟩
  have b2 : decide ((200 : Int) < m) = false := by simp; omega
  rcases Nat.lt_or_ge 200 p with h3 | h3
  · have b3 : decide ((200 : Int) < p) = true := by simp; omega
    clear hx hy hz
    go_enter Try.func3, Try.ntmps3
    go_wp2_with (go_at_call 6; refine (lives_any _).mono ?_; rintro e w1 ⟨rfl, hb⟩)
    go_ret
    exact ⟨rfl, hb⟩
  have b3 : decide ((200 : Int) < p) = false := by simp; omega
  have HK : Hid (Below w.heap.size w w ∧ Rd SP w w.heap.size A l ∧ Rd SH w w.heap.size B f ∧ Rd SH w w.heap.size C t) := hide ⟨Below.refl _ _, hx, hy, hz⟩
  have Hn := hide hn
  have Hm := hide hn'
  have Hp := hide hp
  clear hx hy hz hn hn' hp
  go_enter Try.func3, Try.ntmps3
  go_wp2_with fail
  refine (Stab.call (K := (fun W => Below w.heap.size w W ∧ Rd SP W W.heap.size A l ∧ Rd SH W W.heap.size B f ∧ Rd SH W W.heap.size C t)) (stab_and (stab_below w) (stab_and (stab_rd SP A l) (stab_and (stab_rd SH B f) (stab_rd SH C t)))) HK.out (Below.refl _ w) (.bool true) (lives_any _) (rfl)).mono ?_
  rintro e w1 ⟨rfl, hK⟩
  have HK' := hide hK
  clear hK HK
  have HK := HK'
  clear HK'
  go_wp2_with fail
  refine (sortN_any A n c l w1 ((stab_rd SP A l) w1 w1 HK.out.2.1 (Below.refl _ w1)) Hn.out hc hm (by omega)).mono ?_
  rintro e w2 ⟨v, rfl, A1, nA1, cA1, rfl, hlA1, hnA1, hmA1, hR, hb⟩
  have HLA1 := hide hlA1
  have HR := hR.rd (B := w2.heap.size) fun b hb => hb.2
  clear hR hlA1
  have HK1 : Hid (Below w.heap.size w w2 ∧ Rd SP w2 w2.heap.size A l ∧ Rd SH w2 w2.heap.size B f ∧ Rd SH w2 w2.heap.size C t ∧ Rd SP w2 w2.heap.size A1 (srtS l)) := hide (⟨((stab_below w) w1 w2 HK.out.1 hb), ((stab_rd SP A l) w1 w2 HK.out.2.1 hb), ((stab_rd SH B f) w1 w2 HK.out.2.2.1 hb), ((stab_rd SH C t) w1 w2 HK.out.2.2.2 hb), HR⟩)
  clear HK hb
  have HK := HK1
  clear HK1
  clear HR
  go_wp2_with fail
  refine (refSortN_any A n c l w2 ((stab_rd SP A l) w2 w2 HK.out.2.1 (Below.refl _ w2)) Hn.out hc hm (by omega)).mono ?_
  rintro e w3 ⟨v, rfl, A2, nA2, cA2, rfl, hlA2, hnA2, hmA2, hR, hb⟩
  have HLA2 := hide hlA2
  have HR := hR.rd (B := w3.heap.size) fun b hb => hb.2
  clear hR hlA2
  have HK1 : Hid (Below w.heap.size w w3 ∧ Rd SP w3 w3.heap.size A l ∧ Rd SH w3 w3.heap.size B f ∧ Rd SH w3 w3.heap.size C t ∧ Rd SP w3 w3.heap.size A1 (srtS l) ∧ Rd SP w3 w3.heap.size A2 (srtS l)) := hide (⟨((stab_below w) w2 w3 HK.out.1 hb), ((stab_rd SP A l) w2 w3 HK.out.2.1 hb), ((stab_rd SH B f) w2 w3 HK.out.2.2.1 hb), ((stab_rd SH C t) w2 w3 HK.out.2.2.2.1 hb), ((stab_rd SP A1 (srtS l)) w2 w3 HK.out.2.2.2.2 hb), HR⟩)
  clear HK hb
  have HK := HK1
  clear HK1
  clear HR
  go_wp2_with fail
  refine (Stab.call (K := (fun W => Below w.heap.size w W ∧ Rd SP W W.heap.size A l ∧ Rd SH W W.heap.size B f ∧ Rd SH W W.heap.size C t ∧ Rd SP W W.heap.size A1 (srtS l) ∧ Rd SP W W.heap.size A2 (srtS l))) (stab_and (stab_below w) (stab_and (stab_rd SP A l) (stab_and (stab_rd SH B f) (stab_and (stab_rd SH C t) (stab_and (stab_rd SP A1 (srtS l)) (stab_rd SP A2 (srtS l))))))) HK.out (Below.refl _ w3) (.bool true) (calls_drew (same_any A1 A2 nA1 cA1 nA2 cA2 (srtS l) (srtS l) _ ((stab_rd SP A1 (srtS l)) w3 w3 HK.out.2.2.2.2.1 (Below.refl _ w3)) HLA1.out hnA1 hmA1 ((stab_rd SP A2 (srtS l)) w3 w3 HK.out.2.2.2.2.2 (Below.refl _ w3)) HLA2.out hnA2 hmA2)) (congrArg Value.bool (decide_eq_true rfl))).mono ?_
  rintro e w4 ⟨rfl, hK⟩
  have HK' := hide hK
  clear hK HK
  have HK := HK'
  clear HK'
  go_wp2_with fail
  refine (least_any A n c k l w4 ((stab_rd SP A l) w4 w4 HK.out.2.1 (Below.refl _ w4)) Hn.out hc hm (by omega)).mono ?_
  rintro e w5 ⟨v, rfl, A3, nA3, cA3, rfl, hlA3, hnA3, hmA3, hR, hb⟩
  have HLA3 := hide hlA3
  have HR := hR.rd (B := w5.heap.size) fun b hb => hb.2
  clear hR hlA3
  have HK1 : Hid (Below w.heap.size w w5 ∧ Rd SP w5 w5.heap.size A l ∧ Rd SH w5 w5.heap.size B f ∧ Rd SH w5 w5.heap.size C t ∧ Rd SP w5 w5.heap.size A1 (srtS l) ∧ Rd SP w5 w5.heap.size A2 (srtS l) ∧ Rd SP w5 w5.heap.size A3 ((srtS l).take (lstN k n))) := hide (⟨((stab_below w) w4 w5 HK.out.1 hb), ((stab_rd SP A l) w4 w5 HK.out.2.1 hb), ((stab_rd SH B f) w4 w5 HK.out.2.2.1 hb), ((stab_rd SH C t) w4 w5 HK.out.2.2.2.1 hb), ((stab_rd SP A1 (srtS l)) w4 w5 HK.out.2.2.2.2.1 hb), ((stab_rd SP A2 (srtS l)) w4 w5 HK.out.2.2.2.2.2 hb), HR⟩)
  clear HK hb
  have HK := HK1
  clear HK1
  clear HR
  go_wp2_with fail
  refine (refLeast_any A n c k l w5 ((stab_rd SP A l) w5 w5 HK.out.2.1 (Below.refl _ w5)) Hn.out hc hm (by omega)).mono ?_
  rintro e w6 ⟨v, rfl, A4, nA4, cA4, rfl, hlA4, hnA4, hmA4, hR, hb⟩
  have HLA4 := hide hlA4
  have HR := hR.rd (B := w6.heap.size) fun b hb => hb.2
  clear hR hlA4
  have HK1 : Hid (Below w.heap.size w w6 ∧ Rd SP w6 w6.heap.size A l ∧ Rd SH w6 w6.heap.size B f ∧ Rd SH w6 w6.heap.size C t ∧ Rd SP w6 w6.heap.size A1 (srtS l) ∧ Rd SP w6 w6.heap.size A2 (srtS l) ∧ Rd SP w6 w6.heap.size A3 ((srtS l).take (lstN k n)) ∧ Rd SP w6 w6.heap.size A4 ((srtS l).take (lstN k n))) := hide (⟨((stab_below w) w5 w6 HK.out.1 hb), ((stab_rd SP A l) w5 w6 HK.out.2.1 hb), ((stab_rd SH B f) w5 w6 HK.out.2.2.1 hb), ((stab_rd SH C t) w5 w6 HK.out.2.2.2.1 hb), ((stab_rd SP A1 (srtS l)) w5 w6 HK.out.2.2.2.2.1 hb), ((stab_rd SP A2 (srtS l)) w5 w6 HK.out.2.2.2.2.2.1 hb), ((stab_rd SP A3 ((srtS l).take (lstN k n))) w5 w6 HK.out.2.2.2.2.2.2 hb), HR⟩)
  clear HK hb
  have HK := HK1
  clear HK1
  clear HR
  go_wp2_with fail
  refine (Stab.call (K := (fun W => Below w.heap.size w W ∧ Rd SP W W.heap.size A l ∧ Rd SH W W.heap.size B f ∧ Rd SH W W.heap.size C t ∧ Rd SP W W.heap.size A1 (srtS l) ∧ Rd SP W W.heap.size A2 (srtS l) ∧ Rd SP W W.heap.size A3 ((srtS l).take (lstN k n)) ∧ Rd SP W W.heap.size A4 ((srtS l).take (lstN k n)))) (stab_and (stab_below w) (stab_and (stab_rd SP A l) (stab_and (stab_rd SH B f) (stab_and (stab_rd SH C t) (stab_and (stab_rd SP A1 (srtS l)) (stab_and (stab_rd SP A2 (srtS l)) (stab_and (stab_rd SP A3 ((srtS l).take (lstN k n))) (stab_rd SP A4 ((srtS l).take (lstN k n)))))))))) HK.out (Below.refl _ w6) (.bool true) (calls_drew (same_any A3 A4 nA3 cA3 nA4 cA4 ((srtS l).take (lstN k n)) ((srtS l).take (lstN k n)) _ ((stab_rd SP A3 ((srtS l).take (lstN k n))) w6 w6 HK.out.2.2.2.2.2.2.1 (Below.refl _ w6)) HLA3.out hnA3 hmA3 ((stab_rd SP A4 ((srtS l).take (lstN k n))) w6 w6 HK.out.2.2.2.2.2.2.2 (Below.refl _ w6)) HLA4.out hnA4 hmA4)) (congrArg Value.bool (decide_eq_true rfl))).mono ?_
  rintro e w7 ⟨rfl, hK⟩
  have HK' := hide hK
  clear hK HK
  have HK := HK'
  clear HK'
  go_wp2_with fail
  refine (merge_any B C m d p q f t w7 ((stab_rd SH B f) w7 w7 HK.out.2.2.1 (Below.refl _ w7)) Hm.out hd hm' ((stab_rd SH C t) w7 w7 HK.out.2.2.2.1 (Below.refl _ w7)) Hp.out hq hm2 (by omega) (by omega)).mono ?_
  rintro e w8 ⟨v, rfl, A5, nA5, cA5, rfl, hlA5, hnA5, hmA5, hR, hb⟩
  have HLA5 := hide hlA5
  have HR := hR.rd (B := w8.heap.size) fun b hb => hb.2
  clear hR hlA5
  have HK1 : Hid (Below w.heap.size w w8 ∧ Rd SP w8 w8.heap.size A l ∧ Rd SH w8 w8.heap.size B f ∧ Rd SH w8 w8.heap.size C t ∧ Rd SP w8 w8.heap.size A1 (srtS l) ∧ Rd SP w8 w8.heap.size A2 (srtS l) ∧ Rd SP w8 w8.heap.size A3 ((srtS l).take (lstN k n)) ∧ Rd SP w8 w8.heap.size A4 ((srtS l).take (lstN k n)) ∧ Rd SH w8 w8.heap.size A5 (dd (srtH (f ++ t)))) := hide (⟨((stab_below w) w7 w8 HK.out.1 hb), ((stab_rd SP A l) w7 w8 HK.out.2.1 hb), ((stab_rd SH B f) w7 w8 HK.out.2.2.1 hb), ((stab_rd SH C t) w7 w8 HK.out.2.2.2.1 hb), ((stab_rd SP A1 (srtS l)) w7 w8 HK.out.2.2.2.2.1 hb), ((stab_rd SP A2 (srtS l)) w7 w8 HK.out.2.2.2.2.2.1 hb), ((stab_rd SP A3 ((srtS l).take (lstN k n))) w7 w8 HK.out.2.2.2.2.2.2.1 hb), ((stab_rd SP A4 ((srtS l).take (lstN k n))) w7 w8 HK.out.2.2.2.2.2.2.2 hb), HR⟩)
  clear HK hb
  have HK := HK1
  clear HK1
  clear HR
  go_wp2_with fail
  refine (refMerge_any B C m d p q f t w8 ((stab_rd SH B f) w8 w8 HK.out.2.2.1 (Below.refl _ w8)) Hm.out hd hm' ((stab_rd SH C t) w8 w8 HK.out.2.2.2.1 (Below.refl _ w8)) Hp.out hq hm2 (by omega) (by omega)).mono ?_
  rintro e w9 ⟨v, rfl, A6, nA6, cA6, rfl, hlA6, hnA6, hmA6, hR, hb⟩
  have HLA6 := hide hlA6
  have HR := hR.rd (B := w9.heap.size) fun b hb => hb.2
  clear hR hlA6
  have HK1 : Hid (Below w.heap.size w w9 ∧ Rd SP w9 w9.heap.size A l ∧ Rd SH w9 w9.heap.size B f ∧ Rd SH w9 w9.heap.size C t ∧ Rd SP w9 w9.heap.size A1 (srtS l) ∧ Rd SP w9 w9.heap.size A2 (srtS l) ∧ Rd SP w9 w9.heap.size A3 ((srtS l).take (lstN k n)) ∧ Rd SP w9 w9.heap.size A4 ((srtS l).take (lstN k n)) ∧ Rd SH w9 w9.heap.size A5 (dd (srtH (f ++ t))) ∧ Rd SH w9 w9.heap.size A6 (dd (srtH (f ++ t)))) := hide (⟨((stab_below w) w8 w9 HK.out.1 hb), ((stab_rd SP A l) w8 w9 HK.out.2.1 hb), ((stab_rd SH B f) w8 w9 HK.out.2.2.1 hb), ((stab_rd SH C t) w8 w9 HK.out.2.2.2.1 hb), ((stab_rd SP A1 (srtS l)) w8 w9 HK.out.2.2.2.2.1 hb), ((stab_rd SP A2 (srtS l)) w8 w9 HK.out.2.2.2.2.2.1 hb), ((stab_rd SP A3 ((srtS l).take (lstN k n))) w8 w9 HK.out.2.2.2.2.2.2.1 hb), ((stab_rd SP A4 ((srtS l).take (lstN k n))) w8 w9 HK.out.2.2.2.2.2.2.2.1 hb), ((stab_rd SH A5 (dd (srtH (f ++ t)))) w8 w9 HK.out.2.2.2.2.2.2.2.2 hb), HR⟩)
  clear HK hb
  have HK := HK1
  clear HK1
  clear HR
  go_wp2_with fail
  refine (Stab.call (K := (fun W => Below w.heap.size w W ∧ Rd SP W W.heap.size A l ∧ Rd SH W W.heap.size B f ∧ Rd SH W W.heap.size C t ∧ Rd SP W W.heap.size A1 (srtS l) ∧ Rd SP W W.heap.size A2 (srtS l) ∧ Rd SP W W.heap.size A3 ((srtS l).take (lstN k n)) ∧ Rd SP W W.heap.size A4 ((srtS l).take (lstN k n)) ∧ Rd SH W W.heap.size A5 (dd (srtH (f ++ t))) ∧ Rd SH W W.heap.size A6 (dd (srtH (f ++ t))))) (stab_and (stab_below w) (stab_and (stab_rd SP A l) (stab_and (stab_rd SH B f) (stab_and (stab_rd SH C t) (stab_and (stab_rd SP A1 (srtS l)) (stab_and (stab_rd SP A2 (srtS l)) (stab_and (stab_rd SP A3 ((srtS l).take (lstN k n))) (stab_and (stab_rd SP A4 ((srtS l).take (lstN k n))) (stab_and (stab_rd SH A5 (dd (srtH (f ++ t)))) (stab_rd SH A6 (dd (srtH (f ++ t))))))))))))) HK.out (Below.refl _ w9) (.bool true) (calls_drew (sameHits_any A5 A6 nA5 cA5 nA6 cA6 (dd (srtH (f ++ t))) (dd (srtH (f ++ t))) _ ((stab_rd SH A5 (dd (srtH (f ++ t)))) w9 w9 HK.out.2.2.2.2.2.2.2.2.1 (Below.refl _ w9)) HLA5.out hnA5 hmA5 ((stab_rd SH A6 (dd (srtH (f ++ t)))) w9 w9 HK.out.2.2.2.2.2.2.2.2.2 (Below.refl _ w9)) HLA6.out hnA6 hmA6)) (congrArg Value.bool (decide_eq_true rfl))).mono ?_
  rintro e w10 ⟨rfl, hK⟩
  have HK' := hide hK
  clear hK HK
  have HK := HK'
  clear HK'
  go_wp2_with fail
  refine (Stab.call (K := (fun W => Below w.heap.size w W ∧ Rd SP W W.heap.size A l ∧ Rd SH W W.heap.size B f ∧ Rd SH W W.heap.size C t ∧ Rd SP W W.heap.size A1 (srtS l) ∧ Rd SP W W.heap.size A2 (srtS l) ∧ Rd SP W W.heap.size A3 ((srtS l).take (lstN k n)) ∧ Rd SP W W.heap.size A4 ((srtS l).take (lstN k n)) ∧ Rd SH W W.heap.size A5 (dd (srtH (f ++ t))) ∧ Rd SH W W.heap.size A6 (dd (srtH (f ++ t))))) (stab_and (stab_below w) (stab_and (stab_rd SP A l) (stab_and (stab_rd SH B f) (stab_and (stab_rd SH C t) (stab_and (stab_rd SP A1 (srtS l)) (stab_and (stab_rd SP A2 (srtS l)) (stab_and (stab_rd SP A3 ((srtS l).take (lstN k n))) (stab_and (stab_rd SP A4 ((srtS l).take (lstN k n))) (stab_and (stab_rd SH A5 (dd (srtH (f ++ t)))) (stab_rd SH A6 (dd (srtH (f ++ t))))))))))))) HK.out (Below.refl _ w10) (.bool (ris f)) (rising_any B m d f _ ((stab_rd SH B f) w10 w10 HK.out.2.2.1 (Below.refl _ w10)) Hm.out hd hm' (by omega)) (rfl)).mono ?_
  rintro e w11 ⟨rfl, hK⟩
  have HK' := hide hK
  clear hK HK
  have HK := HK'
  clear HK'
  go_wp2_with fail
  refine (Stab.call (K := (fun W => Below w.heap.size w W ∧ Rd SP W W.heap.size A l ∧ Rd SH W W.heap.size B f ∧ Rd SH W W.heap.size C t ∧ Rd SP W W.heap.size A1 (srtS l) ∧ Rd SP W W.heap.size A2 (srtS l) ∧ Rd SP W W.heap.size A3 ((srtS l).take (lstN k n)) ∧ Rd SP W W.heap.size A4 ((srtS l).take (lstN k n)) ∧ Rd SH W W.heap.size A5 (dd (srtH (f ++ t))) ∧ Rd SH W W.heap.size A6 (dd (srtH (f ++ t))))) (stab_and (stab_below w) (stab_and (stab_rd SP A l) (stab_and (stab_rd SH B f) (stab_and (stab_rd SH C t) (stab_and (stab_rd SP A1 (srtS l)) (stab_and (stab_rd SP A2 (srtS l)) (stab_and (stab_rd SP A3 ((srtS l).take (lstN k n))) (stab_and (stab_rd SP A4 ((srtS l).take (lstN k n))) (stab_and (stab_rd SH A5 (dd (srtH (f ++ t)))) (stab_rd SH A6 (dd (srtH (f ++ t))))))))))))) HK.out (Below.refl _ w11) (.bool (ris f)) (refRising_any B m d f _ ((stab_rd SH B f) w11 w11 HK.out.2.2.1 (Below.refl _ w11)) Hm.out hd hm' (by omega)) (rfl)).mono ?_
  rintro e w12 ⟨rfl, hK⟩
  have HK' := hide hK
  clear hK HK
  have HK := HK'
  clear HK'
  have e1 : (ris f == ris f) = true := by simp
  go_wp2_with fail
  go_ret
  exact ⟨rfl, HK.out.1⟩
end Go.Proofs.Ytohccblecgmdbaa
