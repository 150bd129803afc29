/-
  The law ExploreTells. Conditions: the slices read as lists of ints.
-/
import Derived.Test.YtpnekmkbedhooaaExpQ
namespace Go.Proofs.Ytpnekmkbedhooaa
open Go.RowKit

open Classical in
/-- the order of a number, as a list of ints; none: no ints -/
noncomputable def ordOf (xs : List Int) (N : Nat) : List Int := if h : N < cntOf xs ∧ ∃ o, Nth (tn xs) N o then ni h.2.choose else []
theorem ordOf_of {xs : List Int} {N : Nat} {o : List Nat} (h : N < cntOf xs) (ho : Nth (tn xs) N o) : ordOf xs N = ni o := by
  unfold ordOf
  have k : N < cntOf xs ∧ ∃ o, Nth (tn xs) N o := ⟨h, o, ho⟩
  rw [dif_pos k, nth_one k.2.choose_spec ho]
theorem ordOf_no {xs : List Int} {N : Nat} (h : ¬ N < cntOf xs) : ordOf xs N = [] := by
  unfold ordOf
  rw [dif_neg fun k => h k.1]
def NthIs (w : World) (xs : List Int) (N : Nat) (e : Ending) (w' : World) : Prop := ∃ v, e = .returned (.tuple #[v, .bool (decide (N < cntOf xs))]) ∧ NewInts .i64 w (ordOf xs N) v w'
theorem NthGives.is {w w' : World} {xs : List Int} {N : Nat} {e : Ending} (h : NthGives w xs N e w') : NthIs w xs N e w' := by
  rcases h with ⟨hlt, v, o, rfl, h1, h2⟩ | ⟨hno, rfl, hb⟩
  · exact ⟨v, by rw [decide_eq_true hlt], by rw [ordOf_of hlt h1]; exact h2⟩
  · exact ⟨_, by rw [decide_eq_false hno], by rw [ordOf_no hno]; exact NewInts.nil hb⟩
theorem PlaceGives.is {w w' : World} {xs os : List Int} {e : Ending} (h : PlaceGives w xs os e w') : e = .returned (.tuple #[.int .u64 ((plaOf xs os).getD 0 : Nat), .bool (plaOf xs os).isSome]) ∧ Below w.heap.size w w' := by
  obtain ⟨⟨p, h1, rfl⟩ | ⟨h1, rfl⟩, hb⟩ := h
  · exact ⟨by rw [h1]; rfl, hb⟩
  · exact ⟨by rw [h1]; rfl, hb⟩

set_option maxHeartbeats 4000000 in
set_option maxRecDepth 100000 in
theorem tells_any (A O : Option Addr) (n c q d N : Nat) (xs os : List Int) (w : World) (hx : I64s w w.heap.size A xs) (hn : xs.length = n) (hc : n ≤ c) (hm : c ≤ 9223372036854775807) (hN' : N < 18446744073709551616)
    (hy : I64s w w.heap.size O os) (hq : os.length = q) (hd : q ≤ d) (hm' : d ≤ 9223372036854775807) :
    Calls Try.prog 4 #[.slice A n c, .int .u64 N, .slice O q d] w fun e w' => e = .returned (.bool true) ∧ Below w.heap.size w w' := by
  rcases Nat.lt_or_ge 200 q with h2 | h2
  · have b1 : decide ((200 : Int) < q) = true := by simp; omega
    clear hx hy
    go_enter Try.func4, Try.ntmps4
    go_wp2_with (go_at_call 5; refine (lives_any _).mono ?_; rintro e w1 ⟨rfl, hb⟩)
    go_ret
    exact ⟨rfl, hb⟩
  have b1 : decide ((200 : Int) < q) = false := by simp; omega
  have HK : Hid (Below w.heap.size w w ∧ Rd (Sh.int .i64) w w.heap.size A xs ∧ Rd (Sh.int .i64) w w.heap.size O os) := hide ⟨Below.refl _ _, hx, hy⟩
  have Hn := hide hn
  have Hq := hide hq
  clear hx hy hn hq
  go_enter Try.func4, Try.ntmps4
  go_wp2_with fail
  refine ((eNth_any A n c N xs w ((stab_rd (Sh.int .i64) A xs) w w HK.out.2.1 (Below.refl _ w)) Hn.out hc hm hN').mono fun _ _ h => NthGives.is h).mono ?_
  rintro e w1 ⟨v, rfl, A1, nA1, cA1, rfl, hlA1, hnA1, hmA1, hR, hb⟩
  have HLA1 := hide hlA1
  have HR := hR.rd (B := w1.heap.size) fun b hb => hb.2
  clear hR hlA1
  have HK1 : Hid (Below w.heap.size w w1 ∧ Rd (Sh.int .i64) w1 w1.heap.size A xs ∧ Rd (Sh.int .i64) w1 w1.heap.size O os ∧ Rd (Sh.int .i64) w1 w1.heap.size A1 (ordOf xs N)) := hide (⟨((stab_below w) w w1 HK.out.1 hb), ((stab_rd (Sh.int .i64) A xs) w w1 HK.out.2.1 hb), ((stab_rd (Sh.int .i64) O os) w w1 HK.out.2.2 hb), HR⟩)
  clear HK hb
  have HK := HK1
  clear HK1
  clear HR
  go_wp2_with fail
  refine ((refENth_any A n c N xs w1 ((stab_rd (Sh.int .i64) A xs) w1 w1 HK.out.2.1 (Below.refl _ w1)) Hn.out hc hm hN').mono fun _ _ h => NthGives.is h).mono ?_
  rintro e w2 ⟨v, rfl, A2, nA2, cA2, rfl, hlA2, hnA2, hmA2, hR, hb⟩
  have HLA2 := hide hlA2
  have HR := hR.rd (B := w2.heap.size) fun b hb => hb.2
  clear hR hlA2
  have HK1 : Hid (Below w.heap.size w w2 ∧ Rd (Sh.int .i64) w2 w2.heap.size A xs ∧ Rd (Sh.int .i64) w2 w2.heap.size O os ∧ Rd (Sh.int .i64) w2 w2.heap.size A1 (ordOf xs N) ∧ Rd (Sh.int .i64) w2 w2.heap.size A2 (ordOf xs N)) := hide (⟨((stab_below w) w1 w2 HK.out.1 hb), ((stab_rd (Sh.int .i64) A xs) w1 w2 HK.out.2.1 hb), ((stab_rd (Sh.int .i64) O os) w1 w2 HK.out.2.2.1 hb), ((stab_rd (Sh.int .i64) A1 (ordOf xs N)) w1 w2 HK.out.2.2.2 hb), HR⟩)
  clear HK hb
  have HK := HK1
  clear HK1
  clear HR
  go_wp2_with fail
  refine (Stab.call (K := (fun W => Below w.heap.size w W ∧ Rd (Sh.int .i64) W W.heap.size A xs ∧ Rd (Sh.int .i64) W W.heap.size O os ∧ Rd (Sh.int .i64) W W.heap.size A1 (ordOf xs N) ∧ Rd (Sh.int .i64) W W.heap.size A2 (ordOf xs N))) (stab_and (stab_below w) (stab_and (stab_rd (Sh.int .i64) A xs) (stab_and (stab_rd (Sh.int .i64) O os) (stab_and (stab_rd (Sh.int .i64) A1 (ordOf xs N)) (stab_rd (Sh.int .i64) A2 (ordOf xs N)))))) HK.out (Below.refl _ w2) (.tuple #[.int .u64 ((plaOf xs os).getD 0 : Nat), .bool (plaOf xs os).isSome]) ((ePlace_any A O n c q d xs os _ ((stab_rd (Sh.int .i64) A xs) w2 w2 HK.out.2.1 (Below.refl _ w2)) Hn.out hc hm ((stab_rd (Sh.int .i64) O os) w2 w2 HK.out.2.2.1 (Below.refl _ w2)) Hq.out hd hm').mono fun _ _ h => PlaceGives.is h) (rfl)).mono ?_
  rintro e w3 ⟨rfl, hK⟩
  have HK' := hide hK
  clear hK HK
  have HK := HK'
  clear HK'
  go_wp2_with fail
  refine (Stab.call (K := (fun W => Below w.heap.size w W ∧ Rd (Sh.int .i64) W W.heap.size A xs ∧ Rd (Sh.int .i64) W W.heap.size O os ∧ Rd (Sh.int .i64) W W.heap.size A1 (ordOf xs N) ∧ Rd (Sh.int .i64) W W.heap.size A2 (ordOf xs N))) (stab_and (stab_below w) (stab_and (stab_rd (Sh.int .i64) A xs) (stab_and (stab_rd (Sh.int .i64) O os) (stab_and (stab_rd (Sh.int .i64) A1 (ordOf xs N)) (stab_rd (Sh.int .i64) A2 (ordOf xs N)))))) HK.out (Below.refl _ w3) (.tuple #[.int .u64 ((plaOf xs os).getD 0 : Nat), .bool (plaOf xs os).isSome]) ((refEPlace_any A O n c q d xs os _ ((stab_rd (Sh.int .i64) A xs) w3 w3 HK.out.2.1 (Below.refl _ w3)) Hn.out hc hm ((stab_rd (Sh.int .i64) O os) w3 w3 HK.out.2.2.1 (Below.refl _ w3)) Hq.out hd hm').mono fun _ _ h => PlaceGives.is h) (rfl)).mono ?_
  rintro e w4 ⟨rfl, hK⟩
  have HK' := hide hK
  clear hK HK
  have HK := HK'
  clear HK'
  go_wp2_with fail
  refine (acts_any O q d os _ ((stab_rd (Sh.int .i64) O os) w4 w4 HK.out.2.2.1 (Below.refl _ w4)) Hq.out hd hm' (by omega)).mono ?_
  rintro e w5 ⟨g, rfl, _, hA, hb⟩
  have hb := Below.step (Below.refl _ w4) hb
  have HA : ActAt os g w5 := ⟨hA.lt, hA⟩
  clear hA
  have HK1 : Hid (Below w.heap.size w w5 ∧ Rd (Sh.int .i64) w5 w5.heap.size A xs ∧ Rd (Sh.int .i64) w5 w5.heap.size O os ∧ Rd (Sh.int .i64) w5 w5.heap.size A1 (ordOf xs N) ∧ Rd (Sh.int .i64) w5 w5.heap.size A2 (ordOf xs N) ∧ ActAt os g w5) := hide (⟨((stab_below w) w4 w5 HK.out.1 hb), ((stab_rd (Sh.int .i64) A xs) w4 w5 HK.out.2.1 hb), ((stab_rd (Sh.int .i64) O os) w4 w5 HK.out.2.2.1 hb), ((stab_rd (Sh.int .i64) A1 (ordOf xs N)) w4 w5 HK.out.2.2.2.1 hb), ((stab_rd (Sh.int .i64) A2 (ordOf xs N)) w4 w5 HK.out.2.2.2.2 hb), HA⟩)
  clear HK hb
  have HK := HK1
  clear HK1
  clear HA
  rw [Hq.out]
  go_wp2_with fail
  go_loopw [16, 17, 55] (fun _ _ i wr => ∃ k : Nat, k ≤ q ∧ i = .int .i64 k ∧ Hid (Below w.heap.size w wr ∧ Rd (Sh.int .i64) wr wr.heap.size A xs ∧ Rd (Sh.int .i64) wr wr.heap.size O os ∧ Rd (Sh.int .i64) wr wr.heap.size A1 (ordOf xs N) ∧ Rd (Sh.int .i64) wr wr.heap.size A2 (ordOf xs N) ∧ ActAt os g wr)) (fun _ _ i _ => q - (intOf i).toNat)
  case atStart => exact ⟨0, by omega, rfl, HK⟩
  case round =>
    clear HK
    obtain ⟨k, hk, rfl, HK⟩ := hrel
    by_cases hlt : k < q
    · obtain ⟨ad, x, rfl, hadlt, hv, q0⟩ := (show Rd (Sh.int .i64) wr wr.heap.size O os from HK.out.2.2.1).icell (k := k) (by have := Hq.out; omega)
      have g0 : (0 : Int) ≤ k := by omega
      have g1 : (k : Int) < q := by omega
      have HA := hide (show ActAt os g wr from HK.out.2.2.2.2.2)
      have hxx : (x != x) = false := by simp
      have cell : ∀ j, j < 8 → wr.cell? ⟨g, k * 8 + j, none⟩ = some (if j = 0 then .int .i64 x else actZ j) := fun j hj => by
        rw [HA.out.2.cell, vcs_get _ _ _ (by have := Hq.out; omega), actC]
        by_cases e : j = 0
        · subst e
          rw [if_pos (by omega), if_pos (by have := Hq.out; omega), if_pos rfl, show (k * 8 + 0) / 8 = k by omega, List.getD_eq_getElem?_getD, hv]; rfl
        · rw [if_neg (by omega), if_neg e, show (k * 8 + j) % 8 = j by omega]
      have c0 : wr.cell? ⟨g, k * 8, none⟩ = some (.int .i64 x) := cell 0 (by omega)
      have c1 : wr.cell? ⟨g, k * 8 + 1, none⟩ = some (.int .i64 0) := cell 1 (by omega)
      have c2 : wr.cell? ⟨g, k * 8 + 2, none⟩ = some (.int .u64 0) := cell 2 (by omega)
      have c3 : wr.cell? ⟨g, k * 8 + 3, none⟩ = some (.slice none 0 0) := cell 3 (by omega)
      have c4 : wr.cell? ⟨g, k * 8 + 4, none⟩ = some (.int .u64 0) := cell 4 (by omega)
      have c5 : wr.cell? ⟨g, k * 8 + 5, none⟩ = some (.int .i64 0) := cell 5 (by omega)
      have c6 : wr.cell? ⟨g, k * 8 + 6, none⟩ = some (.int .i64 0) := cell 6 (by omega)
      have c7 : wr.cell? ⟨g, k * 8 + 7, none⟩ = some (.int .u64 0) := cell 7 (by omega)
      clear cell hv
      go_upto_region 13 with fail
      have HBX := hide (Blk.new wr 39 #[.int .i64 x, .int .i64 0, .int .u64 0, .slice none 0 0, .int .u64 0, .int .i64 0, .int .i64 0, .int .u64 0])
      have HBW := hide (below1 wr (.cells #[.int .i64 x, .int .i64 0, .int .u64 0, .slice none 0 0, .int .u64 0, .int .i64 0, .int .i64 0, .int .u64 0] 39))
      generalize wr.alloc (.cells #[.int .i64 x, .int .i64 0, .int .u64 0, .slice none 0 0, .int .u64 0, .int .i64 0, .int .i64 0, .int .u64 0] 39) = w7 at *
      have q9 : w7.cell? (ad.add k) = some (.int .i64 x) := (HBW.out.cell (p := ad.add k) (by unfold Addr.add; split <;> exact hadlt)).trans q0
      have z0 : w7.cell? ⟨wr.heap.size, 0, none⟩ = some (.int .i64 x) := HBX.out.cell 0
      have z1 : w7.cell? ⟨wr.heap.size, 1, none⟩ = some (.int .i64 0) := HBX.out.cell 1
      have z2 : w7.cell? ⟨wr.heap.size, 2, none⟩ = some (.int .u64 0) := HBX.out.cell 2
      have z3 : w7.cell? ⟨wr.heap.size, 3, none⟩ = some (.slice none 0 0) := HBX.out.cell 3
      have z4 : w7.cell? ⟨wr.heap.size, 4, none⟩ = some (.int .u64 0) := HBX.out.cell 4
      have z5 : w7.cell? ⟨wr.heap.size, 5, none⟩ = some (.int .i64 0) := HBX.out.cell 5
      have z6 : w7.cell? ⟨wr.heap.size, 6, none⟩ = some (.int .i64 0) := HBX.out.cell 6
      have z7 : w7.cell? ⟨wr.heap.size, 7, none⟩ = some (.int .u64 0) := HBX.out.cell 7
      clear q0 c0 c1 c2 c3 c4 c5 c6 c7
      go_region_law ((go_simp; go_at_call 12; refine (sameCallZ _).mono ?_; rintro e w8 ⟨rfl, hb⟩; have HB8 := hide (HBW.out.drew.trans (hb.mono HBW.out.size)); clear hb))
      all_goals
        go_wp2
        refine ⟨⟨k + 1, by omega, by go_num, hide ((stab_and (stab_below w) (stab_and (stab_rd (Sh.int .i64) A xs) (stab_and (stab_rd (Sh.int .i64) (some ad) os) (stab_and (stab_rd (Sh.int .i64) A1 (ordOf xs N)) (stab_and (stab_rd (Sh.int .i64) A2 (ordOf xs N)) (stab_act os g)))))) wr _ HK.out HB8.out)⟩, ?_⟩
        simp [intOf]; omega
    · obtain rfl : q = k := by omega
      go_wp2_with fail
      refine (Stab.call (K := (fun W => Below w.heap.size w W ∧ Rd (Sh.int .i64) W W.heap.size A xs ∧ Rd (Sh.int .i64) W W.heap.size O os ∧ Rd (Sh.int .i64) W W.heap.size A1 (ordOf xs N) ∧ Rd (Sh.int .i64) W W.heap.size A2 (ordOf xs N) ∧ ActAt os g W)) (stab_and (stab_below w) (stab_and (stab_rd (Sh.int .i64) A xs) (stab_and (stab_rd (Sh.int .i64) O os) (stab_and (stab_rd (Sh.int .i64) A1 (ordOf xs N)) (stab_and (stab_rd (Sh.int .i64) A2 (ordOf xs N)) (stab_act os g)))))) HK.out (Below.refl _ wr) (.bool true) (lives_any _) (rfl)).mono ?_
      rintro e w6 ⟨rfl, hK⟩
      have HK' := hide hK
      clear hK HK
      have HK := HK'
      clear HK'
      go_wp2_with fail
      refine (Stab.call (K := (fun W => Below w.heap.size w W ∧ Rd (Sh.int .i64) W W.heap.size A xs ∧ Rd (Sh.int .i64) W W.heap.size O os ∧ Rd (Sh.int .i64) W W.heap.size A1 (ordOf xs N) ∧ Rd (Sh.int .i64) W W.heap.size A2 (ordOf xs N) ∧ ActAt os g W)) (stab_and (stab_below w) (stab_and (stab_rd (Sh.int .i64) A xs) (stab_and (stab_rd (Sh.int .i64) O os) (stab_and (stab_rd (Sh.int .i64) A1 (ordOf xs N)) (stab_and (stab_rd (Sh.int .i64) A2 (ordOf xs N)) (stab_act os g)))))) HK.out (Below.refl _ w6) (.int .u64 (cntOf xs : Nat)) (eCount_any A n c xs _ ((stab_rd (Sh.int .i64) A xs) w6 w6 HK.out.2.1 (Below.refl _ w6)) Hn.out hc hm) (rfl)).mono ?_
      rintro e w7 ⟨rfl, hK⟩
      have HK' := hide hK
      clear hK HK
      have HK := HK'
      clear HK'
      go_wp2_with fail
      refine (Stab.call (K := (fun W => Below w.heap.size w W ∧ Rd (Sh.int .i64) W W.heap.size A xs ∧ Rd (Sh.int .i64) W W.heap.size O os ∧ Rd (Sh.int .i64) W W.heap.size A1 (ordOf xs N) ∧ Rd (Sh.int .i64) W W.heap.size A2 (ordOf xs N) ∧ ActAt os g W)) (stab_and (stab_below w) (stab_and (stab_rd (Sh.int .i64) A xs) (stab_and (stab_rd (Sh.int .i64) O os) (stab_and (stab_rd (Sh.int .i64) A1 (ordOf xs N)) (stab_and (stab_rd (Sh.int .i64) A2 (ordOf xs N)) (stab_act os g)))))) HK.out (Below.refl _ w7) (.int .u64 (cntOf xs : Nat)) (refECount_any A n c xs _ ((stab_rd (Sh.int .i64) A xs) w7 w7 HK.out.2.1 (Below.refl _ w7)) Hn.out hc hm) (rfl)).mono ?_
      rintro e w8 ⟨rfl, hK⟩
      have HK' := hide hK
      clear hK HK
      have HK := HK'
      clear HK'
      have hee : (((cntOf xs : Nat) : Int) == (cntOf xs : Nat)) = true := by simp
      go_wp2_with fail
      refine (Stab.call (K := (fun W => Below w.heap.size w W ∧ Rd (Sh.int .i64) W W.heap.size A xs ∧ Rd (Sh.int .i64) W W.heap.size O os ∧ Rd (Sh.int .i64) W W.heap.size A1 (ordOf xs N) ∧ Rd (Sh.int .i64) W W.heap.size A2 (ordOf xs N) ∧ ActAt os g W)) (stab_and (stab_below w) (stab_and (stab_rd (Sh.int .i64) A xs) (stab_and (stab_rd (Sh.int .i64) O os) (stab_and (stab_rd (Sh.int .i64) A1 (ordOf xs N)) (stab_and (stab_rd (Sh.int .i64) A2 (ordOf xs N)) (stab_act os g)))))) HK.out (Below.refl _ w8) (.bool true) (calls_drew (sameInts_any A1 A2 nA1 cA1 nA2 cA2 (ordOf xs N) (ordOf xs N) _ ((stab_rd (Sh.int .i64) A1 (ordOf xs N)) w8 w8 HK.out.2.2.2.1 (Below.refl _ w8)) HLA1.out hnA1 hmA1 ((stab_rd (Sh.int .i64) A2 (ordOf xs N)) w8 w8 HK.out.2.2.2.2.1 (Below.refl _ w8)) HLA2.out hnA2 hmA2)) (congrArg Value.bool (decide_eq_true rfl))).mono ?_
      rintro e w9 ⟨rfl, hK⟩
      have HK' := hide hK
      clear hK HK
      have HK := HK'
      clear HK'
      have e1 : ((((plaOf xs os).getD 0 : Nat) : Int) == (((plaOf xs os).getD 0 : Nat) : Int)) = true := by simp
      have e2 : ((plaOf xs os).isSome == (plaOf xs os).isSome) = true := by simp
      have e3 : (decide (N < cntOf xs) == decide (N < cntOf xs)) = true := by simp
      go_wp2_with fail
      go_ret
      exact ⟨rfl, HK.out.1⟩
end Go.Proofs.Ytpnekmkbedhooaa
