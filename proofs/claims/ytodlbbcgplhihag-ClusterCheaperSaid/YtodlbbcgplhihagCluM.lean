/-
  The law ClusterTells. Conditions: the slices read as lists of int32s.
-/
import Derived.Test.YtodlbbcgplhihagCluL
namespace Go.Proofs.Ytodlbbcgplhihag
open Go.RowKit

/-- few vectors, all of them short -/
def fewB (l : List (List Int)) : Bool := decide (l.length ≤ 40) && l.all fun v => decide (v.length ≤ 50)
theorem fewB_spec {l : List (List Int)} (h : fewB l = true) : l.length ≤ 40 ∧ ∀ v ∈ l, v.length ≤ 50 := by
  unfold fewB at h
  rw [Bool.and_eq_true, List.all_eq_true] at h
  exact ⟨of_decide_eq_true h.1, fun v hv => of_decide_eq_true (h.2 v hv)⟩
theorem fewB_no {l : List (List Int)} {k : Nat} {v : List Int} (hv : l[k]? = some v) (h : 50 < v.length) : fewB l = false := by
  unfold fewB
  have : l.all (fun v => decide (v.length ≤ 50)) = false := by
    rw [List.all_eq_false]
    exact ⟨v, List.mem_of_getElem? hv, by simp; omega⟩
  rw [this, Bool.and_false]
set_option maxHeartbeats 1000000 in
theorem few_any (A : Option Addr) (n c : Nat) (l : List (List Int)) (w : World) (hx : LL w w.heap.size A l) (hn : l.length = n) (hc : n ≤ c) (hm : c ≤ 9223372036854775807) :
    Calls Try.prog 6 #[.slice A n c] w fun e w' => e = .returned (.bool (fewB l)) ∧ w = w' := by
  have HX := hide hx
  have Hn := hide hn
  clear hx
  by_cases h1 : 40 < (n : Int)
  · have HF := hide (show fewB l = false by unfold fewB; rw [decide_eq_false (by omega), Bool.false_and])
    have b1 : decide (40 < (n : Int)) = true := decide_eq_true h1
    clear hn
    go_enter Try.func6, Try.ntmps6
    go_wp2
    go_ret
    exact ⟨by rw [HF.out]; rfl, rfl⟩
  · have b1 : decide (40 < (n : Int)) = false := decide_eq_false h1
    clear hn
    go_enter Try.func6, Try.ntmps6
    go_wp2
    go_loopw [10] (fun i wr => ∃ k : Nat, k ≤ n ∧ i = .int .i64 k ∧ Hid (∀ (j : Nat) (v : List Int), j < k → l[j]? = some v → v.length ≤ 50) ∧ w = wr) (fun i _ => n - (intOf i).toNat)
    case atStart => exact ⟨0, by omega, rfl, hide (fun j v h => by omega), by first | rfl | trivial⟩
    case round =>
      obtain ⟨k, hk, rfl, hev, rfl⟩ := hrel
      by_cases hlt : k < n
      · obtain ⟨ad', v, A', c', rfl, _, hv, q0, q1, q2, q3⟩ := HX.out.slc (k := k) (by have := Hn.out; omega)
        have HV := hide hv
        have g0 : (0 : Int) ≤ k := by omega
        have g1 : (k : Int) < n := by omega
        by_cases hvl : 50 < (v.length : Int)
        · have HF := hide (fewB_no hv (by omega))
          have b2 : decide (50 < (v.length : Int)) = true := decide_eq_true hvl
          clear hv q3
          go_wp2
          go_ret
          exact ⟨by rw [HF.out]; rfl, rfl⟩
        · have b2 : decide (50 < (v.length : Int)) = false := decide_eq_false hvl
          clear hv q3
          go_wp2
          go_roundw
          case rel => exact ⟨k + 1, by omega, by go_num, hide (fun j v' hj hv' => by
            rcases Nat.lt_or_ge j k with h | h
            · exact hev.out j v' h hv'
            · obtain rfl : j = k := by omega
              rw [HV.out] at hv'; injection hv' with hv'; rw [← hv']; omega), by first | rfl | trivial⟩
          case measure => simp [intOf]; omega
      · obtain rfl : n = k := by omega
        have HF : Hid (fewB l = true) := hide (by
          unfold fewB
          rw [decide_eq_true (by have := Hn.out; omega), Bool.true_and, List.all_eq_true]
          intro v hv
          obtain ⟨j, hj⟩ := List.getElem?_of_mem hv
          exact decide_eq_true (hev.out j v (by have := (List.getElem?_eq_some_iff.1 hj).1; have := Hn.out; omega) hj))
        go_wp2
        go_ret
        exact ⟨by rw [HF.out]; rfl, rfl⟩
set_option maxHeartbeats 4000000 in
set_option maxRecDepth 100000 in
theorem tells_any (A B : Option Addr) (n c m d : Nat) (l cs : List (List Int)) (a : Int) (w : World) (hx : LL w w.heap.size A l) (hn : l.length = n) (hc : n ≤ c) (hm : c ≤ 9223372036854775807) (hi : ∀ v ∈ l, I32 v)
    (hy : LL w w.heap.size B cs) (hn' : cs.length = m) (hyi : ∀ u ∈ cs, I32 u) (hd : m ≤ d) (hm' : d ≤ 9223372036854775807) :
    Calls Try.prog 4 #[.slice A n c, .slice B m d, .int .i64 a] w fun e w' => e = .returned (.bool true) ∧ Below w.heap.size w w' := by
  have HI := hide hi
  have HYI := hide hyi
  have Hn := hide hn
  have Hm := hide hn'
  have F1 := hide (few_any A n c l w hx hn hc hm)
  have F2 := hide (few_any B m d cs w hy hn' hd hm')
  have HX := hide hx
  have HY := hide hy
  have four : (fewB l = false) ∨ (fewB l = true ∧ fewB cs = false) ∨ (fewB l = true ∧ fewB cs = true ∧ 40 < a) ∨ (fewB l = true ∧ fewB cs = true ∧ a ≤ 40) := by
    cases fewB l <;> cases fewB cs <;> simp <;> omega
  have HF := hide four
  clear hx hy hi hyi hn hn' four
  rcases HF.out with h1 | ⟨h1, h2⟩ | ⟨h1, h2, h3⟩ | ⟨h1, h2, h3⟩
  · rw [h1] at F1
    clear h1 HF
    go_enter Try.func4, Try.ntmps4
    go_wp2_with (first
      | (go_at_call 6; (with_reducible refine Calls.mono F1.out ?_); rintro e _ ⟨rfl, rfl⟩)
      | (go_at_call 5; refine (lives_any _).mono ?_; rintro e w1 ⟨rfl, hb⟩))
    go_ret
    exact ⟨rfl, hb⟩
  · rw [h1] at F1
    rw [h2] at F2
    clear h1 h2 HF
    go_enter Try.func4, Try.ntmps4
    go_wp2_with (first
      | (go_at_call 6; (first | (with_reducible refine Calls.mono F1.out ?_) | (with_reducible refine Calls.mono F2.out ?_)); rintro e _ ⟨rfl, rfl⟩)
      | (go_at_call 5; refine (lives_any _).mono ?_; rintro e w1 ⟨rfl, hb⟩))
    go_ret
    exact ⟨rfl, hb⟩
  · rw [h1] at F1
    rw [h2] at F2
    have b3 : decide (40 < a) = true := decide_eq_true h3
    clear h1 h2 HF
    go_enter Try.func4, Try.ntmps4
    go_wp2_with (first
      | (go_at_call 6; (first | (with_reducible refine Calls.mono F1.out ?_) | (with_reducible refine Calls.mono F2.out ?_)); rintro e _ ⟨rfl, rfl⟩)
      | (go_at_call 5; refine (lives_any _).mono ?_; rintro e w1 ⟨rfl, hb⟩))
    go_ret
    exact ⟨rfl, hb⟩
  · rw [h1] at F1
    rw [h2] at F2
    have b3 : decide (40 < a) = false := decide_eq_false (by omega)
    obtain ⟨s1, s2⟩ := fewB_spec h1
    obtain ⟨s3, s4⟩ := fewB_spec h2
    rw [Hn.out] at s1
    rw [Hm.out] at s3
    have HL1 : Hid (∀ v ∈ l, v.length ≤ 1000000) := hide (fun v hv => by have := s2 v hv; omega)
    have HL2 : Hid (∀ u ∈ cs, u.length ≤ 1000000) := hide (fun v hv => by have := s4 v hv; omega)
    have HYI2 : Hid (∀ u ∈ cs, I32 u ∧ u.length ≤ 1000000) := hide (fun v hv => ⟨HYI.out v hv, HL2.out v hv⟩)
    have HK : Hid (Below w.heap.size w w ∧ Rd (Sh.list (Sh.int .i32)) w w.heap.size A l ∧ Rd (Sh.list (Sh.int .i32)) w w.heap.size B cs) := hide ⟨Below.refl _ _, HX.out, HY.out⟩
    clear h1 h2 s2 s4 HF
    go_enter Try.func4, Try.ntmps4
    go_upto_region 3 with (first
      | (go_at_call 6; (first | (with_reducible refine Calls.mono F1.out ?_) | (with_reducible refine Calls.mono F2.out ?_)); rintro e _ ⟨rfl, rfl⟩))
    clear F1 F2
    go_wp2_with fail
    refine (run_any A B n c m d l cs a w ((stab_rd (Sh.list (Sh.int .i32)) A l) w w HK.out.2.1 (Below.refl _ w)) Hn.out hc hm HI.out ((stab_rd (Sh.list (Sh.int .i32)) B cs) w w HK.out.2.2 (Below.refl _ w)) Hm.out HYI2.out hd hm' (by omega) (by omega) HL1.out (by omega)).mono ?_
    rintro e w1 ⟨v, nP, rfl, hrP, AP, mP, cP, rfl, hlP, hnP, hmP, hR, hb⟩
    have HRP := hide hrP
    have HLP := hide hlP
    have HR := hR.rd (B := w1.heap.size) fun b hb => hb.2
    clear hR hrP hlP
    have HK1 : Hid (Below w.heap.size w w1 ∧ Rd (Sh.list (Sh.int .i32)) w1 w1.heap.size A l ∧ Rd (Sh.list (Sh.int .i32)) w1 w1.heap.size B cs ∧ Rd (Sh.list (Sh.int .i32)) w1 w1.heap.size AP (iterC l cs nP)) := hide (⟨((stab_below w) w w1 HK.out.1 hb), ((stab_rd (Sh.list (Sh.int .i32)) A l) w w1 HK.out.2.1 hb), ((stab_rd (Sh.list (Sh.int .i32)) B cs) w w1 HK.out.2.2 hb), HR⟩)
    clear HK hb
    have HK := HK1
    clear HK1
    clear HR
    go_wp2_with fail
    refine (refRun_any A B n c m d l cs a w1 ((stab_rd (Sh.list (Sh.int .i32)) A l) w1 w1 HK.out.2.1 (Below.refl _ w1)) Hn.out hc hm HI.out ((stab_rd (Sh.list (Sh.int .i32)) B cs) w1 w1 HK.out.2.2.1 (Below.refl _ w1)) Hm.out HYI2.out hd hm' (by omega) (by omega) HL1.out (by omega)).mono ?_
    rintro e w2 ⟨v, nQ, rfl, hrQ, AQ, mQ, cQ, rfl, hlQ, hnQ, hmQ, hR, hb⟩
    obtain rfl : nP = nQ := RunIs.same HRP.out hrQ
    have HRQ := hide hrQ
    have HLQ := hide hlQ
    have HR := hR.rd (B := w2.heap.size) fun b hb => hb.2
    clear hR hrQ hlQ
    have HK1 : Hid (Below w.heap.size w w2 ∧ Rd (Sh.list (Sh.int .i32)) w2 w2.heap.size A l ∧ Rd (Sh.list (Sh.int .i32)) w2 w2.heap.size B cs ∧ Rd (Sh.list (Sh.int .i32)) w2 w2.heap.size AP (iterC l cs nP) ∧ Rd (Sh.list (Sh.int .i32)) w2 w2.heap.size AQ (iterC l cs nP)) := hide (⟨((stab_below w) w1 w2 HK.out.1 hb), ((stab_rd (Sh.list (Sh.int .i32)) A l) w1 w2 HK.out.2.1 hb), ((stab_rd (Sh.list (Sh.int .i32)) B cs) w1 w2 HK.out.2.2.1 hb), ((stab_rd (Sh.list (Sh.int .i32)) AP (iterC l cs nP)) w1 w2 HK.out.2.2.2 hb), HR⟩)
    clear HK hb
    have HK := HK1
    clear HK1
    clear HR
    go_wp2_with fail
    refine (Stab.call (K := (fun W => Below w.heap.size w W ∧ Rd (Sh.list (Sh.int .i32)) W W.heap.size A l ∧ Rd (Sh.list (Sh.int .i32)) W W.heap.size B cs ∧ Rd (Sh.list (Sh.int .i32)) W W.heap.size AP (iterC l cs nP) ∧ Rd (Sh.list (Sh.int .i32)) W W.heap.size AQ (iterC l cs nP))) (stab_and (stab_below w) (stab_and (stab_rd (Sh.list (Sh.int .i32)) A l) (stab_and (stab_rd (Sh.list (Sh.int .i32)) B cs) (stab_and (stab_rd (Sh.list (Sh.int .i32)) AP (iterC l cs nP)) (stab_rd (Sh.list (Sh.int .i32)) AQ (iterC l cs nP)))))) HK.out (Below.refl _ w2) (.bool true) (lives_any _) (rfl)).mono ?_
    rintro e w3 ⟨rfl, hK⟩
    have HK' := hide hK
    clear hK HK
    have HK := HK'
    clear HK'
    go_wp2_with fail
    refine (groups_any A B n c m d l cs w3 ((stab_rd (Sh.list (Sh.int .i32)) A l) w3 w3 HK.out.2.1 (Below.refl _ w3)) Hn.out hc hm HI.out ((stab_rd (Sh.list (Sh.int .i32)) B cs) w3 w3 HK.out.2.2.1 (Below.refl _ w3)) Hm.out HYI.out hd hm' (by omega)).mono ?_
    rintro e w4 ⟨v, rfl, AG, nAG, cAG, rfl, hlAG, hnAG, hmAG, hR, hb⟩
    have HLAG := hide hlAG
    have HR := hR.rd (B := w4.heap.size) fun b hb => hb.2
    clear hR hlAG
    have HK1 : Hid (Below w.heap.size w w4 ∧ Rd (Sh.list (Sh.int .i32)) w4 w4.heap.size A l ∧ Rd (Sh.list (Sh.int .i32)) w4 w4.heap.size B cs ∧ Rd (Sh.list (Sh.int .i32)) w4 w4.heap.size AP (iterC l cs nP) ∧ Rd (Sh.list (Sh.int .i32)) w4 w4.heap.size AQ (iterC l cs nP) ∧ Rd (Sh.int .i64) w4 w4.heap.size AG (groupsOf l cs)) := hide (⟨((stab_below w) w3 w4 HK.out.1 hb), ((stab_rd (Sh.list (Sh.int .i32)) A l) w3 w4 HK.out.2.1 hb), ((stab_rd (Sh.list (Sh.int .i32)) B cs) w3 w4 HK.out.2.2.1 hb), ((stab_rd (Sh.list (Sh.int .i32)) AP (iterC l cs nP)) w3 w4 HK.out.2.2.2.1 hb), ((stab_rd (Sh.list (Sh.int .i32)) AQ (iterC l cs nP)) w3 w4 HK.out.2.2.2.2 hb), HR⟩)
    clear HK hb
    have HK := HK1
    clear HK1
    clear HR
    go_wp2_with fail
    refine (refGroups_any A B n c m d l cs w4 ((stab_rd (Sh.list (Sh.int .i32)) A l) w4 w4 HK.out.2.1 (Below.refl _ w4)) Hn.out hc hm HI.out ((stab_rd (Sh.list (Sh.int .i32)) B cs) w4 w4 HK.out.2.2.1 (Below.refl _ w4)) Hm.out HYI.out hd hm' (by omega)).mono ?_
    rintro e w5 ⟨v, rfl, AH, nAH, cAH, rfl, hlAH, hnAH, hmAH, hR, hb⟩
    have HLAH := hide hlAH
    have HR := hR.rd (B := w5.heap.size) fun b hb => hb.2
    clear hR hlAH
    have HK1 : Hid (Below w.heap.size w w5 ∧ Rd (Sh.list (Sh.int .i32)) w5 w5.heap.size A l ∧ Rd (Sh.list (Sh.int .i32)) w5 w5.heap.size B cs ∧ Rd (Sh.list (Sh.int .i32)) w5 w5.heap.size AP (iterC l cs nP) ∧ Rd (Sh.list (Sh.int .i32)) w5 w5.heap.size AQ (iterC l cs nP) ∧ Rd (Sh.int .i64) w5 w5.heap.size AG (groupsOf l cs) ∧ Rd (Sh.int .i64) w5 w5.heap.size AH (groupsOf l cs)) := hide (⟨((stab_below w) w4 w5 HK.out.1 hb), ((stab_rd (Sh.list (Sh.int .i32)) A l) w4 w5 HK.out.2.1 hb), ((stab_rd (Sh.list (Sh.int .i32)) B cs) w4 w5 HK.out.2.2.1 hb), ((stab_rd (Sh.list (Sh.int .i32)) AP (iterC l cs nP)) w4 w5 HK.out.2.2.2.1 hb), ((stab_rd (Sh.list (Sh.int .i32)) AQ (iterC l cs nP)) w4 w5 HK.out.2.2.2.2.1 hb), ((stab_rd (Sh.int .i64) AG (groupsOf l cs)) w4 w5 HK.out.2.2.2.2.2 hb), HR⟩)
    clear HK hb
    have HK := HK1
    clear HK1
    clear HR
    go_wp2_with fail
    refine (Stab.call (K := (fun W => Below w.heap.size w W ∧ Rd (Sh.list (Sh.int .i32)) W W.heap.size A l ∧ Rd (Sh.list (Sh.int .i32)) W W.heap.size B cs ∧ Rd (Sh.list (Sh.int .i32)) W W.heap.size AP (iterC l cs nP) ∧ Rd (Sh.list (Sh.int .i32)) W W.heap.size AQ (iterC l cs nP) ∧ Rd (Sh.int .i64) W W.heap.size AG (groupsOf l cs) ∧ Rd (Sh.int .i64) W W.heap.size AH (groupsOf l cs))) (stab_and (stab_below w) (stab_and (stab_rd (Sh.list (Sh.int .i32)) A l) (stab_and (stab_rd (Sh.list (Sh.int .i32)) B cs) (stab_and (stab_rd (Sh.list (Sh.int .i32)) AP (iterC l cs nP)) (stab_and (stab_rd (Sh.list (Sh.int .i32)) AQ (iterC l cs nP)) (stab_and (stab_rd (Sh.int .i64) AG (groupsOf l cs)) (stab_rd (Sh.int .i64) AH (groupsOf l cs)))))))) HK.out (Below.refl _ w5) (.bool true) (calls_drew (sameInts_any AG AH nAG cAG nAH cAH (groupsOf l cs) (groupsOf l cs) _ ((stab_rd (Sh.int .i64) AG (groupsOf l cs)) w5 w5 HK.out.2.2.2.2.2.1 (Below.refl _ w5)) HLAG.out hnAG hmAG ((stab_rd (Sh.int .i64) AH (groupsOf l cs)) w5 w5 HK.out.2.2.2.2.2.2 (Below.refl _ w5)) HLAH.out hnAH hmAH)) (congrArg Value.bool (decide_eq_true rfl))).mono ?_
    rintro e w6 ⟨rfl, hK⟩
    have HK' := hide hK
    clear hK HK
    have HK := HK'
    clear HK'
    go_wp2_with fail
    refine (Stab.call (K := (fun W => Below w.heap.size w W ∧ Rd (Sh.list (Sh.int .i32)) W W.heap.size A l ∧ Rd (Sh.list (Sh.int .i32)) W W.heap.size B cs ∧ Rd (Sh.list (Sh.int .i32)) W W.heap.size AP (iterC l cs nP) ∧ Rd (Sh.list (Sh.int .i32)) W W.heap.size AQ (iterC l cs nP) ∧ Rd (Sh.int .i64) W W.heap.size AG (groupsOf l cs) ∧ Rd (Sh.int .i64) W W.heap.size AH (groupsOf l cs))) (stab_and (stab_below w) (stab_and (stab_rd (Sh.list (Sh.int .i32)) A l) (stab_and (stab_rd (Sh.list (Sh.int .i32)) B cs) (stab_and (stab_rd (Sh.list (Sh.int .i32)) AP (iterC l cs nP)) (stab_and (stab_rd (Sh.list (Sh.int .i32)) AQ (iterC l cs nP)) (stab_and (stab_rd (Sh.int .i64) AG (groupsOf l cs)) (stab_rd (Sh.int .i64) AH (groupsOf l cs)))))))) HK.out (Below.refl _ w6) (.int .u64 (costOf l cs)) (cost_any A B n c m d l cs _ ((stab_rd (Sh.list (Sh.int .i32)) A l) w6 w6 HK.out.2.1 (Below.refl _ w6)) Hn.out hc hm HI.out ((stab_rd (Sh.list (Sh.int .i32)) B cs) w6 w6 HK.out.2.2.1 (Below.refl _ w6)) Hm.out HYI.out hd hm') (rfl)).mono ?_
    rintro e w7 ⟨rfl, hK⟩
    have HK' := hide hK
    clear hK HK
    have HK := HK'
    clear HK'
    go_wp2_with fail
    refine (Stab.call (K := (fun W => Below w.heap.size w W ∧ Rd (Sh.list (Sh.int .i32)) W W.heap.size A l ∧ Rd (Sh.list (Sh.int .i32)) W W.heap.size B cs ∧ Rd (Sh.list (Sh.int .i32)) W W.heap.size AP (iterC l cs nP) ∧ Rd (Sh.list (Sh.int .i32)) W W.heap.size AQ (iterC l cs nP) ∧ Rd (Sh.int .i64) W W.heap.size AG (groupsOf l cs) ∧ Rd (Sh.int .i64) W W.heap.size AH (groupsOf l cs))) (stab_and (stab_below w) (stab_and (stab_rd (Sh.list (Sh.int .i32)) A l) (stab_and (stab_rd (Sh.list (Sh.int .i32)) B cs) (stab_and (stab_rd (Sh.list (Sh.int .i32)) AP (iterC l cs nP)) (stab_and (stab_rd (Sh.list (Sh.int .i32)) AQ (iterC l cs nP)) (stab_and (stab_rd (Sh.int .i64) AG (groupsOf l cs)) (stab_rd (Sh.int .i64) AH (groupsOf l cs)))))))) HK.out (Below.refl _ w7) (.int .u64 (costOf l cs)) (refCost_any A B n c m d l cs _ ((stab_rd (Sh.list (Sh.int .i32)) A l) w7 w7 HK.out.2.1 (Below.refl _ w7)) Hn.out hc hm HI.out ((stab_rd (Sh.list (Sh.int .i32)) B cs) w7 w7 HK.out.2.2.1 (Below.refl _ w7)) Hm.out HYI.out hd hm' (by omega)) (rfl)).mono ?_
    rintro e w8 ⟨rfl, hK⟩
    have HK' := hide hK
    clear hK HK
    have HK := HK'
    clear HK'
    go_wp2_with fail
    refine (step_any A B n c m d l cs w8 ((stab_rd (Sh.list (Sh.int .i32)) A l) w8 w8 HK.out.2.1 (Below.refl _ w8)) Hn.out hc hm HI.out ((stab_rd (Sh.list (Sh.int .i32)) B cs) w8 w8 HK.out.2.2.1 (Below.refl _ w8)) Hm.out HYI.out hd hm' (by omega) (by omega) HL1.out HL2.out).mono ?_
    rintro e w9 ⟨v, rfl, AS, nAS, cAS, rfl, hlAS, hnAS, hmAS, hR, hb⟩
    have HLAS := hide hlAS
    have HR := hR.rd (B := w9.heap.size) fun b hb => hb.2
    clear hR hlAS
    have HK1 : Hid (Below w.heap.size w w9 ∧ Rd (Sh.list (Sh.int .i32)) w9 w9.heap.size A l ∧ Rd (Sh.list (Sh.int .i32)) w9 w9.heap.size B cs ∧ Rd (Sh.list (Sh.int .i32)) w9 w9.heap.size AP (iterC l cs nP) ∧ Rd (Sh.list (Sh.int .i32)) w9 w9.heap.size AQ (iterC l cs nP) ∧ Rd (Sh.int .i64) w9 w9.heap.size AG (groupsOf l cs) ∧ Rd (Sh.int .i64) w9 w9.heap.size AH (groupsOf l cs) ∧ Rd (Sh.list (Sh.int .i32)) w9 w9.heap.size AS (stepOfC l cs)) := hide (⟨((stab_below w) w8 w9 HK.out.1 hb), ((stab_rd (Sh.list (Sh.int .i32)) A l) w8 w9 HK.out.2.1 hb), ((stab_rd (Sh.list (Sh.int .i32)) B cs) w8 w9 HK.out.2.2.1 hb), ((stab_rd (Sh.list (Sh.int .i32)) AP (iterC l cs nP)) w8 w9 HK.out.2.2.2.1 hb), ((stab_rd (Sh.list (Sh.int .i32)) AQ (iterC l cs nP)) w8 w9 HK.out.2.2.2.2.1 hb), ((stab_rd (Sh.int .i64) AG (groupsOf l cs)) w8 w9 HK.out.2.2.2.2.2.1 hb), ((stab_rd (Sh.int .i64) AH (groupsOf l cs)) w8 w9 HK.out.2.2.2.2.2.2 hb), HR⟩)
    clear HK hb
    have HK := HK1
    clear HK1
    clear HR
    go_wp2_with fail
    refine (refStep_any A B n c m d l cs w9 ((stab_rd (Sh.list (Sh.int .i32)) A l) w9 w9 HK.out.2.1 (Below.refl _ w9)) Hn.out hc hm HI.out ((stab_rd (Sh.list (Sh.int .i32)) B cs) w9 w9 HK.out.2.2.1 (Below.refl _ w9)) Hm.out HYI2.out hd hm' (by omega) (by omega) HL1.out).mono ?_
    rintro e w10 ⟨v, rfl, AT, nAT, cAT, rfl, hlAT, hnAT, hmAT, hR, hb⟩
    have HLAT := hide hlAT
    have HR := hR.rd (B := w10.heap.size) fun b hb => hb.2
    clear hR hlAT
    have HK1 : Hid (Below w.heap.size w w10 ∧ Rd (Sh.list (Sh.int .i32)) w10 w10.heap.size A l ∧ Rd (Sh.list (Sh.int .i32)) w10 w10.heap.size B cs ∧ Rd (Sh.list (Sh.int .i32)) w10 w10.heap.size AP (iterC l cs nP) ∧ Rd (Sh.list (Sh.int .i32)) w10 w10.heap.size AQ (iterC l cs nP) ∧ Rd (Sh.int .i64) w10 w10.heap.size AG (groupsOf l cs) ∧ Rd (Sh.int .i64) w10 w10.heap.size AH (groupsOf l cs) ∧ Rd (Sh.list (Sh.int .i32)) w10 w10.heap.size AS (stepOfC l cs) ∧ Rd (Sh.list (Sh.int .i32)) w10 w10.heap.size AT (stepOfC l cs)) := hide (⟨((stab_below w) w9 w10 HK.out.1 hb), ((stab_rd (Sh.list (Sh.int .i32)) A l) w9 w10 HK.out.2.1 hb), ((stab_rd (Sh.list (Sh.int .i32)) B cs) w9 w10 HK.out.2.2.1 hb), ((stab_rd (Sh.list (Sh.int .i32)) AP (iterC l cs nP)) w9 w10 HK.out.2.2.2.1 hb), ((stab_rd (Sh.list (Sh.int .i32)) AQ (iterC l cs nP)) w9 w10 HK.out.2.2.2.2.1 hb), ((stab_rd (Sh.int .i64) AG (groupsOf l cs)) w9 w10 HK.out.2.2.2.2.2.1 hb), ((stab_rd (Sh.int .i64) AH (groupsOf l cs)) w9 w10 HK.out.2.2.2.2.2.2.1 hb), ((stab_rd (Sh.list (Sh.int .i32)) AS (stepOfC l cs)) w9 w10 HK.out.2.2.2.2.2.2.2 hb), HR⟩)
    clear HK hb
    have HK := HK1
    clear HK1
    clear HR
    go_wp2_with fail
    refine (Stab.call (K := (fun W => Below w.heap.size w W ∧ Rd (Sh.list (Sh.int .i32)) W W.heap.size A l ∧ Rd (Sh.list (Sh.int .i32)) W W.heap.size B cs ∧ Rd (Sh.list (Sh.int .i32)) W W.heap.size AP (iterC l cs nP) ∧ Rd (Sh.list (Sh.int .i32)) W W.heap.size AQ (iterC l cs nP) ∧ Rd (Sh.int .i64) W W.heap.size AG (groupsOf l cs) ∧ Rd (Sh.int .i64) W W.heap.size AH (groupsOf l cs) ∧ Rd (Sh.list (Sh.int .i32)) W W.heap.size AS (stepOfC l cs) ∧ Rd (Sh.list (Sh.int .i32)) W W.heap.size AT (stepOfC l cs))) (stab_and (stab_below w) (stab_and (stab_rd (Sh.list (Sh.int .i32)) A l) (stab_and (stab_rd (Sh.list (Sh.int .i32)) B cs) (stab_and (stab_rd (Sh.list (Sh.int .i32)) AP (iterC l cs nP)) (stab_and (stab_rd (Sh.list (Sh.int .i32)) AQ (iterC l cs nP)) (stab_and (stab_rd (Sh.int .i64) AG (groupsOf l cs)) (stab_and (stab_rd (Sh.int .i64) AH (groupsOf l cs)) (stab_and (stab_rd (Sh.list (Sh.int .i32)) AS (stepOfC l cs)) (stab_rd (Sh.list (Sh.int .i32)) AT (stepOfC l cs)))))))))) HK.out (Below.refl _ w10) (.bool true) (calls_drew (refSameL_any AS AT nAS cAS nAT cAT (stepOfC l cs) (stepOfC l cs) _ ((stab_rd (Sh.list (Sh.int .i32)) AS (stepOfC l cs)) w10 w10 HK.out.2.2.2.2.2.2.2.1 (Below.refl _ w10)) HLAS.out hnAS hmAS ((stab_rd (Sh.list (Sh.int .i32)) AT (stepOfC l cs)) w10 w10 HK.out.2.2.2.2.2.2.2.2 (Below.refl _ w10)) HLAT.out hnAT hmAT)) (congrArg Value.bool (decide_eq_true rfl))).mono ?_
    rintro e w11 ⟨rfl, hK⟩
    have HK' := hide hK
    clear hK HK
    have HK := HK'
    clear HK'
    go_wp2_with fail
    refine (Stab.call (K := (fun W => Below w.heap.size w W ∧ Rd (Sh.list (Sh.int .i32)) W W.heap.size A l ∧ Rd (Sh.list (Sh.int .i32)) W W.heap.size B cs ∧ Rd (Sh.list (Sh.int .i32)) W W.heap.size AP (iterC l cs nP) ∧ Rd (Sh.list (Sh.int .i32)) W W.heap.size AQ (iterC l cs nP) ∧ Rd (Sh.int .i64) W W.heap.size AG (groupsOf l cs) ∧ Rd (Sh.int .i64) W W.heap.size AH (groupsOf l cs) ∧ Rd (Sh.list (Sh.int .i32)) W W.heap.size AS (stepOfC l cs) ∧ Rd (Sh.list (Sh.int .i32)) W W.heap.size AT (stepOfC l cs))) (stab_and (stab_below w) (stab_and (stab_rd (Sh.list (Sh.int .i32)) A l) (stab_and (stab_rd (Sh.list (Sh.int .i32)) B cs) (stab_and (stab_rd (Sh.list (Sh.int .i32)) AP (iterC l cs nP)) (stab_and (stab_rd (Sh.list (Sh.int .i32)) AQ (iterC l cs nP)) (stab_and (stab_rd (Sh.int .i64) AG (groupsOf l cs)) (stab_and (stab_rd (Sh.int .i64) AH (groupsOf l cs)) (stab_and (stab_rd (Sh.list (Sh.int .i32)) AS (stepOfC l cs)) (stab_rd (Sh.list (Sh.int .i32)) AT (stepOfC l cs)))))))))) HK.out (Below.refl _ w11) (.bool true) (calls_drew (refSameL_any AP AQ mP cP mQ cQ (iterC l cs nP) (iterC l cs nP) _ ((stab_rd (Sh.list (Sh.int .i32)) AP (iterC l cs nP)) w11 w11 HK.out.2.2.2.1 (Below.refl _ w11)) HLP.out hnP hmP ((stab_rd (Sh.list (Sh.int .i32)) AQ (iterC l cs nP)) w11 w11 HK.out.2.2.2.2.1 (Below.refl _ w11)) HLQ.out hnQ hmQ)) (congrArg Value.bool (decide_eq_true rfl))).mono ?_
    rintro e w12 ⟨rfl, hK⟩
    have HK' := hide hK
    clear hK HK
    have HK := HK'
    clear HK'
    have hee : (costOf l cs == costOf l cs) = true := by simp
    have hnn : ((nP : Int) == nP) = true := by simp
    go_wp2_with fail
    go_ret
    exact ⟨rfl, HK.out.1⟩
end Go.Proofs.Ytodlbbcgplhihag
