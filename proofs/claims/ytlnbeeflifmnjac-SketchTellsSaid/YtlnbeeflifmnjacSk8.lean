/-
  The walk of SketchTells. Conditions: the slices read as lists.
-/
import Derived.Test.YtlnbeeflifmnjacSk5
import Derived.Test.YtlnbeeflifmnjacSk7
namespace Go.Proofs.Ytlnbeeflifmnjac
set_option linter.unusedSimpArgs false
set_option linter.unusedVariables false
open Go.RowKit

theorem plc_same (l : List (List Int)) (q : List Int) (n K : Nat) : ((srtFr ((List.range n).map (farA l q))).take K).map (fun x => (x.2.val : Int)) = plcF ((fars l q n).take K) := rfl
set_option maxHeartbeats 8000000 in
set_option maxRecDepth 100000 in
theorem tells_any {A B C : Option Addr} {nv cv nl cl nq cq : Nat} {v q : List Int} {l : List (List Int)} {w : World} (seed n plane comp most : Int)
    (hv : Rd (Sh.int .i32) w w.heap.size A v) (hnv : v.length = nv) (hcv : nv ≤ cv) (hi : I32L v)
    (hl : Rd (Sh.list (Sh.int .u64)) w w.heap.size B l) (hnl : l.length = nl) (hcl : nl ≤ cl) (hul : ∀ s ∈ l, UL s)
    (hq : Rd (Sh.int .u64) w w.heap.size C q) (hnq : q.length = nq) (hcq : nq ≤ cq) (hmq : cq ≤ 9223372036854775807) (huq : UL q)
    (hp : plane < 9223372036854775808) (hco : comp < 9223372036854775808) :
    Calls Try.prog 3 #[.slice A nv cv, .int .u64 seed, .int .i64 n, .int .i64 plane, .int .i64 comp, .slice B nl cl, .slice C nq cq, .int .i64 most] w fun e w' => e = .returned (.bool true) ∧ Below w.heap.size w w' := by
  have HV := hide hv
  have HI := hide hi
  have HNv := hide hnv
  have HL := hide hl
  have HNl := hide hnl
  have HUl := hide hul
  have HQ := hide hq
  have HNq := hide hnq
  have HUq := hide huq
  clear hv hi hnv hl hnl hul hq hnq huq
  by_cases h0 : 60 < nv
  · have b0 : decide ((60 : Int) < nv) = true := decide_eq_true (by omega)
    have a0 : decide (60 < nv) = true := decide_eq_true (by omega)
    clear h0 HV HL HQ
    go_enter Try.func3, Try.ntmps3
    go_wp2_with (go_at_call 5; refine (lives_any _).mono ?_; rintro e w1 ⟨rfl, hb⟩)
    go_ret
    exact ⟨rfl, hb⟩
  by_cases h1 : (200 : Int) < n
  · have b0 : decide ((60 : Int) < nv) = false := decide_eq_false (by omega)
    have a0 : decide (60 < nv) = false := decide_eq_false (by omega)
    have b1 : decide ((200 : Int) < n) = true := decide_eq_true (by omega)
    clear h0 h1 HV HL HQ
    go_enter Try.func3, Try.ntmps3
    go_wp2_with (go_at_call 5; refine (lives_any _).mono ?_; rintro e w1 ⟨rfl, hb⟩)
    go_ret
    exact ⟨rfl, hb⟩
  by_cases h2 : 20 < nl
  · have b0 : decide ((60 : Int) < nv) = false := decide_eq_false (by omega)
    have a0 : decide (60 < nv) = false := decide_eq_false (by omega)
    have b1 : decide ((200 : Int) < n) = false := decide_eq_false (by omega)
    have b2 : decide ((20 : Int) < nl) = true := decide_eq_true (by omega)
    have a2 : decide (20 < nl) = true := decide_eq_true (by omega)
    clear h0 h1 h2 HV HL HQ
    go_enter Try.func3, Try.ntmps3
    go_wp2_with (go_at_call 5; refine (lives_any _).mono ?_; rintro e w1 ⟨rfl, hb⟩)
    go_ret
    exact ⟨rfl, hb⟩
  by_cases h3 : 80 < nq
  · have b0 : decide ((60 : Int) < nv) = false := decide_eq_false (by omega)
    have a0 : decide (60 < nv) = false := decide_eq_false (by omega)
    have b1 : decide ((200 : Int) < n) = false := decide_eq_false (by omega)
    have b2 : decide ((20 : Int) < nl) = false := decide_eq_false (by omega)
    have a2 : decide (20 < nl) = false := decide_eq_false (by omega)
    have b3 : decide ((80 : Int) < nq) = true := decide_eq_true (by omega)
    have a3 : decide (80 < nq) = true := decide_eq_true (by omega)
    clear h0 h1 h2 h3 HV HL HQ
    go_enter Try.func3, Try.ntmps3
    go_wp2_with (go_at_call 5; refine (lives_any _).mono ?_; rintro e w1 ⟨rfl, hb⟩)
    go_ret
    exact ⟨rfl, hb⟩
  have b0 : decide ((60 : Int) < nv) = false := decide_eq_false (by omega)
  have a0 : decide (60 < nv) = false := decide_eq_false (by omega)
  have b1 : decide ((200 : Int) < n) = false := decide_eq_false (by omega)
  have b2 : decide ((20 : Int) < nl) = false := decide_eq_false (by omega)
  have a2 : decide (20 < nl) = false := decide_eq_false (by omega)
  have b3 : decide ((80 : Int) < nq) = false := decide_eq_false (by omega)
  have a3 : decide (80 < nq) = false := decide_eq_false (by omega)
  have hv10 : nv ≤ 1000 := by omega
  have hl20 : nl ≤ 20 := by omega
  have hK1 : ∃ K : Nat, min (max most 0) (nl : Int) = K ∧ max 0 (min most (nl : Int)) = K := ⟨(min (max most 0) (nl : Int)).toNat, by omega, by omega⟩
  obtain ⟨K, hK1, hK2⟩ := hK1
  have hN1 : ∃ N : Nat, min (max n 0) 4096 = N := ⟨(min (max n 0) 4096).toNat, by omega⟩
  obtain ⟨N, hN⟩ := hN1
  have HK1 := hide hK1
  have HK2 := hide hK2
  have HN := hide hN
  clear hK1 hK2 hN h0 h1 h2 h3
  have HB0 := hide (Below.refl w.heap.size w)
  go_enter Try.func3, Try.ntmps3
  go_wp2
  go_loopw [39] (fun i wr => ∃ k : Nat, k ≤ nl ∧ i = .int .i64 k ∧ Hid (Below w.heap.size w wr)) (fun i _ => nl - (intOf i).toNat)
  case atStart => exact ⟨0, by omega, rfl, HB0⟩
  case round =>
    obtain ⟨k, hk, rfl, HB⟩ := hrel
    clear HB0
    by_cases hlt : k < nl
    · have g0 : (0 : Int) ≤ k := by omega
      have g1 : (k : Int) < nl := by omega
      obtain ⟨ad, s, V, cs, rfl, hvs, hcs, hcms, hrs, hcel⟩ := Rd.slcW HL.out (k := k) (by have := HNl.out; omega)
      have q0 := hcel _ HB.out
      obtain ⟨ns, hns⟩ : ∃ ns, s.length = ns := ⟨_, rfl⟩
      rw [hns] at q0 hcs
      have HUs := hide (HUl.out s (List.mem_of_getElem? hvs))
      have HRs := hide hrs
      have HNs := hide hns
      clear hvs hcel hrs hns
      by_cases h8 : 80 < ns
      · have b8 : decide ((80 : Int) < ns) = true := decide_eq_true (by omega)
        have a8 : decide (80 < ns) = true := decide_eq_true h8
        go_wp2_with (go_at_call 5; refine (lives_any _).mono ?_; rintro e w1 ⟨rfl, hb⟩; have HB1 := hide (Below.step HB.out hb); clear hb)
        go_ret
        exact ⟨rfl, HB1.out⟩
      · have b8 : decide ((80 : Int) < ns) = false := decide_eq_false (by omega)
        have a8 : decide (80 < ns) = false := decide_eq_false h8
        go_wp2_with (first
          | (go_at_call 6; refine (eApart_any (HRs.out.at_world HB.out) HNs.out hcs hcms HUs.out (HQ.out.at_world HB.out) HNq.out hcq hmq HUq.out).mono ?_; rintro e w1 ⟨rfl, hb⟩; have HB1 := hide (Below.step HB.out hb); clear hb)
          | (go_at_call 7; refine (rApart_any (HRs.out.at_world HB1.out) HNs.out hcs HUs.out (HQ.out.at_world HB1.out) HNq.out hcq HUq.out).mono ?_; rintro e w2 ⟨rfl, hb⟩; have HB2 := hide (Below.step HB1.out hb); clear hb))
        go_roundw
        case rel => exact ⟨k + 1, by omega, by go_num, HB2⟩
        case measure => simp [intOf]; omega
    · obtain rfl : nl = k := by omega
      go_wp2_with fail
      refine (lives_any _).mono ?_
      rintro e w1 ⟨rfl, hb⟩
      have HB := hide (Below.step HB.out hb)
      clear hb
      go_wp2_with fail
      refine (eSign_any seed plane comp hp hco _).mono ?_
      rintro e _ ⟨rfl, rfl⟩
      go_wp2_with fail
      refine (rSign_any seed plane comp hp hco _).mono ?_
      rintro e _ ⟨rfl, rfl⟩
      go_wp2_with fail
      refine (eSk_any (HV.out.at_world HB.out) HNv.out hcv hv10 HI.out seed n N HN.out).mono ?_
      rintro e w2 ⟨s1, v1, hs1, rfl, A1, n1, c1, rfl, k1, k2, k3, k4, k5⟩
      have HB := hide (Below.step HB.out k5)
      have HR1 := hide (k4.rd (B := w2.heap.size) fun d hd => hd.2)
      have HS1 := hide hs1
      have HN1 := hide k1
      clear k1 k4 k5 hs1
      go_wp2_with fail
      refine (rSk_any (HV.out.at_world HB.out) HNv.out hcv hv10 HI.out seed n N HN.out).mono ?_
      rintro e w3 ⟨s2, v2, hs2, rfl, A2, n2, c2, rfl, j1, j2, j3, j4, j5⟩
      obtain rfl : s1 = s2 := HS1.out.one hs2
      have HB := hide (Below.step HB.out j5)
      have HR1 := hide (HR1.out.at_world j5)
      have HR2 := hide (j4.rd (B := w3.heap.size) fun d hd => hd.2)
      have HN2 := hide j1
      clear j1 j4 j5 hs2
      go_wp2_with fail
      refine (same64_any _ _ _ _ _ _ s1 s1 _ HR1.out HN1.out k2 k3 HR2.out HN2.out j2 j3).mono ?_
      rintro e w4 ⟨rfl, hd⟩
      have HB := hide (Below.step HB.out hd.below)
      rw [decide_eq_true (Eq.refl s1)]
      clear hd HR1 HR2 HN1 HN2 k2 k3 j2 j3
      go_wp2_with fail
      refine (eNear_any (HL.out.at_world HB.out) HNl.out hcl hl20 HUl.out (HQ.out.at_world HB.out) HNq.out hcq hmq HUq.out most K HK1.out).mono ?_
      rw [plc_same]
      rintro e w5 ⟨v1, rfl, A1, n1, c1, rfl, k1, k2, k3, k4, k5⟩
      have HB := hide (Below.step HB.out k5)
      have HR1 := hide (k4.rd (B := w5.heap.size) fun d hd => hd.2)
      have HN1 := hide k1
      clear k1 k4 k5
      go_wp2_with fail
      refine (rNear_any (HL.out.at_world HB.out) HNl.out hcl hl20 HUl.out (HQ.out.at_world HB.out) HNq.out hcq HUq.out most K HK2.out).mono ?_
      rintro e w6 ⟨v2, rfl, A2, n2, c2, rfl, j1, j2, j3, j4, j5⟩
      have HB := hide (Below.step HB.out j5)
      have HR1 := hide (HR1.out.at_world j5)
      have HR2 := hide (j4.rd (B := w6.heap.size) fun d hd => hd.2)
      have HN2 := hide j1
      clear j1 j4 j5
      go_wp2_with fail
      refine (sameInts_any _ _ _ _ _ _ _ _ _ HR1.out HN1.out k2 k3 HR2.out HN2.out j2 j3).mono ?_
      rintro e w7 ⟨rfl, hd⟩
      have HB := hide (Below.step HB.out hd.below)
      rw [decide_eq_true (Eq.refl (plcF (List.take K (fars l q nl))))]
      clear hd HR1 HR2 HN1 HN2 k2 k3 j2 j3
      go_wp2
      go_ret
      exact ⟨rfl, HB.out⟩
end Go.Proofs.Ytlnbeeflifmnjac
