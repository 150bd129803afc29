/-
  The law EdgesInOut. Conditions: the slice reads as a list of ints.
-/
import Derived.Test.YtggbokgacffamaaEdgT
namespace Go.Proofs.Ytggbokgacffamaa
open Go.RowKit

theorem mem_withF {l : List Int} {x y : Int} : y ∈ withF l x ↔ y ∈ l ∨ y = x := by
  unfold withF
  split
  · rename_i h
    exact ⟨Or.inl, fun h' => h'.elim id fun e => e ▸ h⟩
  · simp
theorem mem_woF {l : List Int} {x y : Int} : y ∈ woF l x ↔ y ∈ l ∧ y ≠ x := by unfold woF; simp [List.mem_filter]
theorem woF_withF (l : List Int) (x : Int) : woF (withF l x) x = woF l x := by
  unfold withF
  split
  · rfl
  · unfold woF; simp [List.filter_append]
theorem withF_len (l : List Int) (x : Int) : (withF l x).length ≤ l.length + 1 := by
  unfold withF; split <;> simp
theorem withF_i64 {l : List Int} {x : Int} (h : I64 l) (hx : -9223372036854775808 ≤ x ∧ x ≤ 9223372036854775807) : I64 (withF l x) := fun y hy => by
  rcases mem_withF.1 hy with h1 | rfl
  · exact h y h1
  · exact hx
theorem woF_i64 {l : List Int} {x : Int} (h : I64 l) : I64 (woF l x) := fun y hy => h y (mem_woF.1 hy).1
theorem right_wo {l : List Int} {x self links level slots : Int} (h : rightE l self links level slots) : rightE (woF (withF l x) x) self links level slots := by
  rw [woF_withF]
  obtain ⟨h1, h2, h3⟩ := h
  refine ⟨fun y hy => h1 y (mem_woF.1 hy).1, ?_, ?_⟩
  · unfold woF; exact h2.sublist List.filter_sublist
  · have : (woF l x).length ≤ l.length := by unfold woF; exact List.length_filter_le _ _
    omega
theorem right_with {l : List Int} {x self links level slots : Int} (h : rightE l self links level slots) : rightE (withF l x) self links level slots ↔ ((l.length : Int) < mostF links level ∨ x ∈ l) ∧ x ≠ self ∧ 1 ≤ x ∧ x ≤ slots := by
  have h0 := h
  obtain ⟨h1, h2, h3⟩ := h
  by_cases e : x ∈ l
  · have hw : withF l x = l := by unfold withF; rw [if_pos e]
    rw [hw]
    exact ⟨fun _ => ⟨.inr e, h1 x e⟩, fun _ => h0⟩
  · have hw : withF l x = l ++ [x] := by unfold withF; rw [if_neg e]
    rw [hw]
    constructor
    · rintro ⟨k1, k2, k3⟩
      have hx := k1 x (by simp)
      rw [List.length_append, List.length_singleton] at k3
      exact ⟨.inl (by omega), hx⟩
    · rintro ⟨k1 | k1, k2⟩
      · refine ⟨fun y hy => ?_, ?_, ?_⟩
        · rcases List.mem_append.1 hy with hy | hy
          · exact h1 y hy
          · rw [List.mem_singleton.1 hy]; exact k2
        · rw [List.nodup_append]
          exact ⟨h2, by simp, fun a ha b hb e1 => e (by rw [List.mem_singleton.1 hb] at e1; exact e1 ▸ ha)⟩
        · rw [List.length_append, List.length_singleton]; omega
      · exact (e k1).elim
set_option maxHeartbeats 8000000 in
set_option maxRecDepth 100000 in
theorem inout_any (A : Option Addr) (n c : Nat) (l : List Int) (x y self links level slots : Int) (w : World) (hx : Rd (Sh.int .i64) w w.heap.size A l) (hn : l.length = n) (hxi : I64 l) (hc : n ≤ c) (hm : c ≤ 9223372036854775807)
    (hx0 : -9223372036854775808 ≤ x ∧ x ≤ 9223372036854775807) :
    Calls Try.prog 4 #[.slice A n c, .int .i64 x, .int .i64 y, .int .i64 self, .int .i64 links, .int .i64 level, .int .i64 slots] w fun e w' => e = .returned (.bool true) ∧ Below w.heap.size w w' := by
  have Hx0 := hide hx0
  clear hx0
  rcases Nat.lt_or_ge 200 n with h1 | h1
  · have b1 : decide ((200 : Int) < n) = true := by simp; omega
    have b0 : decide (200 < n) = true := by simp; omega
    clear hx hxi
    go_enter Try.func4, Try.ntmps4
    go_wp2_with (go_at_call 5; refine (lives_any _).mono ?_; rintro e w1 ⟨rfl, hb⟩)
    go_ret
    exact ⟨rfl, hb⟩
  have b1 : decide ((200 : Int) < n) = false := by simp; omega
  have b0 : decide (200 < n) = false := by simp; omega
  obtain ⟨mm, hmm⟩ : ∃ y, mostF links level = y := ⟨_, rfl⟩
  obtain ⟨hB, hhB⟩ : ∃ z, decide (y ∈ l) = z := ⟨_, rfl⟩
  have HMM := hide hmm
  have HHB := hide hhB
  have HK : Hid (Below w.heap.size w w ∧ Rd (Sh.int .i64) w w.heap.size A l) := hide ⟨Below.refl _ _, hx⟩
  have Hn := hide hn
  have HI := hide hxi
  have HIa := hide (withF_i64 hxi Hx0.out)
  have HIb := hide (woF_i64 (x := x) HIa.out)
  have HWL := hide (withF_len l x)
  have e3 : (hB != hB) = false := by simp
  clear hx hn hxi hmm hhB
  go_enter Try.func4, Try.ntmps4
  go_wp2_with fail
  refine (Stab.call (K := (fun W => Below w.heap.size w W ∧ Rd (Sh.int .i64) W W.heap.size A l)) (stab_and (stab_below w) (stab_rd (Sh.int .i64) A l)) HK.out (Below.refl _ w) (.bool true) (lives_any _) (rfl)).mono ?_
  rintro e w1 ⟨rfl, hK⟩
  have HK' := hide hK
  clear hK HK
  have HK := HK'
  clear HK'
  go_wp2_with fail
  refine (eWith_any A n c l x w1 ((stab_rd (Sh.int .i64) A l) w1 w1 HK.out.2 (Below.refl _ w1)) Hn.out hc hm (by omega)).mono ?_
  rintro e w2 ⟨vA1, rfl, hN⟩
  obtain ⟨A1, nA1, cA1, rfl, hlA1, hcA1, hmA1, hR, hb⟩ := hN
  have HLA1 := hide hlA1
  have HR := hR.rd (B := w2.heap.size) fun b hb => hb.2
  have hb := Below.step (Below.refl _ w1) hb
  clear hR hlA1
  have HK1 : Hid (Below w.heap.size w w2 ∧ Rd (Sh.int .i64) w2 w2.heap.size A l ∧ Rd (Sh.int .i64) w2 w2.heap.size A1 (withF l x)) := hide (⟨((stab_below w) w1 w2 HK.out.1 hb), ((stab_rd (Sh.int .i64) A l) w1 w2 HK.out.2 hb), HR⟩)
  clear HK hb
  have HK := HK1
  clear HK1
  clear HR
  go_wp2_with fail
  refine (eWithout_any A1 nA1 cA1 (withF l x) x w2 ((stab_rd (Sh.int .i64) A1 (withF l x)) w2 w2 HK.out.2.2 (Below.refl _ w2)) HLA1.out hcA1 hmA1 (by have := HLA1.out; have := HWL.out; have := Hn.out; omega)).mono ?_
  rintro e w3 ⟨vA2, rfl, hN⟩
  obtain ⟨A2, nA2, cA2, rfl, hlA2, hcA2, hmA2, hR, hb⟩ := hN
  have HLA2 := hide hlA2
  have HR := hR.rd (B := w3.heap.size) fun b hb => hb.2
  have hb := Below.step (Below.refl _ w2) hb
  clear hR hlA2
  have HK1 : Hid (Below w.heap.size w w3 ∧ Rd (Sh.int .i64) w3 w3.heap.size A l ∧ Rd (Sh.int .i64) w3 w3.heap.size A1 (withF l x) ∧ Rd (Sh.int .i64) w3 w3.heap.size A2 (woF (withF l x) x)) := hide (⟨((stab_below w) w2 w3 HK.out.1 hb), ((stab_rd (Sh.int .i64) A l) w2 w3 HK.out.2.1 hb), ((stab_rd (Sh.int .i64) A1 (withF l x)) w2 w3 HK.out.2.2 hb), HR⟩)
  clear HK hb
  have HK := HK1
  clear HK1
  clear HR
  go_wp2_with fail
  refine (Stab.call (K := (fun W => Below w.heap.size w W ∧ Rd (Sh.int .i64) W W.heap.size A l ∧ Rd (Sh.int .i64) W W.heap.size A1 (withF l x) ∧ Rd (Sh.int .i64) W W.heap.size A2 (woF (withF l x) x))) (stab_and (stab_below w) (stab_and (stab_rd (Sh.int .i64) A l) (stab_and (stab_rd (Sh.int .i64) A1 (withF l x)) (stab_rd (Sh.int .i64) A2 (woF (withF l x) x))))) HK.out (Below.refl _ w3) (.bool true) (calls_same (eHas_any A1 nA1 cA1 (withF l x) x _ ((stab_rd (Sh.int .i64) A1 (withF l x)) w3 w3 HK.out.2.2.1 (Below.refl _ w3)) HLA1.out hcA1 hmA1)) (congrArg Value.bool (decide_eq_true (mem_withF.2 (.inr rfl))))).mono ?_
  rintro e w4 ⟨rfl, hK⟩
  have HK' := hide hK
  clear hK HK
  have HK := HK'
  clear HK'
  go_wp2_with fail
  refine (Stab.call (K := (fun W => Below w.heap.size w W ∧ Rd (Sh.int .i64) W W.heap.size A l ∧ Rd (Sh.int .i64) W W.heap.size A1 (withF l x) ∧ Rd (Sh.int .i64) W W.heap.size A2 (woF (withF l x) x))) (stab_and (stab_below w) (stab_and (stab_rd (Sh.int .i64) A l) (stab_and (stab_rd (Sh.int .i64) A1 (withF l x)) (stab_rd (Sh.int .i64) A2 (woF (withF l x) x))))) HK.out (Below.refl _ w4) (.bool false) (calls_same (eHas_any A2 nA2 cA2 (woF (withF l x) x) x _ ((stab_rd (Sh.int .i64) A2 (woF (withF l x) x)) w4 w4 HK.out.2.2.2 (Below.refl _ w4)) HLA2.out hcA2 hmA2)) (congrArg Value.bool (decide_eq_false fun h => (mem_woF.1 h).2 rfl))).mono ?_
  rintro e w5 ⟨rfl, hK⟩
  have HK' := hide hK
  clear hK HK
  have HK := HK'
  clear HK'
  go_wp2_with fail
  refine (eWithout_any A n c l x w5 ((stab_rd (Sh.int .i64) A l) w5 w5 HK.out.2.1 (Below.refl _ w5)) Hn.out hc hm (by omega)).mono ?_
  rintro e w6 ⟨vA3, rfl, hN⟩
  obtain ⟨A3, nA3, cA3, rfl, hlA3, hcA3, hmA3, hR, hb⟩ := hN
  have HLA3 := hide hlA3
  have HR := hR.rd (B := w6.heap.size) fun b hb => hb.2
  have hb := Below.step (Below.refl _ w5) hb
  clear hR hlA3
  have HK1 : Hid (Below w.heap.size w w6 ∧ Rd (Sh.int .i64) w6 w6.heap.size A l ∧ Rd (Sh.int .i64) w6 w6.heap.size A1 (withF l x) ∧ Rd (Sh.int .i64) w6 w6.heap.size A2 (woF (withF l x) x) ∧ Rd (Sh.int .i64) w6 w6.heap.size A3 (woF l x)) := hide (⟨((stab_below w) w5 w6 HK.out.1 hb), ((stab_rd (Sh.int .i64) A l) w5 w6 HK.out.2.1 hb), ((stab_rd (Sh.int .i64) A1 (withF l x)) w5 w6 HK.out.2.2.1 hb), ((stab_rd (Sh.int .i64) A2 (woF (withF l x) x)) w5 w6 HK.out.2.2.2 hb), HR⟩)
  clear HK hb
  have HK := HK1
  clear HK1
  clear HR
  go_wp2_with fail
  refine (Stab.call (K := (fun W => Below w.heap.size w W ∧ Rd (Sh.int .i64) W W.heap.size A l ∧ Rd (Sh.int .i64) W W.heap.size A1 (withF l x) ∧ Rd (Sh.int .i64) W W.heap.size A2 (woF (withF l x) x) ∧ Rd (Sh.int .i64) W W.heap.size A3 (woF l x))) (stab_and (stab_below w) (stab_and (stab_rd (Sh.int .i64) A l) (stab_and (stab_rd (Sh.int .i64) A1 (withF l x)) (stab_and (stab_rd (Sh.int .i64) A2 (woF (withF l x) x)) (stab_rd (Sh.int .i64) A3 (woF l x)))))) HK.out (Below.refl _ w6) (.bool true) (calls_drew (sameInts_any A2 A3 nA2 cA2 nA3 cA3 (woF (withF l x) x) (woF l x) _ ((stab_rd (Sh.int .i64) A2 (woF (withF l x) x)) w6 w6 HK.out.2.2.2.1 (Below.refl _ w6)) HLA2.out hcA2 hmA2 ((stab_rd (Sh.int .i64) A3 (woF l x)) w6 w6 HK.out.2.2.2.2 (Below.refl _ w6)) HLA3.out hcA3 hmA3)) (congrArg Value.bool (decide_eq_true (woF_withF l x)))).mono ?_
  rintro e w7 ⟨rfl, hK⟩
  have HK' := hide hK
  clear hK HK
  have HK := HK'
  clear HK'
  by_cases hyx : y = x
  · have t0 : (y != x) = false := by simp [hyx]
    clear hyx
    by_cases hr : rightE l self links level slots
    · have HR := hide hr
      have HRB := hide (right_wo (x := x) hr)
      have HRA := hide (right_with (x := x) hr)
      clear hr
      go_wp2_with fail
      refine (Stab.call (K := (fun W => Below w.heap.size w W ∧ Rd (Sh.int .i64) W W.heap.size A l ∧ Rd (Sh.int .i64) W W.heap.size A1 (withF l x) ∧ Rd (Sh.int .i64) W W.heap.size A2 (woF (withF l x) x) ∧ Rd (Sh.int .i64) W W.heap.size A3 (woF l x))) (stab_and (stab_below w) (stab_and (stab_rd (Sh.int .i64) A l) (stab_and (stab_rd (Sh.int .i64) A1 (withF l x)) (stab_and (stab_rd (Sh.int .i64) A2 (woF (withF l x) x)) (stab_rd (Sh.int .i64) A3 (woF l x)))))) HK.out (Below.refl _ w7) (.bool true) (eRight_any A n c l self links level slots _ ((stab_rd (Sh.int .i64) A l) w7 w7 HK.out.2.1 (Below.refl _ w7)) Hn.out hc hm HI.out) (congrArg Value.bool (decide_eq_true HR.out))).mono ?_
      rintro e w8 ⟨rfl, hK⟩
      have HK' := hide hK
      clear hK HK
      have HK := HK'
      clear HK'
      go_wp2_with fail
      refine (Stab.call (K := (fun W => Below w.heap.size w W ∧ Rd (Sh.int .i64) W W.heap.size A l ∧ Rd (Sh.int .i64) W W.heap.size A1 (withF l x) ∧ Rd (Sh.int .i64) W W.heap.size A2 (woF (withF l x) x) ∧ Rd (Sh.int .i64) W W.heap.size A3 (woF l x))) (stab_and (stab_below w) (stab_and (stab_rd (Sh.int .i64) A l) (stab_and (stab_rd (Sh.int .i64) A1 (withF l x)) (stab_and (stab_rd (Sh.int .i64) A2 (woF (withF l x) x)) (stab_rd (Sh.int .i64) A3 (woF l x)))))) HK.out (Below.refl _ w8) (.int .i64 mm) (calls_same (most_any links level _)) (by rw [HMM.out])).mono ?_
      rintro e w9 ⟨rfl, hK⟩
      have HK' := hide hK
      clear hK HK
      have HK := HK'
      clear HK'
      rw [Hn.out, HMM.out] at HRA
      by_cases hl : (n : Int) < mm
      · have HRoom := hide (show (n : Int) < mm ∨ x ∈ l from .inl hl)
        by_cases e1 : x = self
        · have HE := hide e1
          have t1 : (x != self) = false := by simp [e1]
          clear e1
          go_wp2_with fail
          refine (Stab.call (K := (fun W => Below w.heap.size w W ∧ Rd (Sh.int .i64) W W.heap.size A l ∧ Rd (Sh.int .i64) W W.heap.size A1 (withF l x) ∧ Rd (Sh.int .i64) W W.heap.size A2 (woF (withF l x) x) ∧ Rd (Sh.int .i64) W W.heap.size A3 (woF l x))) (stab_and (stab_below w) (stab_and (stab_rd (Sh.int .i64) A l) (stab_and (stab_rd (Sh.int .i64) A1 (withF l x)) (stab_and (stab_rd (Sh.int .i64) A2 (woF (withF l x) x)) (stab_rd (Sh.int .i64) A3 (woF l x)))))) HK.out (Below.refl _ w9) (.bool true) (eRight_any A2 nA2 cA2 (woF (withF l x) x) self links level slots _ ((stab_rd (Sh.int .i64) A2 (woF (withF l x) x)) w9 w9 HK.out.2.2.2.1 (Below.refl _ w9)) HLA2.out hcA2 hmA2 HIb.out) (congrArg Value.bool (decide_eq_true HRB.out))).mono ?_
          rintro e w10 ⟨rfl, hK⟩
          have HK' := hide hK
          clear hK HK
          have HK := HK'
          clear HK'
          go_wp2_with fail
          refine (Stab.call (K := (fun W => Below w.heap.size w W ∧ Rd (Sh.int .i64) W W.heap.size A l ∧ Rd (Sh.int .i64) W W.heap.size A1 (withF l x) ∧ Rd (Sh.int .i64) W W.heap.size A2 (woF (withF l x) x) ∧ Rd (Sh.int .i64) W W.heap.size A3 (woF l x))) (stab_and (stab_below w) (stab_and (stab_rd (Sh.int .i64) A l) (stab_and (stab_rd (Sh.int .i64) A1 (withF l x)) (stab_and (stab_rd (Sh.int .i64) A2 (woF (withF l x) x)) (stab_rd (Sh.int .i64) A3 (woF l x)))))) HK.out (Below.refl _ w10) (.bool false) (eRight_any A1 nA1 cA1 (withF l x) self links level slots _ ((stab_rd (Sh.int .i64) A1 (withF l x)) w10 w10 HK.out.2.2.1 (Below.refl _ w10)) HLA1.out hcA1 hmA1 HIa.out) (congrArg Value.bool (decide_eq_false (fun h => (HRA.out.1 h).2.1 HE.out)))).mono ?_
          rintro e w11 ⟨rfl, hK⟩
          have HK' := hide hK
          clear hK HK
          have HK := HK'
          clear HK'
          go_wp2_with fail
          go_ret
          exact ⟨rfl, HK.out.1⟩
        · have HE := hide e1
          have t1 : (x != self) = true := by simpa using e1
          clear e1
          by_cases e2 : 1 ≤ x
          · have E2 := hide e2
            by_cases e3 : x ≤ slots
            · have E3 := hide e3
              have t3 : decide (x ≤ slots) = true := decide_eq_true e3
              go_wp2_with fail
              refine (Stab.call (K := (fun W => Below w.heap.size w W ∧ Rd (Sh.int .i64) W W.heap.size A l ∧ Rd (Sh.int .i64) W W.heap.size A1 (withF l x) ∧ Rd (Sh.int .i64) W W.heap.size A2 (woF (withF l x) x) ∧ Rd (Sh.int .i64) W W.heap.size A3 (woF l x))) (stab_and (stab_below w) (stab_and (stab_rd (Sh.int .i64) A l) (stab_and (stab_rd (Sh.int .i64) A1 (withF l x)) (stab_and (stab_rd (Sh.int .i64) A2 (woF (withF l x) x)) (stab_rd (Sh.int .i64) A3 (woF l x)))))) HK.out (Below.refl _ w9) (.bool true) (eRight_any A2 nA2 cA2 (woF (withF l x) x) self links level slots _ ((stab_rd (Sh.int .i64) A2 (woF (withF l x) x)) w9 w9 HK.out.2.2.2.1 (Below.refl _ w9)) HLA2.out hcA2 hmA2 HIb.out) (congrArg Value.bool (decide_eq_true HRB.out))).mono ?_
              rintro e w10 ⟨rfl, hK⟩
              have HK' := hide hK
              clear hK HK
              have HK := HK'
              clear HK'
              go_wp2_with fail
              refine (Stab.call (K := (fun W => Below w.heap.size w W ∧ Rd (Sh.int .i64) W W.heap.size A l ∧ Rd (Sh.int .i64) W W.heap.size A1 (withF l x) ∧ Rd (Sh.int .i64) W W.heap.size A2 (woF (withF l x) x) ∧ Rd (Sh.int .i64) W W.heap.size A3 (woF l x))) (stab_and (stab_below w) (stab_and (stab_rd (Sh.int .i64) A l) (stab_and (stab_rd (Sh.int .i64) A1 (withF l x)) (stab_and (stab_rd (Sh.int .i64) A2 (woF (withF l x) x)) (stab_rd (Sh.int .i64) A3 (woF l x)))))) HK.out (Below.refl _ w10) (.bool true) (eRight_any A1 nA1 cA1 (withF l x) self links level slots _ ((stab_rd (Sh.int .i64) A1 (withF l x)) w10 w10 HK.out.2.2.1 (Below.refl _ w10)) HLA1.out hcA1 hmA1 HIa.out) (congrArg Value.bool (decide_eq_true (HRA.out.2 ⟨HRoom.out, HE.out, E2.out, E3.out⟩)))).mono ?_
              rintro e w11 ⟨rfl, hK⟩
              have HK' := hide hK
              clear hK HK
              have HK := HK'
              clear HK'
              go_wp2_with fail
              go_ret
              exact ⟨rfl, HK.out.1⟩
            · have E3 := hide e3
              have t3 : decide (x ≤ slots) = false := by simp; omega
              clear e3
              go_wp2_with fail
              refine (Stab.call (K := (fun W => Below w.heap.size w W ∧ Rd (Sh.int .i64) W W.heap.size A l ∧ Rd (Sh.int .i64) W W.heap.size A1 (withF l x) ∧ Rd (Sh.int .i64) W W.heap.size A2 (woF (withF l x) x) ∧ Rd (Sh.int .i64) W W.heap.size A3 (woF l x))) (stab_and (stab_below w) (stab_and (stab_rd (Sh.int .i64) A l) (stab_and (stab_rd (Sh.int .i64) A1 (withF l x)) (stab_and (stab_rd (Sh.int .i64) A2 (woF (withF l x) x)) (stab_rd (Sh.int .i64) A3 (woF l x)))))) HK.out (Below.refl _ w9) (.bool true) (eRight_any A2 nA2 cA2 (woF (withF l x) x) self links level slots _ ((stab_rd (Sh.int .i64) A2 (woF (withF l x) x)) w9 w9 HK.out.2.2.2.1 (Below.refl _ w9)) HLA2.out hcA2 hmA2 HIb.out) (congrArg Value.bool (decide_eq_true HRB.out))).mono ?_
              rintro e w10 ⟨rfl, hK⟩
              have HK' := hide hK
              clear hK HK
              have HK := HK'
              clear HK'
              go_wp2_with fail
              refine (Stab.call (K := (fun W => Below w.heap.size w W ∧ Rd (Sh.int .i64) W W.heap.size A l ∧ Rd (Sh.int .i64) W W.heap.size A1 (withF l x) ∧ Rd (Sh.int .i64) W W.heap.size A2 (woF (withF l x) x) ∧ Rd (Sh.int .i64) W W.heap.size A3 (woF l x))) (stab_and (stab_below w) (stab_and (stab_rd (Sh.int .i64) A l) (stab_and (stab_rd (Sh.int .i64) A1 (withF l x)) (stab_and (stab_rd (Sh.int .i64) A2 (woF (withF l x) x)) (stab_rd (Sh.int .i64) A3 (woF l x)))))) HK.out (Below.refl _ w10) (.bool false) (eRight_any A1 nA1 cA1 (withF l x) self links level slots _ ((stab_rd (Sh.int .i64) A1 (withF l x)) w10 w10 HK.out.2.2.1 (Below.refl _ w10)) HLA1.out hcA1 hmA1 HIa.out) (congrArg Value.bool (decide_eq_false (fun h => by have h4 := (HRA.out.1 h).2.2.2; have h5 := E3.out; omega)))).mono ?_
              rintro e w11 ⟨rfl, hK⟩
              have HK' := hide hK
              clear hK HK
              have HK := HK'
              clear HK'
              go_wp2_with fail
              go_ret
              exact ⟨rfl, HK.out.1⟩
          · have E2 := hide e2
            go_wp2_with fail
            refine (Stab.call (K := (fun W => Below w.heap.size w W ∧ Rd (Sh.int .i64) W W.heap.size A l ∧ Rd (Sh.int .i64) W W.heap.size A1 (withF l x) ∧ Rd (Sh.int .i64) W W.heap.size A2 (woF (withF l x) x) ∧ Rd (Sh.int .i64) W W.heap.size A3 (woF l x))) (stab_and (stab_below w) (stab_and (stab_rd (Sh.int .i64) A l) (stab_and (stab_rd (Sh.int .i64) A1 (withF l x)) (stab_and (stab_rd (Sh.int .i64) A2 (woF (withF l x) x)) (stab_rd (Sh.int .i64) A3 (woF l x)))))) HK.out (Below.refl _ w9) (.bool true) (eRight_any A2 nA2 cA2 (woF (withF l x) x) self links level slots _ ((stab_rd (Sh.int .i64) A2 (woF (withF l x) x)) w9 w9 HK.out.2.2.2.1 (Below.refl _ w9)) HLA2.out hcA2 hmA2 HIb.out) (congrArg Value.bool (decide_eq_true HRB.out))).mono ?_
            rintro e w10 ⟨rfl, hK⟩
            have HK' := hide hK
            clear hK HK
            have HK := HK'
            clear HK'
            go_wp2_with fail
            refine (Stab.call (K := (fun W => Below w.heap.size w W ∧ Rd (Sh.int .i64) W W.heap.size A l ∧ Rd (Sh.int .i64) W W.heap.size A1 (withF l x) ∧ Rd (Sh.int .i64) W W.heap.size A2 (woF (withF l x) x) ∧ Rd (Sh.int .i64) W W.heap.size A3 (woF l x))) (stab_and (stab_below w) (stab_and (stab_rd (Sh.int .i64) A l) (stab_and (stab_rd (Sh.int .i64) A1 (withF l x)) (stab_and (stab_rd (Sh.int .i64) A2 (woF (withF l x) x)) (stab_rd (Sh.int .i64) A3 (woF l x)))))) HK.out (Below.refl _ w10) (.bool false) (eRight_any A1 nA1 cA1 (withF l x) self links level slots _ ((stab_rd (Sh.int .i64) A1 (withF l x)) w10 w10 HK.out.2.2.1 (Below.refl _ w10)) HLA1.out hcA1 hmA1 HIa.out) (congrArg Value.bool (decide_eq_false (fun h => by have h4 := (HRA.out.1 h).2.2.1; have h5 := E2.out; omega)))).mono ?_
            rintro e w11 ⟨rfl, hK⟩
            have HK' := hide hK
            clear hK HK
            have HK := HK'
            clear HK'
            go_wp2_with fail
            go_ret
            exact ⟨rfl, HK.out.1⟩
      · by_cases hxl : x ∈ l
        · have HRoom := hide (show (n : Int) < mm ∨ x ∈ l from .inr hxl)
          have HXL := hide hxl
          clear hxl
          go_wp2_with fail
          refine (Stab.call (K := (fun W => Below w.heap.size w W ∧ Rd (Sh.int .i64) W W.heap.size A l ∧ Rd (Sh.int .i64) W W.heap.size A1 (withF l x) ∧ Rd (Sh.int .i64) W W.heap.size A2 (woF (withF l x) x) ∧ Rd (Sh.int .i64) W W.heap.size A3 (woF l x))) (stab_and (stab_below w) (stab_and (stab_rd (Sh.int .i64) A l) (stab_and (stab_rd (Sh.int .i64) A1 (withF l x)) (stab_and (stab_rd (Sh.int .i64) A2 (woF (withF l x) x)) (stab_rd (Sh.int .i64) A3 (woF l x)))))) HK.out (Below.refl _ w9) (.bool true) (calls_same (eHas_any A n c l x _ ((stab_rd (Sh.int .i64) A l) w9 w9 HK.out.2.1 (Below.refl _ w9)) Hn.out hc hm)) (congrArg Value.bool (decide_eq_true HXL.out))).mono ?_
          rintro e w10 ⟨rfl, hK⟩
          have HK' := hide hK
          clear hK HK
          have HK := HK'
          clear HK'
          by_cases e1 : x = self
          · have HE := hide e1
            have t1 : (x != self) = false := by simp [e1]
            clear e1
            go_wp2_with fail
            refine (Stab.call (K := (fun W => Below w.heap.size w W ∧ Rd (Sh.int .i64) W W.heap.size A l ∧ Rd (Sh.int .i64) W W.heap.size A1 (withF l x) ∧ Rd (Sh.int .i64) W W.heap.size A2 (woF (withF l x) x) ∧ Rd (Sh.int .i64) W W.heap.size A3 (woF l x))) (stab_and (stab_below w) (stab_and (stab_rd (Sh.int .i64) A l) (stab_and (stab_rd (Sh.int .i64) A1 (withF l x)) (stab_and (stab_rd (Sh.int .i64) A2 (woF (withF l x) x)) (stab_rd (Sh.int .i64) A3 (woF l x)))))) HK.out (Below.refl _ w10) (.bool true) (eRight_any A2 nA2 cA2 (woF (withF l x) x) self links level slots _ ((stab_rd (Sh.int .i64) A2 (woF (withF l x) x)) w10 w10 HK.out.2.2.2.1 (Below.refl _ w10)) HLA2.out hcA2 hmA2 HIb.out) (congrArg Value.bool (decide_eq_true HRB.out))).mono ?_
            rintro e w11 ⟨rfl, hK⟩
            have HK' := hide hK
            clear hK HK
            have HK := HK'
            clear HK'
            go_wp2_with fail
            refine (Stab.call (K := (fun W => Below w.heap.size w W ∧ Rd (Sh.int .i64) W W.heap.size A l ∧ Rd (Sh.int .i64) W W.heap.size A1 (withF l x) ∧ Rd (Sh.int .i64) W W.heap.size A2 (woF (withF l x) x) ∧ Rd (Sh.int .i64) W W.heap.size A3 (woF l x))) (stab_and (stab_below w) (stab_and (stab_rd (Sh.int .i64) A l) (stab_and (stab_rd (Sh.int .i64) A1 (withF l x)) (stab_and (stab_rd (Sh.int .i64) A2 (woF (withF l x) x)) (stab_rd (Sh.int .i64) A3 (woF l x)))))) HK.out (Below.refl _ w11) (.bool false) (eRight_any A1 nA1 cA1 (withF l x) self links level slots _ ((stab_rd (Sh.int .i64) A1 (withF l x)) w11 w11 HK.out.2.2.1 (Below.refl _ w11)) HLA1.out hcA1 hmA1 HIa.out) (congrArg Value.bool (decide_eq_false (fun h => (HRA.out.1 h).2.1 HE.out)))).mono ?_
            rintro e w12 ⟨rfl, hK⟩
            have HK' := hide hK
            clear hK HK
            have HK := HK'
            clear HK'
            go_wp2_with fail
            go_ret
            exact ⟨rfl, HK.out.1⟩
          · have HE := hide e1
            have t1 : (x != self) = true := by simpa using e1
            clear e1
            by_cases e2 : 1 ≤ x
            · have E2 := hide e2
              by_cases e3 : x ≤ slots
              · have E3 := hide e3
                have t3 : decide (x ≤ slots) = true := decide_eq_true e3
                go_wp2_with fail
                refine (Stab.call (K := (fun W => Below w.heap.size w W ∧ Rd (Sh.int .i64) W W.heap.size A l ∧ Rd (Sh.int .i64) W W.heap.size A1 (withF l x) ∧ Rd (Sh.int .i64) W W.heap.size A2 (woF (withF l x) x) ∧ Rd (Sh.int .i64) W W.heap.size A3 (woF l x))) (stab_and (stab_below w) (stab_and (stab_rd (Sh.int .i64) A l) (stab_and (stab_rd (Sh.int .i64) A1 (withF l x)) (stab_and (stab_rd (Sh.int .i64) A2 (woF (withF l x) x)) (stab_rd (Sh.int .i64) A3 (woF l x)))))) HK.out (Below.refl _ w10) (.bool true) (eRight_any A2 nA2 cA2 (woF (withF l x) x) self links level slots _ ((stab_rd (Sh.int .i64) A2 (woF (withF l x) x)) w10 w10 HK.out.2.2.2.1 (Below.refl _ w10)) HLA2.out hcA2 hmA2 HIb.out) (congrArg Value.bool (decide_eq_true HRB.out))).mono ?_
                rintro e w11 ⟨rfl, hK⟩
                have HK' := hide hK
                clear hK HK
                have HK := HK'
                clear HK'
                go_wp2_with fail
                refine (Stab.call (K := (fun W => Below w.heap.size w W ∧ Rd (Sh.int .i64) W W.heap.size A l ∧ Rd (Sh.int .i64) W W.heap.size A1 (withF l x) ∧ Rd (Sh.int .i64) W W.heap.size A2 (woF (withF l x) x) ∧ Rd (Sh.int .i64) W W.heap.size A3 (woF l x))) (stab_and (stab_below w) (stab_and (stab_rd (Sh.int .i64) A l) (stab_and (stab_rd (Sh.int .i64) A1 (withF l x)) (stab_and (stab_rd (Sh.int .i64) A2 (woF (withF l x) x)) (stab_rd (Sh.int .i64) A3 (woF l x)))))) HK.out (Below.refl _ w11) (.bool true) (eRight_any A1 nA1 cA1 (withF l x) self links level slots _ ((stab_rd (Sh.int .i64) A1 (withF l x)) w11 w11 HK.out.2.2.1 (Below.refl _ w11)) HLA1.out hcA1 hmA1 HIa.out) (congrArg Value.bool (decide_eq_true (HRA.out.2 ⟨HRoom.out, HE.out, E2.out, E3.out⟩)))).mono ?_
                rintro e w12 ⟨rfl, hK⟩
                have HK' := hide hK
                clear hK HK
                have HK := HK'
                clear HK'
                go_wp2_with fail
                go_ret
                exact ⟨rfl, HK.out.1⟩
              · have E3 := hide e3
                have t3 : decide (x ≤ slots) = false := by simp; omega
                clear e3
                go_wp2_with fail
                refine (Stab.call (K := (fun W => Below w.heap.size w W ∧ Rd (Sh.int .i64) W W.heap.size A l ∧ Rd (Sh.int .i64) W W.heap.size A1 (withF l x) ∧ Rd (Sh.int .i64) W W.heap.size A2 (woF (withF l x) x) ∧ Rd (Sh.int .i64) W W.heap.size A3 (woF l x))) (stab_and (stab_below w) (stab_and (stab_rd (Sh.int .i64) A l) (stab_and (stab_rd (Sh.int .i64) A1 (withF l x)) (stab_and (stab_rd (Sh.int .i64) A2 (woF (withF l x) x)) (stab_rd (Sh.int .i64) A3 (woF l x)))))) HK.out (Below.refl _ w10) (.bool true) (eRight_any A2 nA2 cA2 (woF (withF l x) x) self links level slots _ ((stab_rd (Sh.int .i64) A2 (woF (withF l x) x)) w10 w10 HK.out.2.2.2.1 (Below.refl _ w10)) HLA2.out hcA2 hmA2 HIb.out) (congrArg Value.bool (decide_eq_true HRB.out))).mono ?_
                rintro e w11 ⟨rfl, hK⟩
                have HK' := hide hK
                clear hK HK
                have HK := HK'
                clear HK'
                go_wp2_with fail
                refine (Stab.call (K := (fun W => Below w.heap.size w W ∧ Rd (Sh.int .i64) W W.heap.size A l ∧ Rd (Sh.int .i64) W W.heap.size A1 (withF l x) ∧ Rd (Sh.int .i64) W W.heap.size A2 (woF (withF l x) x) ∧ Rd (Sh.int .i64) W W.heap.size A3 (woF l x))) (stab_and (stab_below w) (stab_and (stab_rd (Sh.int .i64) A l) (stab_and (stab_rd (Sh.int .i64) A1 (withF l x)) (stab_and (stab_rd (Sh.int .i64) A2 (woF (withF l x) x)) (stab_rd (Sh.int .i64) A3 (woF l x)))))) HK.out (Below.refl _ w11) (.bool false) (eRight_any A1 nA1 cA1 (withF l x) self links level slots _ ((stab_rd (Sh.int .i64) A1 (withF l x)) w11 w11 HK.out.2.2.1 (Below.refl _ w11)) HLA1.out hcA1 hmA1 HIa.out) (congrArg Value.bool (decide_eq_false (fun h => by have h4 := (HRA.out.1 h).2.2.2; have h5 := E3.out; omega)))).mono ?_
                rintro e w12 ⟨rfl, hK⟩
                have HK' := hide hK
                clear hK HK
                have HK := HK'
                clear HK'
                go_wp2_with fail
                go_ret
                exact ⟨rfl, HK.out.1⟩
            · have E2 := hide e2
              go_wp2_with fail
              refine (Stab.call (K := (fun W => Below w.heap.size w W ∧ Rd (Sh.int .i64) W W.heap.size A l ∧ Rd (Sh.int .i64) W W.heap.size A1 (withF l x) ∧ Rd (Sh.int .i64) W W.heap.size A2 (woF (withF l x) x) ∧ Rd (Sh.int .i64) W W.heap.size A3 (woF l x))) (stab_and (stab_below w) (stab_and (stab_rd (Sh.int .i64) A l) (stab_and (stab_rd (Sh.int .i64) A1 (withF l x)) (stab_and (stab_rd (Sh.int .i64) A2 (woF (withF l x) x)) (stab_rd (Sh.int .i64) A3 (woF l x)))))) HK.out (Below.refl _ w10) (.bool true) (eRight_any A2 nA2 cA2 (woF (withF l x) x) self links level slots _ ((stab_rd (Sh.int .i64) A2 (woF (withF l x) x)) w10 w10 HK.out.2.2.2.1 (Below.refl _ w10)) HLA2.out hcA2 hmA2 HIb.out) (congrArg Value.bool (decide_eq_true HRB.out))).mono ?_
              rintro e w11 ⟨rfl, hK⟩
              have HK' := hide hK
              clear hK HK
              have HK := HK'
              clear HK'
              go_wp2_with fail
              refine (Stab.call (K := (fun W => Below w.heap.size w W ∧ Rd (Sh.int .i64) W W.heap.size A l ∧ Rd (Sh.int .i64) W W.heap.size A1 (withF l x) ∧ Rd (Sh.int .i64) W W.heap.size A2 (woF (withF l x) x) ∧ Rd (Sh.int .i64) W W.heap.size A3 (woF l x))) (stab_and (stab_below w) (stab_and (stab_rd (Sh.int .i64) A l) (stab_and (stab_rd (Sh.int .i64) A1 (withF l x)) (stab_and (stab_rd (Sh.int .i64) A2 (woF (withF l x) x)) (stab_rd (Sh.int .i64) A3 (woF l x)))))) HK.out (Below.refl _ w11) (.bool false) (eRight_any A1 nA1 cA1 (withF l x) self links level slots _ ((stab_rd (Sh.int .i64) A1 (withF l x)) w11 w11 HK.out.2.2.1 (Below.refl _ w11)) HLA1.out hcA1 hmA1 HIa.out) (congrArg Value.bool (decide_eq_false (fun h => by have h4 := (HRA.out.1 h).2.2.1; have h5 := E2.out; omega)))).mono ?_
              rintro e w12 ⟨rfl, hK⟩
              have HK' := hide hK
              clear hK HK
              have HK := HK'
              clear HK'
              go_wp2_with fail
              go_ret
              exact ⟨rfl, HK.out.1⟩
        · have HNR := hide (And.intro hl hxl)
          clear hxl
          go_wp2_with fail
          refine (Stab.call (K := (fun W => Below w.heap.size w W ∧ Rd (Sh.int .i64) W W.heap.size A l ∧ Rd (Sh.int .i64) W W.heap.size A1 (withF l x) ∧ Rd (Sh.int .i64) W W.heap.size A2 (woF (withF l x) x) ∧ Rd (Sh.int .i64) W W.heap.size A3 (woF l x))) (stab_and (stab_below w) (stab_and (stab_rd (Sh.int .i64) A l) (stab_and (stab_rd (Sh.int .i64) A1 (withF l x)) (stab_and (stab_rd (Sh.int .i64) A2 (woF (withF l x) x)) (stab_rd (Sh.int .i64) A3 (woF l x)))))) HK.out (Below.refl _ w9) (.bool false) (calls_same (eHas_any A n c l x _ ((stab_rd (Sh.int .i64) A l) w9 w9 HK.out.2.1 (Below.refl _ w9)) Hn.out hc hm)) (congrArg Value.bool (decide_eq_false HNR.out.2))).mono ?_
          rintro e w10 ⟨rfl, hK⟩
          have HK' := hide hK
          clear hK HK
          have HK := HK'
          clear HK'
          go_wp2_with fail
          refine (Stab.call (K := (fun W => Below w.heap.size w W ∧ Rd (Sh.int .i64) W W.heap.size A l ∧ Rd (Sh.int .i64) W W.heap.size A1 (withF l x) ∧ Rd (Sh.int .i64) W W.heap.size A2 (woF (withF l x) x) ∧ Rd (Sh.int .i64) W W.heap.size A3 (woF l x))) (stab_and (stab_below w) (stab_and (stab_rd (Sh.int .i64) A l) (stab_and (stab_rd (Sh.int .i64) A1 (withF l x)) (stab_and (stab_rd (Sh.int .i64) A2 (woF (withF l x) x)) (stab_rd (Sh.int .i64) A3 (woF l x)))))) HK.out (Below.refl _ w10) (.bool true) (eRight_any A2 nA2 cA2 (woF (withF l x) x) self links level slots _ ((stab_rd (Sh.int .i64) A2 (woF (withF l x) x)) w10 w10 HK.out.2.2.2.1 (Below.refl _ w10)) HLA2.out hcA2 hmA2 HIb.out) (congrArg Value.bool (decide_eq_true HRB.out))).mono ?_
          rintro e w11 ⟨rfl, hK⟩
          have HK' := hide hK
          clear hK HK
          have HK := HK'
          clear HK'
          go_wp2_with fail
          refine (Stab.call (K := (fun W => Below w.heap.size w W ∧ Rd (Sh.int .i64) W W.heap.size A l ∧ Rd (Sh.int .i64) W W.heap.size A1 (withF l x) ∧ Rd (Sh.int .i64) W W.heap.size A2 (woF (withF l x) x) ∧ Rd (Sh.int .i64) W W.heap.size A3 (woF l x))) (stab_and (stab_below w) (stab_and (stab_rd (Sh.int .i64) A l) (stab_and (stab_rd (Sh.int .i64) A1 (withF l x)) (stab_and (stab_rd (Sh.int .i64) A2 (woF (withF l x) x)) (stab_rd (Sh.int .i64) A3 (woF l x)))))) HK.out (Below.refl _ w11) (.bool false) (eRight_any A1 nA1 cA1 (withF l x) self links level slots _ ((stab_rd (Sh.int .i64) A1 (withF l x)) w11 w11 HK.out.2.2.1 (Below.refl _ w11)) HLA1.out hcA1 hmA1 HIa.out) (congrArg Value.bool (decide_eq_false (fun h => (HRA.out.1 h).1.elim (fun h5 => by have := HNR.out.1; omega) HNR.out.2)))).mono ?_
          rintro e w12 ⟨rfl, hK⟩
          have HK' := hide hK
          clear hK HK
          have HK := HK'
          clear HK'
          go_wp2_with fail
          go_ret
          exact ⟨rfl, HK.out.1⟩
    · have HR := hide hr
      clear hr
      go_wp2_with fail
      refine (Stab.call (K := (fun W => Below w.heap.size w W ∧ Rd (Sh.int .i64) W W.heap.size A l ∧ Rd (Sh.int .i64) W W.heap.size A1 (withF l x) ∧ Rd (Sh.int .i64) W W.heap.size A2 (woF (withF l x) x) ∧ Rd (Sh.int .i64) W W.heap.size A3 (woF l x))) (stab_and (stab_below w) (stab_and (stab_rd (Sh.int .i64) A l) (stab_and (stab_rd (Sh.int .i64) A1 (withF l x)) (stab_and (stab_rd (Sh.int .i64) A2 (woF (withF l x) x)) (stab_rd (Sh.int .i64) A3 (woF l x)))))) HK.out (Below.refl _ w7) (.bool false) (eRight_any A n c l self links level slots _ ((stab_rd (Sh.int .i64) A l) w7 w7 HK.out.2.1 (Below.refl _ w7)) Hn.out hc hm HI.out) (congrArg Value.bool (decide_eq_false HR.out))).mono ?_
      rintro e w8 ⟨rfl, hK⟩
      have HK' := hide hK
      clear hK HK
      have HK := HK'
      clear HK'
      go_wp2_with fail
      go_ret
      exact ⟨rfl, HK.out.1⟩
  · have t0 : (y != x) = true := by simpa using hyx
    have HYX := hide hyx
    clear hyx
    go_wp2_with fail
    refine (Stab.call (K := (fun W => Below w.heap.size w W ∧ Rd (Sh.int .i64) W W.heap.size A l ∧ Rd (Sh.int .i64) W W.heap.size A1 (withF l x) ∧ Rd (Sh.int .i64) W W.heap.size A2 (woF (withF l x) x) ∧ Rd (Sh.int .i64) W W.heap.size A3 (woF l x))) (stab_and (stab_below w) (stab_and (stab_rd (Sh.int .i64) A l) (stab_and (stab_rd (Sh.int .i64) A1 (withF l x)) (stab_and (stab_rd (Sh.int .i64) A2 (woF (withF l x) x)) (stab_rd (Sh.int .i64) A3 (woF l x)))))) HK.out (Below.refl _ w7) (.bool hB) (calls_same (eHas_any A1 nA1 cA1 (withF l x) y _ ((stab_rd (Sh.int .i64) A1 (withF l x)) w7 w7 HK.out.2.2.1 (Below.refl _ w7)) HLA1.out hcA1 hmA1)) (by rw [← HHB.out]; exact congrArg Value.bool (decide_eq_decide.2 (mem_withF.trans ⟨fun h => h.resolve_right HYX.out, .inl⟩)))).mono ?_
    rintro e w8 ⟨rfl, hK⟩
    have HK' := hide hK
    clear hK HK
    have HK := HK'
    clear HK'
    go_wp2_with fail
    refine (Stab.call (K := (fun W => Below w.heap.size w W ∧ Rd (Sh.int .i64) W W.heap.size A l ∧ Rd (Sh.int .i64) W W.heap.size A1 (withF l x) ∧ Rd (Sh.int .i64) W W.heap.size A2 (woF (withF l x) x) ∧ Rd (Sh.int .i64) W W.heap.size A3 (woF l x))) (stab_and (stab_below w) (stab_and (stab_rd (Sh.int .i64) A l) (stab_and (stab_rd (Sh.int .i64) A1 (withF l x)) (stab_and (stab_rd (Sh.int .i64) A2 (woF (withF l x) x)) (stab_rd (Sh.int .i64) A3 (woF l x)))))) HK.out (Below.refl _ w8) (.bool hB) (calls_same (eHas_any A n c l y _ ((stab_rd (Sh.int .i64) A l) w8 w8 HK.out.2.1 (Below.refl _ w8)) Hn.out hc hm)) (by rw [HHB.out])).mono ?_
    rintro e w9 ⟨rfl, hK⟩
    have HK' := hide hK
    clear hK HK
    have HK := HK'
    clear HK'
    go_wp2_with fail
    refine (Stab.call (K := (fun W => Below w.heap.size w W ∧ Rd (Sh.int .i64) W W.heap.size A l ∧ Rd (Sh.int .i64) W W.heap.size A1 (withF l x) ∧ Rd (Sh.int .i64) W W.heap.size A2 (woF (withF l x) x) ∧ Rd (Sh.int .i64) W W.heap.size A3 (woF l x))) (stab_and (stab_below w) (stab_and (stab_rd (Sh.int .i64) A l) (stab_and (stab_rd (Sh.int .i64) A1 (withF l x)) (stab_and (stab_rd (Sh.int .i64) A2 (woF (withF l x) x)) (stab_rd (Sh.int .i64) A3 (woF l x)))))) HK.out (Below.refl _ w9) (.bool hB) (calls_same (eHas_any A2 nA2 cA2 (woF (withF l x) x) y _ ((stab_rd (Sh.int .i64) A2 (woF (withF l x) x)) w9 w9 HK.out.2.2.2.1 (Below.refl _ w9)) HLA2.out hcA2 hmA2)) (by rw [← HHB.out, woF_withF]; exact congrArg Value.bool (decide_eq_decide.2 (mem_woF.trans ⟨And.left, fun h => ⟨h, HYX.out⟩⟩)))).mono ?_
    rintro e w10 ⟨rfl, hK⟩
    have HK' := hide hK
    clear hK HK
    have HK := HK'
    clear HK'
    go_wp2_with fail
    refine (Stab.call (K := (fun W => Below w.heap.size w W ∧ Rd (Sh.int .i64) W W.heap.size A l ∧ Rd (Sh.int .i64) W W.heap.size A1 (withF l x) ∧ Rd (Sh.int .i64) W W.heap.size A2 (woF (withF l x) x) ∧ Rd (Sh.int .i64) W W.heap.size A3 (woF l x))) (stab_and (stab_below w) (stab_and (stab_rd (Sh.int .i64) A l) (stab_and (stab_rd (Sh.int .i64) A1 (withF l x)) (stab_and (stab_rd (Sh.int .i64) A2 (woF (withF l x) x)) (stab_rd (Sh.int .i64) A3 (woF l x)))))) HK.out (Below.refl _ w10) (.bool hB) (calls_same (eHas_any A n c l y _ ((stab_rd (Sh.int .i64) A l) w10 w10 HK.out.2.1 (Below.refl _ w10)) Hn.out hc hm)) (by rw [HHB.out])).mono ?_
    rintro e w11 ⟨rfl, hK⟩
    have HK' := hide hK
    clear hK HK
    have HK := HK'
    clear HK'
    by_cases hr : rightE l self links level slots
    · have HR := hide hr
      have HRB := hide (right_wo (x := x) hr)
      have HRA := hide (right_with (x := x) hr)
      clear hr
      go_wp2_with fail
      refine (Stab.call (K := (fun W => Below w.heap.size w W ∧ Rd (Sh.int .i64) W W.heap.size A l ∧ Rd (Sh.int .i64) W W.heap.size A1 (withF l x) ∧ Rd (Sh.int .i64) W W.heap.size A2 (woF (withF l x) x) ∧ Rd (Sh.int .i64) W W.heap.size A3 (woF l x))) (stab_and (stab_below w) (stab_and (stab_rd (Sh.int .i64) A l) (stab_and (stab_rd (Sh.int .i64) A1 (withF l x)) (stab_and (stab_rd (Sh.int .i64) A2 (woF (withF l x) x)) (stab_rd (Sh.int .i64) A3 (woF l x)))))) HK.out (Below.refl _ w11) (.bool true) (eRight_any A n c l self links level slots _ ((stab_rd (Sh.int .i64) A l) w11 w11 HK.out.2.1 (Below.refl _ w11)) Hn.out hc hm HI.out) (congrArg Value.bool (decide_eq_true HR.out))).mono ?_
      rintro e w12 ⟨rfl, hK⟩
      have HK' := hide hK
      clear hK HK
      have HK := HK'
      clear HK'
      go_wp2_with fail
      refine (Stab.call (K := (fun W => Below w.heap.size w W ∧ Rd (Sh.int .i64) W W.heap.size A l ∧ Rd (Sh.int .i64) W W.heap.size A1 (withF l x) ∧ Rd (Sh.int .i64) W W.heap.size A2 (woF (withF l x) x) ∧ Rd (Sh.int .i64) W W.heap.size A3 (woF l x))) (stab_and (stab_below w) (stab_and (stab_rd (Sh.int .i64) A l) (stab_and (stab_rd (Sh.int .i64) A1 (withF l x)) (stab_and (stab_rd (Sh.int .i64) A2 (woF (withF l x) x)) (stab_rd (Sh.int .i64) A3 (woF l x)))))) HK.out (Below.refl _ w12) (.int .i64 mm) (calls_same (most_any links level _)) (by rw [HMM.out])).mono ?_
      rintro e w13 ⟨rfl, hK⟩
      have HK' := hide hK
      clear hK HK
      have HK := HK'
      clear HK'
      rw [Hn.out, HMM.out] at HRA
      by_cases hl : (n : Int) < mm
      · have HRoom := hide (show (n : Int) < mm ∨ x ∈ l from .inl hl)
        by_cases e1 : x = self
        · have HE := hide e1
          have t1 : (x != self) = false := by simp [e1]
          clear e1
          go_wp2_with fail
          refine (Stab.call (K := (fun W => Below w.heap.size w W ∧ Rd (Sh.int .i64) W W.heap.size A l ∧ Rd (Sh.int .i64) W W.heap.size A1 (withF l x) ∧ Rd (Sh.int .i64) W W.heap.size A2 (woF (withF l x) x) ∧ Rd (Sh.int .i64) W W.heap.size A3 (woF l x))) (stab_and (stab_below w) (stab_and (stab_rd (Sh.int .i64) A l) (stab_and (stab_rd (Sh.int .i64) A1 (withF l x)) (stab_and (stab_rd (Sh.int .i64) A2 (woF (withF l x) x)) (stab_rd (Sh.int .i64) A3 (woF l x)))))) HK.out (Below.refl _ w13) (.bool true) (eRight_any A2 nA2 cA2 (woF (withF l x) x) self links level slots _ ((stab_rd (Sh.int .i64) A2 (woF (withF l x) x)) w13 w13 HK.out.2.2.2.1 (Below.refl _ w13)) HLA2.out hcA2 hmA2 HIb.out) (congrArg Value.bool (decide_eq_true HRB.out))).mono ?_
          rintro e w14 ⟨rfl, hK⟩
          have HK' := hide hK
          clear hK HK
          have HK := HK'
          clear HK'
          go_wp2_with fail
          refine (Stab.call (K := (fun W => Below w.heap.size w W ∧ Rd (Sh.int .i64) W W.heap.size A l ∧ Rd (Sh.int .i64) W W.heap.size A1 (withF l x) ∧ Rd (Sh.int .i64) W W.heap.size A2 (woF (withF l x) x) ∧ Rd (Sh.int .i64) W W.heap.size A3 (woF l x))) (stab_and (stab_below w) (stab_and (stab_rd (Sh.int .i64) A l) (stab_and (stab_rd (Sh.int .i64) A1 (withF l x)) (stab_and (stab_rd (Sh.int .i64) A2 (woF (withF l x) x)) (stab_rd (Sh.int .i64) A3 (woF l x)))))) HK.out (Below.refl _ w14) (.bool false) (eRight_any A1 nA1 cA1 (withF l x) self links level slots _ ((stab_rd (Sh.int .i64) A1 (withF l x)) w14 w14 HK.out.2.2.1 (Below.refl _ w14)) HLA1.out hcA1 hmA1 HIa.out) (congrArg Value.bool (decide_eq_false (fun h => (HRA.out.1 h).2.1 HE.out)))).mono ?_
          rintro e w15 ⟨rfl, hK⟩
          have HK' := hide hK
          clear hK HK
          have HK := HK'
          clear HK'
          go_wp2_with fail
          go_ret
          exact ⟨rfl, HK.out.1⟩
        · have HE := hide e1
          have t1 : (x != self) = true := by simpa using e1
          clear e1
          by_cases e2 : 1 ≤ x
          · have E2 := hide e2
            by_cases e3 : x ≤ slots
            · have E3 := hide e3
              have t3 : decide (x ≤ slots) = true := decide_eq_true e3
              go_wp2_with fail
              refine (Stab.call (K := (fun W => Below w.heap.size w W ∧ Rd (Sh.int .i64) W W.heap.size A l ∧ Rd (Sh.int .i64) W W.heap.size A1 (withF l x) ∧ Rd (Sh.int .i64) W W.heap.size A2 (woF (withF l x) x) ∧ Rd (Sh.int .i64) W W.heap.size A3 (woF l x))) (stab_and (stab_below w) (stab_and (stab_rd (Sh.int .i64) A l) (stab_and (stab_rd (Sh.int .i64) A1 (withF l x)) (stab_and (stab_rd (Sh.int .i64) A2 (woF (withF l x) x)) (stab_rd (Sh.int .i64) A3 (woF l x)))))) HK.out (Below.refl _ w13) (.bool true) (eRight_any A2 nA2 cA2 (woF (withF l x) x) self links level slots _ ((stab_rd (Sh.int .i64) A2 (woF (withF l x) x)) w13 w13 HK.out.2.2.2.1 (Below.refl _ w13)) HLA2.out hcA2 hmA2 HIb.out) (congrArg Value.bool (decide_eq_true HRB.out))).mono ?_
              rintro e w14 ⟨rfl, hK⟩
              have HK' := hide hK
              clear hK HK
              have HK := HK'
              clear HK'
              go_wp2_with fail
              refine (Stab.call (K := (fun W => Below w.heap.size w W ∧ Rd (Sh.int .i64) W W.heap.size A l ∧ Rd (Sh.int .i64) W W.heap.size A1 (withF l x) ∧ Rd (Sh.int .i64) W W.heap.size A2 (woF (withF l x) x) ∧ Rd (Sh.int .i64) W W.heap.size A3 (woF l x))) (stab_and (stab_below w) (stab_and (stab_rd (Sh.int .i64) A l) (stab_and (stab_rd (Sh.int .i64) A1 (withF l x)) (stab_and (stab_rd (Sh.int .i64) A2 (woF (withF l x) x)) (stab_rd (Sh.int .i64) A3 (woF l x)))))) HK.out (Below.refl _ w14) (.bool true) (eRight_any A1 nA1 cA1 (withF l x) self links level slots _ ((stab_rd (Sh.int .i64) A1 (withF l x)) w14 w14 HK.out.2.2.1 (Below.refl _ w14)) HLA1.out hcA1 hmA1 HIa.out) (congrArg Value.bool (decide_eq_true (HRA.out.2 ⟨HRoom.out, HE.out, E2.out, E3.out⟩)))).mono ?_
              rintro e w15 ⟨rfl, hK⟩
              have HK' := hide hK
              clear hK HK
              have HK := HK'
              clear HK'
              go_wp2_with fail
              go_ret
              exact ⟨rfl, HK.out.1⟩
            · have E3 := hide e3
              have t3 : decide (x ≤ slots) = false := by simp; omega
              clear e3
              go_wp2_with fail
              refine (Stab.call (K := (fun W => Below w.heap.size w W ∧ Rd (Sh.int .i64) W W.heap.size A l ∧ Rd (Sh.int .i64) W W.heap.size A1 (withF l x) ∧ Rd (Sh.int .i64) W W.heap.size A2 (woF (withF l x) x) ∧ Rd (Sh.int .i64) W W.heap.size A3 (woF l x))) (stab_and (stab_below w) (stab_and (stab_rd (Sh.int .i64) A l) (stab_and (stab_rd (Sh.int .i64) A1 (withF l x)) (stab_and (stab_rd (Sh.int .i64) A2 (woF (withF l x) x)) (stab_rd (Sh.int .i64) A3 (woF l x)))))) HK.out (Below.refl _ w13) (.bool true) (eRight_any A2 nA2 cA2 (woF (withF l x) x) self links level slots _ ((stab_rd (Sh.int .i64) A2 (woF (withF l x) x)) w13 w13 HK.out.2.2.2.1 (Below.refl _ w13)) HLA2.out hcA2 hmA2 HIb.out) (congrArg Value.bool (decide_eq_true HRB.out))).mono ?_
              rintro e w14 ⟨rfl, hK⟩
              have HK' := hide hK
              clear hK HK
              have HK := HK'
              clear HK'
              go_wp2_with fail
              refine (Stab.call (K := (fun W => Below w.heap.size w W ∧ Rd (Sh.int .i64) W W.heap.size A l ∧ Rd (Sh.int .i64) W W.heap.size A1 (withF l x) ∧ Rd (Sh.int .i64) W W.heap.size A2 (woF (withF l x) x) ∧ Rd (Sh.int .i64) W W.heap.size A3 (woF l x))) (stab_and (stab_below w) (stab_and (stab_rd (Sh.int .i64) A l) (stab_and (stab_rd (Sh.int .i64) A1 (withF l x)) (stab_and (stab_rd (Sh.int .i64) A2 (woF (withF l x) x)) (stab_rd (Sh.int .i64) A3 (woF l x)))))) HK.out (Below.refl _ w14) (.bool false) (eRight_any A1 nA1 cA1 (withF l x) self links level slots _ ((stab_rd (Sh.int .i64) A1 (withF l x)) w14 w14 HK.out.2.2.1 (Below.refl _ w14)) HLA1.out hcA1 hmA1 HIa.out) (congrArg Value.bool (decide_eq_false (fun h => by have h4 := (HRA.out.1 h).2.2.2; have h5 := E3.out; omega)))).mono ?_
              rintro e w15 ⟨rfl, hK⟩
              have HK' := hide hK
              clear hK HK
              have HK := HK'
              clear HK'
              go_wp2_with fail
              go_ret
              exact ⟨rfl, HK.out.1⟩
          · have E2 := hide e2
            go_wp2_with fail
            refine (Stab.call (K := (fun W => Below w.heap.size w W ∧ Rd (Sh.int .i64) W W.heap.size A l ∧ Rd (Sh.int .i64) W W.heap.size A1 (withF l x) ∧ Rd (Sh.int .i64) W W.heap.size A2 (woF (withF l x) x) ∧ Rd (Sh.int .i64) W W.heap.size A3 (woF l x))) (stab_and (stab_below w) (stab_and (stab_rd (Sh.int .i64) A l) (stab_and (stab_rd (Sh.int .i64) A1 (withF l x)) (stab_and (stab_rd (Sh.int .i64) A2 (woF (withF l x) x)) (stab_rd (Sh.int .i64) A3 (woF l x)))))) HK.out (Below.refl _ w13) (.bool true) (eRight_any A2 nA2 cA2 (woF (withF l x) x) self links level slots _ ((stab_rd (Sh.int .i64) A2 (woF (withF l x) x)) w13 w13 HK.out.2.2.2.1 (Below.refl _ w13)) HLA2.out hcA2 hmA2 HIb.out) (congrArg Value.bool (decide_eq_true HRB.out))).mono ?_
            rintro e w14 ⟨rfl, hK⟩
            have HK' := hide hK
            clear hK HK
            have HK := HK'
            clear HK'
            go_wp2_with fail
            refine (Stab.call (K := (fun W => Below w.heap.size w W ∧ Rd (Sh.int .i64) W W.heap.size A l ∧ Rd (Sh.int .i64) W W.heap.size A1 (withF l x) ∧ Rd (Sh.int .i64) W W.heap.size A2 (woF (withF l x) x) ∧ Rd (Sh.int .i64) W W.heap.size A3 (woF l x))) (stab_and (stab_below w) (stab_and (stab_rd (Sh.int .i64) A l) (stab_and (stab_rd (Sh.int .i64) A1 (withF l x)) (stab_and (stab_rd (Sh.int .i64) A2 (woF (withF l x) x)) (stab_rd (Sh.int .i64) A3 (woF l x)))))) HK.out (Below.refl _ w14) (.bool false) (eRight_any A1 nA1 cA1 (withF l x) self links level slots _ ((stab_rd (Sh.int .i64) A1 (withF l x)) w14 w14 HK.out.2.2.1 (Below.refl _ w14)) HLA1.out hcA1 hmA1 HIa.out) (congrArg Value.bool (decide_eq_false (fun h => by have h4 := (HRA.out.1 h).2.2.1; have h5 := E2.out; omega)))).mono ?_
            rintro e w15 ⟨rfl, hK⟩
            have HK' := hide hK
            clear hK HK
            have HK := HK'
            clear HK'
            go_wp2_with fail
            go_ret
            exact ⟨rfl, HK.out.1⟩
      · by_cases hxl : x ∈ l
        · have HRoom := hide (show (n : Int) < mm ∨ x ∈ l from .inr hxl)
          have HXL := hide hxl
          clear hxl
          go_wp2_with fail
          refine (Stab.call (K := (fun W => Below w.heap.size w W ∧ Rd (Sh.int .i64) W W.heap.size A l ∧ Rd (Sh.int .i64) W W.heap.size A1 (withF l x) ∧ Rd (Sh.int .i64) W W.heap.size A2 (woF (withF l x) x) ∧ Rd (Sh.int .i64) W W.heap.size A3 (woF l x))) (stab_and (stab_below w) (stab_and (stab_rd (Sh.int .i64) A l) (stab_and (stab_rd (Sh.int .i64) A1 (withF l x)) (stab_and (stab_rd (Sh.int .i64) A2 (woF (withF l x) x)) (stab_rd (Sh.int .i64) A3 (woF l x)))))) HK.out (Below.refl _ w13) (.bool true) (calls_same (eHas_any A n c l x _ ((stab_rd (Sh.int .i64) A l) w13 w13 HK.out.2.1 (Below.refl _ w13)) Hn.out hc hm)) (congrArg Value.bool (decide_eq_true HXL.out))).mono ?_
          rintro e w14 ⟨rfl, hK⟩
          have HK' := hide hK
          clear hK HK
          have HK := HK'
          clear HK'
          by_cases e1 : x = self
          · have HE := hide e1
            have t1 : (x != self) = false := by simp [e1]
            clear e1
            go_wp2_with fail
            refine (Stab.call (K := (fun W => Below w.heap.size w W ∧ Rd (Sh.int .i64) W W.heap.size A l ∧ Rd (Sh.int .i64) W W.heap.size A1 (withF l x) ∧ Rd (Sh.int .i64) W W.heap.size A2 (woF (withF l x) x) ∧ Rd (Sh.int .i64) W W.heap.size A3 (woF l x))) (stab_and (stab_below w) (stab_and (stab_rd (Sh.int .i64) A l) (stab_and (stab_rd (Sh.int .i64) A1 (withF l x)) (stab_and (stab_rd (Sh.int .i64) A2 (woF (withF l x) x)) (stab_rd (Sh.int .i64) A3 (woF l x)))))) HK.out (Below.refl _ w14) (.bool true) (eRight_any A2 nA2 cA2 (woF (withF l x) x) self links level slots _ ((stab_rd (Sh.int .i64) A2 (woF (withF l x) x)) w14 w14 HK.out.2.2.2.1 (Below.refl _ w14)) HLA2.out hcA2 hmA2 HIb.out) (congrArg Value.bool (decide_eq_true HRB.out))).mono ?_
            rintro e w15 ⟨rfl, hK⟩
            have HK' := hide hK
            clear hK HK
            have HK := HK'
            clear HK'
            go_wp2_with fail
            refine (Stab.call (K := (fun W => Below w.heap.size w W ∧ Rd (Sh.int .i64) W W.heap.size A l ∧ Rd (Sh.int .i64) W W.heap.size A1 (withF l x) ∧ Rd (Sh.int .i64) W W.heap.size A2 (woF (withF l x) x) ∧ Rd (Sh.int .i64) W W.heap.size A3 (woF l x))) (stab_and (stab_below w) (stab_and (stab_rd (Sh.int .i64) A l) (stab_and (stab_rd (Sh.int .i64) A1 (withF l x)) (stab_and (stab_rd (Sh.int .i64) A2 (woF (withF l x) x)) (stab_rd (Sh.int .i64) A3 (woF l x)))))) HK.out (Below.refl _ w15) (.bool false) (eRight_any A1 nA1 cA1 (withF l x) self links level slots _ ((stab_rd (Sh.int .i64) A1 (withF l x)) w15 w15 HK.out.2.2.1 (Below.refl _ w15)) HLA1.out hcA1 hmA1 HIa.out) (congrArg Value.bool (decide_eq_false (fun h => (HRA.out.1 h).2.1 HE.out)))).mono ?_
            rintro e w16 ⟨rfl, hK⟩
            have HK' := hide hK
            clear hK HK
            have HK := HK'
            clear HK'
            go_wp2_with fail
            go_ret
            exact ⟨rfl, HK.out.1⟩
          · have HE := hide e1
            have t1 : (x != self) = true := by simpa using e1
            clear e1
            by_cases e2 : 1 ≤ x
            · have E2 := hide e2
              by_cases e3 : x ≤ slots
              · have E3 := hide e3
                have t3 : decide (x ≤ slots) = true := decide_eq_true e3
                go_wp2_with fail
                refine (Stab.call (K := (fun W => Below w.heap.size w W ∧ Rd (Sh.int .i64) W W.heap.size A l ∧ Rd (Sh.int .i64) W W.heap.size A1 (withF l x) ∧ Rd (Sh.int .i64) W W.heap.size A2 (woF (withF l x) x) ∧ Rd (Sh.int .i64) W W.heap.size A3 (woF l x))) (stab_and (stab_below w) (stab_and (stab_rd (Sh.int .i64) A l) (stab_and (stab_rd (Sh.int .i64) A1 (withF l x)) (stab_and (stab_rd (Sh.int .i64) A2 (woF (withF l x) x)) (stab_rd (Sh.int .i64) A3 (woF l x)))))) HK.out (Below.refl _ w14) (.bool true) (eRight_any A2 nA2 cA2 (woF (withF l x) x) self links level slots _ ((stab_rd (Sh.int .i64) A2 (woF (withF l x) x)) w14 w14 HK.out.2.2.2.1 (Below.refl _ w14)) HLA2.out hcA2 hmA2 HIb.out) (congrArg Value.bool (decide_eq_true HRB.out))).mono ?_
                rintro e w15 ⟨rfl, hK⟩
                have HK' := hide hK
                clear hK HK
                have HK := HK'
                clear HK'
                go_wp2_with fail
                refine (Stab.call (K := (fun W => Below w.heap.size w W ∧ Rd (Sh.int .i64) W W.heap.size A l ∧ Rd (Sh.int .i64) W W.heap.size A1 (withF l x) ∧ Rd (Sh.int .i64) W W.heap.size A2 (woF (withF l x) x) ∧ Rd (Sh.int .i64) W W.heap.size A3 (woF l x))) (stab_and (stab_below w) (stab_and (stab_rd (Sh.int .i64) A l) (stab_and (stab_rd (Sh.int .i64) A1 (withF l x)) (stab_and (stab_rd (Sh.int .i64) A2 (woF (withF l x) x)) (stab_rd (Sh.int .i64) A3 (woF l x)))))) HK.out (Below.refl _ w15) (.bool true) (eRight_any A1 nA1 cA1 (withF l x) self links level slots _ ((stab_rd (Sh.int .i64) A1 (withF l x)) w15 w15 HK.out.2.2.1 (Below.refl _ w15)) HLA1.out hcA1 hmA1 HIa.out) (congrArg Value.bool (decide_eq_true (HRA.out.2 ⟨HRoom.out, HE.out, E2.out, E3.out⟩)))).mono ?_
                rintro e w16 ⟨rfl, hK⟩
                have HK' := hide hK
                clear hK HK
                have HK := HK'
                clear HK'
                go_wp2_with fail
                go_ret
                exact ⟨rfl, HK.out.1⟩
              · have E3 := hide e3
                have t3 : decide (x ≤ slots) = false := by simp; omega
                clear e3
                go_wp2_with fail
                refine (Stab.call (K := (fun W => Below w.heap.size w W ∧ Rd (Sh.int .i64) W W.heap.size A l ∧ Rd (Sh.int .i64) W W.heap.size A1 (withF l x) ∧ Rd (Sh.int .i64) W W.heap.size A2 (woF (withF l x) x) ∧ Rd (Sh.int .i64) W W.heap.size A3 (woF l x))) (stab_and (stab_below w) (stab_and (stab_rd (Sh.int .i64) A l) (stab_and (stab_rd (Sh.int .i64) A1 (withF l x)) (stab_and (stab_rd (Sh.int .i64) A2 (woF (withF l x) x)) (stab_rd (Sh.int .i64) A3 (woF l x)))))) HK.out (Below.refl _ w14) (.bool true) (eRight_any A2 nA2 cA2 (woF (withF l x) x) self links level slots _ ((stab_rd (Sh.int .i64) A2 (woF (withF l x) x)) w14 w14 HK.out.2.2.2.1 (Below.refl _ w14)) HLA2.out hcA2 hmA2 HIb.out) (congrArg Value.bool (decide_eq_true HRB.out))).mono ?_
                rintro e w15 ⟨rfl, hK⟩
                have HK' := hide hK
                clear hK HK
                have HK := HK'
                clear HK'
                go_wp2_with fail
                refine (Stab.call (K := (fun W => Below w.heap.size w W ∧ Rd (Sh.int .i64) W W.heap.size A l ∧ Rd (Sh.int .i64) W W.heap.size A1 (withF l x) ∧ Rd (Sh.int .i64) W W.heap.size A2 (woF (withF l x) x) ∧ Rd (Sh.int .i64) W W.heap.size A3 (woF l x))) (stab_and (stab_below w) (stab_and (stab_rd (Sh.int .i64) A l) (stab_and (stab_rd (Sh.int .i64) A1 (withF l x)) (stab_and (stab_rd (Sh.int .i64) A2 (woF (withF l x) x)) (stab_rd (Sh.int .i64) A3 (woF l x)))))) HK.out (Below.refl _ w15) (.bool false) (eRight_any A1 nA1 cA1 (withF l x) self links level slots _ ((stab_rd (Sh.int .i64) A1 (withF l x)) w15 w15 HK.out.2.2.1 (Below.refl _ w15)) HLA1.out hcA1 hmA1 HIa.out) (congrArg Value.bool (decide_eq_false (fun h => by have h4 := (HRA.out.1 h).2.2.2; have h5 := E3.out; omega)))).mono ?_
                rintro e w16 ⟨rfl, hK⟩
                have HK' := hide hK
                clear hK HK
                have HK := HK'
                clear HK'
                go_wp2_with fail
                go_ret
                exact ⟨rfl, HK.out.1⟩
            · have E2 := hide e2
              go_wp2_with fail
              refine (Stab.call (K := (fun W => Below w.heap.size w W ∧ Rd (Sh.int .i64) W W.heap.size A l ∧ Rd (Sh.int .i64) W W.heap.size A1 (withF l x) ∧ Rd (Sh.int .i64) W W.heap.size A2 (woF (withF l x) x) ∧ Rd (Sh.int .i64) W W.heap.size A3 (woF l x))) (stab_and (stab_below w) (stab_and (stab_rd (Sh.int .i64) A l) (stab_and (stab_rd (Sh.int .i64) A1 (withF l x)) (stab_and (stab_rd (Sh.int .i64) A2 (woF (withF l x) x)) (stab_rd (Sh.int .i64) A3 (woF l x)))))) HK.out (Below.refl _ w14) (.bool true) (eRight_any A2 nA2 cA2 (woF (withF l x) x) self links level slots _ ((stab_rd (Sh.int .i64) A2 (woF (withF l x) x)) w14 w14 HK.out.2.2.2.1 (Below.refl _ w14)) HLA2.out hcA2 hmA2 HIb.out) (congrArg Value.bool (decide_eq_true HRB.out))).mono ?_
              rintro e w15 ⟨rfl, hK⟩
              have HK' := hide hK
              clear hK HK
              have HK := HK'
              clear HK'
              go_wp2_with fail
              refine (Stab.call (K := (fun W => Below w.heap.size w W ∧ Rd (Sh.int .i64) W W.heap.size A l ∧ Rd (Sh.int .i64) W W.heap.size A1 (withF l x) ∧ Rd (Sh.int .i64) W W.heap.size A2 (woF (withF l x) x) ∧ Rd (Sh.int .i64) W W.heap.size A3 (woF l x))) (stab_and (stab_below w) (stab_and (stab_rd (Sh.int .i64) A l) (stab_and (stab_rd (Sh.int .i64) A1 (withF l x)) (stab_and (stab_rd (Sh.int .i64) A2 (woF (withF l x) x)) (stab_rd (Sh.int .i64) A3 (woF l x)))))) HK.out (Below.refl _ w15) (.bool false) (eRight_any A1 nA1 cA1 (withF l x) self links level slots _ ((stab_rd (Sh.int .i64) A1 (withF l x)) w15 w15 HK.out.2.2.1 (Below.refl _ w15)) HLA1.out hcA1 hmA1 HIa.out) (congrArg Value.bool (decide_eq_false (fun h => by have h4 := (HRA.out.1 h).2.2.1; have h5 := E2.out; omega)))).mono ?_
              rintro e w16 ⟨rfl, hK⟩
              have HK' := hide hK
              clear hK HK
              have HK := HK'
              clear HK'
              go_wp2_with fail
              go_ret
              exact ⟨rfl, HK.out.1⟩
        · have HNR := hide (And.intro hl hxl)
          clear hxl
          go_wp2_with fail
          refine (Stab.call (K := (fun W => Below w.heap.size w W ∧ Rd (Sh.int .i64) W W.heap.size A l ∧ Rd (Sh.int .i64) W W.heap.size A1 (withF l x) ∧ Rd (Sh.int .i64) W W.heap.size A2 (woF (withF l x) x) ∧ Rd (Sh.int .i64) W W.heap.size A3 (woF l x))) (stab_and (stab_below w) (stab_and (stab_rd (Sh.int .i64) A l) (stab_and (stab_rd (Sh.int .i64) A1 (withF l x)) (stab_and (stab_rd (Sh.int .i64) A2 (woF (withF l x) x)) (stab_rd (Sh.int .i64) A3 (woF l x)))))) HK.out (Below.refl _ w13) (.bool false) (calls_same (eHas_any A n c l x _ ((stab_rd (Sh.int .i64) A l) w13 w13 HK.out.2.1 (Below.refl _ w13)) Hn.out hc hm)) (congrArg Value.bool (decide_eq_false HNR.out.2))).mono ?_
          rintro e w14 ⟨rfl, hK⟩
          have HK' := hide hK
          clear hK HK
          have HK := HK'
          clear HK'
          go_wp2_with fail
          refine (Stab.call (K := (fun W => Below w.heap.size w W ∧ Rd (Sh.int .i64) W W.heap.size A l ∧ Rd (Sh.int .i64) W W.heap.size A1 (withF l x) ∧ Rd (Sh.int .i64) W W.heap.size A2 (woF (withF l x) x) ∧ Rd (Sh.int .i64) W W.heap.size A3 (woF l x))) (stab_and (stab_below w) (stab_and (stab_rd (Sh.int .i64) A l) (stab_and (stab_rd (Sh.int .i64) A1 (withF l x)) (stab_and (stab_rd (Sh.int .i64) A2 (woF (withF l x) x)) (stab_rd (Sh.int .i64) A3 (woF l x)))))) HK.out (Below.refl _ w14) (.bool true) (eRight_any A2 nA2 cA2 (woF (withF l x) x) self links level slots _ ((stab_rd (Sh.int .i64) A2 (woF (withF l x) x)) w14 w14 HK.out.2.2.2.1 (Below.refl _ w14)) HLA2.out hcA2 hmA2 HIb.out) (congrArg Value.bool (decide_eq_true HRB.out))).mono ?_
          rintro e w15 ⟨rfl, hK⟩
          have HK' := hide hK
          clear hK HK
          have HK := HK'
          clear HK'
          go_wp2_with fail
          refine (Stab.call (K := (fun W => Below w.heap.size w W ∧ Rd (Sh.int .i64) W W.heap.size A l ∧ Rd (Sh.int .i64) W W.heap.size A1 (withF l x) ∧ Rd (Sh.int .i64) W W.heap.size A2 (woF (withF l x) x) ∧ Rd (Sh.int .i64) W W.heap.size A3 (woF l x))) (stab_and (stab_below w) (stab_and (stab_rd (Sh.int .i64) A l) (stab_and (stab_rd (Sh.int .i64) A1 (withF l x)) (stab_and (stab_rd (Sh.int .i64) A2 (woF (withF l x) x)) (stab_rd (Sh.int .i64) A3 (woF l x)))))) HK.out (Below.refl _ w15) (.bool false) (eRight_any A1 nA1 cA1 (withF l x) self links level slots _ ((stab_rd (Sh.int .i64) A1 (withF l x)) w15 w15 HK.out.2.2.1 (Below.refl _ w15)) HLA1.out hcA1 hmA1 HIa.out) (congrArg Value.bool (decide_eq_false (fun h => (HRA.out.1 h).1.elim (fun h5 => by have := HNR.out.1; omega) HNR.out.2)))).mono ?_
          rintro e w16 ⟨rfl, hK⟩
          have HK' := hide hK
          clear hK HK
          have HK := HK'
          clear HK'
          go_wp2_with fail
          go_ret
          exact ⟨rfl, HK.out.1⟩
    · have HR := hide hr
      clear hr
      go_wp2_with fail
      refine (Stab.call (K := (fun W => Below w.heap.size w W ∧ Rd (Sh.int .i64) W W.heap.size A l ∧ Rd (Sh.int .i64) W W.heap.size A1 (withF l x) ∧ Rd (Sh.int .i64) W W.heap.size A2 (woF (withF l x) x) ∧ Rd (Sh.int .i64) W W.heap.size A3 (woF l x))) (stab_and (stab_below w) (stab_and (stab_rd (Sh.int .i64) A l) (stab_and (stab_rd (Sh.int .i64) A1 (withF l x)) (stab_and (stab_rd (Sh.int .i64) A2 (woF (withF l x) x)) (stab_rd (Sh.int .i64) A3 (woF l x)))))) HK.out (Below.refl _ w11) (.bool false) (eRight_any A n c l self links level slots _ ((stab_rd (Sh.int .i64) A l) w11 w11 HK.out.2.1 (Below.refl _ w11)) Hn.out hc hm HI.out) (congrArg Value.bool (decide_eq_false HR.out))).mono ?_
      rintro e w12 ⟨rfl, hK⟩
      have HK' := hide hK
      clear hK HK
      have HK := HK'
      clear HK'
      go_wp2_with fail
      go_ret
      exact ⟨rfl, HK.out.1⟩
end Go.Proofs.Ytggbokgacffamaa
