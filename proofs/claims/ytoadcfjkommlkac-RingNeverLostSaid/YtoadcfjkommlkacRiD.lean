/-
  The document's ring: Check. Conditions: the slice reads as a list of words.
-/
import Derived.Test.YtoadcfjkommlkacRiC
namespace Go.Proofs.Ytoadcfjkommlkac
set_option linter.unusedSimpArgs false
set_option linter.unusedVariables false
open Go.RowKit

theorem atW_at {ws : List Int} {k : Nat} {x : Int} (h : ws[k]? = some x) (he : (ringW x).2.2 = 0) : atW ws (k : Int) = ((ringW x).1, (ringW x).2.1) := by
  unfold atW
  rw [if_pos (by omega), show ((k : Int)).toNat = k by omega, h]
  simp only
  rw [if_pos he]
theorem cntTo_pos (ws : List Int) (k : Nat) (hk : 0 < k) (hl : k ≤ ws.length) : 1 ≤ cntTo ws k := by
  obtain ⟨d, rfl⟩ : ∃ d, k = d + 1 := ⟨k - 1, by omega⟩
  clear hk
  induction d with
  | zero =>
    rw [cntTo_succ (List.getElem?_eq_getElem (show 0 < ws.length by omega))]
    simp [inW]
  | succ d ih =>
    have h := ih (by omega)
    rw [cntTo_succ (List.getElem?_eq_getElem (show d + 1 < ws.length by omega))]
    omega
section
variable (A : Option Addr) (n c : Nat) (ws : List Int) (w : World) (hx : Rd (Sh.int .u64) w w.heap.size A ws) (hn : ws.length = n) (hu : ∀ x ∈ ws, U64 x)
include hx hn hu
set_option maxHeartbeats 4000000 in
theorem refCheck_any : Calls Try.prog 12 #[.slice A n c] w fun e w' => e = .returned (.int .i64 (checkW ws)) ∧ Below w.heap.size w w' := by
  have Hn := hide hn
  have HX := hide hx
  have HR := hide (fun x (h : x ∈ ws) => refRing_word x (hu x h))
  have HAt := hide (fun s => refAt_any A n c ws s w hx hn hu)
  have HP := hide (fun x => refPlace_any A n c ws w hx hn hu x)
  have HLi := hide (refList_any A n c ws w hx hn hu)
  by_cases h1 : n < 1 ∨ 4097 < n
  · have e : checkW ws = 7 := by unfold checkW; rw [if_pos (by omega)]
    rw [e]
    clear hx hu e
    by_cases h2 : n < 1
    · obtain rfl : n = 0 := by omega
      clear hn
      go_enter Try.func12, Try.ntmps12
      go_wp2
      go_ret
      exact ⟨rfl, Below.refl _ _⟩
    · have b1 : decide ((n : Int) < 1) = false := decide_eq_false (by omega)
      have b2 : decide ((4097 : Int) < n) = true := decide_eq_true (by omega)
      have b3 : decide (n < 1) = false := decide_eq_false h2
      have b4 : decide (4097 < n) = true := decide_eq_true (by omega)
      have b5 : decide (n = 0) = false := decide_eq_false (by omega)
      have b6 : ¬ n = 0 := by omega
      clear hn
      go_enter Try.func12, Try.ntmps12
      go_wp2
      go_ret
      exact ⟨rfl, Below.refl _ _⟩
  · have b1 : decide ((n : Int) < 1) = false := decide_eq_false (by omega)
    have b2 : decide ((4097 : Int) < n) = false := decide_eq_false (by omega)
    have b3 : decide (n < 1) = false := decide_eq_false (by omega)
    have b4 : decide (4097 < n) = false := decide_eq_false (by omega)
    have b5 : decide (n = 0) = false := decide_eq_false (by omega)
    have b6 : ¬ n = 0 := by omega
    have n1 : n ≤ 4097 := by omega
    have n0 : 1 ≤ n := by omega
    clear hx hn hu
    go_enter Try.func12, Try.ntmps12
    go_wp2
    go_loopw [3, 23] (fun a i wr => ∃ k : Nat, k ≤ n ∧ i = .int .i64 k ∧ a = .int .i64 ((cntTo ws k - 1 : Nat) : Int) ∧ Hid (okTo ws k = true) ∧ w = wr) (fun _ i _ => n - (intOf i).toNat)
    case atStart => exact ⟨0, by omega, rfl, rfl, hide rfl, rfl⟩
    case round =>
      obtain ⟨k, hk, rfl, rfl, HOk, rfl⟩ := hrel
      by_cases hlt : k < n
      · obtain ⟨ad, x, rfl, hb, hxk, c0⟩ := HX.out.wcell (k := k) (by have := Hn.out; omega)
        have g0 : (0 : Int) ≤ k := by omega
        have g1 : (k : Int) < n := by omega
        have HRx := hide (HR.out x (List.mem_of_getElem? hxk))
        have HO1 := hide (okTo_succ hxk)
        have HC1 := hide (cntTo_succ hxk)
        have hcl := cntTo_le ws k
        have hc1 : 0 < k → 1 ≤ cntTo ws k := fun h => cntTo_pos ws k h (by have := Hn.out; omega)
        have HBad := hide (show okW ws k x = false → checkW ws = 7 from fun h => check_bad (k := k + 1) (by rw [okTo_succ hxk, h, Bool.and_false]) (by have := Hn.out; omega))
        have he := ringW_err x
        have hr := ringW_range x
        have HAk := hide (HAt.out (k : Int))
        have HA0 := hide (atW_at hxk)
        clear hxk hb
        unfold okW inW at HO1 HBad
        unfold inW at HC1
        generalize (ringW x).1 = r1 at *
        generalize (ringW x).2.1 = r2 at *
        generalize (ringW x).2.2 = r3 at *
        generalize hcp : cntTo ws k = p at *
        clear hcp
        rcases he with rfl | rfl
        · rw [HA0.out rfl] at HAk
          by_cases hin : 0 < k ∧ r1 < 0
          · have i1 : decide (0 < k) = true := decide_eq_true hin.1
            have i2 : decide (r1 < 0) = true := decide_eq_true hin.2
            have i3 : decide ((0 : Int) < k) = true := decide_eq_true (by omega)
            by_cases h2 : r2 < 0
            · obtain rfl : r2 = -1 := by omega
              have HO2 := hide (show okTo ws (k + 1) = true by rw [HO1.out, HOk.out, i1, i2]; simp)
              have HC2 := hide (show cntTo ws (k + 1) = p by rw [HC1.out, i1, i2]; rfl)
              clear hin h2
              go_wp2_with (first
                | (go_at_call 26; refine (HRx.out _).mono ?_; rintro e _ ⟨rfl, rfl⟩)
                | (go_at_call 7; with_reducible refine Calls.mono HAk.out ?_; rintro e _ ⟨rfl, rfl⟩)
                | (go_at_call 30; with_reducible refine Calls.mono HP1.out ?_; rintro e _ ⟨rfl, rfl⟩)
                | (go_at_call 30; with_reducible refine Calls.mono HP2.out ?_; rintro e _ ⟨rfl, rfl⟩)
                | (go_at_call 7; with_reducible refine Calls.mono HA1.out ?_; rintro e _ ⟨rfl, rfl⟩))
              go_roundw
              case rel => exact ⟨k + 1, by omega, by go_num, by rw [HC2.out] <;> first | go_num | (simp; done) | rfl, HO2, by first | rfl | trivial⟩
              case measure => simp [intOf]; omega
            · have j1 : (r2 != -1) = true := by simp; omega
              have HB2 := hide (show checkW ws = 7 from HBad.out (by rw [i1, i2]; simp; omega))
              clear hin h2
              go_wp2_with (first
                | (go_at_call 26; refine (HRx.out _).mono ?_; rintro e _ ⟨rfl, rfl⟩)
                | (go_at_call 7; with_reducible refine Calls.mono HAk.out ?_; rintro e _ ⟨rfl, rfl⟩)
                | (go_at_call 30; with_reducible refine Calls.mono HP1.out ?_; rintro e _ ⟨rfl, rfl⟩)
                | (go_at_call 30; with_reducible refine Calls.mono HP2.out ?_; rintro e _ ⟨rfl, rfl⟩)
                | (go_at_call 7; with_reducible refine Calls.mono HA1.out ?_; rintro e _ ⟨rfl, rfl⟩))
              go_ret
              exact ⟨by rw [HB2.out]; rfl, Below.refl _ _⟩
          · have hif : (decide (0 < k) && decide (r1 < 0)) = false := by
              by_cases h : 0 < k
              · have : ¬ r1 < 0 := fun h2 => hin ⟨h, h2⟩
                simp [this]
              · simp [h]
            rw [hif] at HO1 HC1 HBad
            simp only [Bool.not_false, if_true, beq_self_eq_true, Bool.true_and] at HO1 HC1 HBad
            have HP1 := hide (HP.out r1)
            have HP2 := hide (HP.out r2)
            have HA1 := hide (HAt.out r1)
            generalize placeW ws r1 = p1 at *
            generalize placeW ws r2 = p2 at *
            generalize (atW ws r1).2 = y at *
            generalize (atW ws r1).1 = y1 at *
            have hik : (decide (0 < k) = true ∧ decide ((0 : Int) < k) = true ∧ decide (r1 < 0) = false ∧ 1 ≤ p) ∨ (decide (0 < k) = false ∧ decide ((0 : Int) < k) = false ∧ p = 0) := by
              by_cases h : 0 < k
              · exact .inl ⟨decide_eq_true h, decide_eq_true (by omega), decide_eq_false fun h2 => hin ⟨h, h2⟩, hc1 h⟩
              · exact .inr ⟨decide_eq_false h, decide_eq_false (by omega), by omega⟩
            clear hin hif
            by_cases hp : p1 = true ∧ p2 = true ∧ y = k
            · obtain ⟨rfl, rfl, rfl⟩ := hp
              have HO2 := hide (show okTo ws (k + 1) = true by rw [HO1.out, HOk.out]; simp)
              have HC2 := hide (show cntTo ws (k + 1) = p + 1 from HC1.out)
              have e1 : ((k : Int) != k) = false := by simp
              rcases hik with ⟨i1, i3, i2, i4⟩ | ⟨i1, i3, rfl⟩
              · have w1' : IntKind.i64.wrap (((p - 1 : Nat) : Int) + 1) = ((p + 1 - 1 : Nat) : Int) := by rw [IntWalk.i64_in _ (by omega)]; omega
                generalize hpp : p - 1 = pp at *
                generalize hpq : p + 1 - 1 = pq at *
                have HC3 := hide (show cntTo ws (k + 1) - 1 = pq by rw [HC2.out]; exact hpq)
                clear HC2 hpp hpq
                have HC2 := HC3
                clear HC3
                go_wp2_with (first
                  | (go_at_call 26; refine (HRx.out _).mono ?_; rintro e _ ⟨rfl, rfl⟩)
                  | (go_at_call 7; with_reducible refine Calls.mono HAk.out ?_; rintro e _ ⟨rfl, rfl⟩)
                  | (go_at_call 30; with_reducible refine Calls.mono HP1.out ?_; rintro e _ ⟨rfl, rfl⟩)
                  | (go_at_call 30; with_reducible refine Calls.mono HP2.out ?_; rintro e _ ⟨rfl, rfl⟩)
                  | (go_at_call 7; with_reducible refine Calls.mono HA1.out ?_; rintro e _ ⟨rfl, rfl⟩))
                go_roundw
                case rel => exact ⟨k + 1, by omega, by go_num, by rw [HC2.out] <;> first | go_num | (simp; done) | rfl | (rw [w1']), HO2, by first | rfl | trivial⟩
                case measure => simp [intOf]; omega
              · skip
                go_wp2_with (first
                  | (go_at_call 26; refine (HRx.out _).mono ?_; rintro e _ ⟨rfl, rfl⟩)
                  | (go_at_call 7; with_reducible refine Calls.mono HAk.out ?_; rintro e _ ⟨rfl, rfl⟩)
                  | (go_at_call 30; with_reducible refine Calls.mono HP1.out ?_; rintro e _ ⟨rfl, rfl⟩)
                  | (go_at_call 30; with_reducible refine Calls.mono HP2.out ?_; rintro e _ ⟨rfl, rfl⟩)
                  | (go_at_call 7; with_reducible refine Calls.mono HA1.out ?_; rintro e _ ⟨rfl, rfl⟩))
                go_roundw
                case rel => exact ⟨k + 1, by omega, by go_num, by rw [HC2.out] <;> first | go_num | (simp; done) | rfl, HO2, by first | rfl | trivial⟩
                case measure => simp [intOf]; omega
            · have HB2 := hide (HBad.out (by cases p1 <;> cases p2 <;> simp at hp ⊢ <;> exact hp))
              rcases p1 with _ | _
              · clear hp
                rcases hik with ⟨i1, i3, i2, i4⟩ | ⟨i1, i3, rfl⟩
                · skip
                  go_wp2_with (first
                    | (go_at_call 26; refine (HRx.out _).mono ?_; rintro e _ ⟨rfl, rfl⟩)
                    | (go_at_call 7; with_reducible refine Calls.mono HAk.out ?_; rintro e _ ⟨rfl, rfl⟩)
                    | (go_at_call 30; with_reducible refine Calls.mono HP1.out ?_; rintro e _ ⟨rfl, rfl⟩)
                    | (go_at_call 30; with_reducible refine Calls.mono HP2.out ?_; rintro e _ ⟨rfl, rfl⟩)
                    | (go_at_call 7; with_reducible refine Calls.mono HA1.out ?_; rintro e _ ⟨rfl, rfl⟩))
                  go_ret
                  exact ⟨by rw [HB2.out]; rfl, Below.refl _ _⟩
                · skip
                  go_wp2_with (first
                    | (go_at_call 26; refine (HRx.out _).mono ?_; rintro e _ ⟨rfl, rfl⟩)
                    | (go_at_call 7; with_reducible refine Calls.mono HAk.out ?_; rintro e _ ⟨rfl, rfl⟩)
                    | (go_at_call 30; with_reducible refine Calls.mono HP1.out ?_; rintro e _ ⟨rfl, rfl⟩)
                    | (go_at_call 30; with_reducible refine Calls.mono HP2.out ?_; rintro e _ ⟨rfl, rfl⟩)
                    | (go_at_call 7; with_reducible refine Calls.mono HA1.out ?_; rintro e _ ⟨rfl, rfl⟩))
                  go_ret
                  exact ⟨by rw [HB2.out]; rfl, Below.refl _ _⟩
              · rcases p2 with _ | _
                · clear hp
                  rcases hik with ⟨i1, i3, i2, i4⟩ | ⟨i1, i3, rfl⟩
                  · skip
                    go_wp2_with (first
                      | (go_at_call 26; refine (HRx.out _).mono ?_; rintro e _ ⟨rfl, rfl⟩)
                      | (go_at_call 7; with_reducible refine Calls.mono HAk.out ?_; rintro e _ ⟨rfl, rfl⟩)
                      | (go_at_call 30; with_reducible refine Calls.mono HP1.out ?_; rintro e _ ⟨rfl, rfl⟩)
                      | (go_at_call 30; with_reducible refine Calls.mono HP2.out ?_; rintro e _ ⟨rfl, rfl⟩)
                      | (go_at_call 7; with_reducible refine Calls.mono HA1.out ?_; rintro e _ ⟨rfl, rfl⟩))
                    go_ret
                    exact ⟨by rw [HB2.out]; rfl, Below.refl _ _⟩
                  · skip
                    go_wp2_with (first
                      | (go_at_call 26; refine (HRx.out _).mono ?_; rintro e _ ⟨rfl, rfl⟩)
                      | (go_at_call 7; with_reducible refine Calls.mono HAk.out ?_; rintro e _ ⟨rfl, rfl⟩)
                      | (go_at_call 30; with_reducible refine Calls.mono HP1.out ?_; rintro e _ ⟨rfl, rfl⟩)
                      | (go_at_call 30; with_reducible refine Calls.mono HP2.out ?_; rintro e _ ⟨rfl, rfl⟩)
                      | (go_at_call 7; with_reducible refine Calls.mono HA1.out ?_; rintro e _ ⟨rfl, rfl⟩))
                    go_ret
                    exact ⟨by rw [HB2.out]; rfl, Below.refl _ _⟩
                · have e1 : (y != (k : Int)) = true := by simpa using hp
                  clear hp
                  rcases hik with ⟨i1, i3, i2, i4⟩ | ⟨i1, i3, rfl⟩
                  · skip
                    go_wp2_with (first
                      | (go_at_call 26; refine (HRx.out _).mono ?_; rintro e _ ⟨rfl, rfl⟩)
                      | (go_at_call 7; with_reducible refine Calls.mono HAk.out ?_; rintro e _ ⟨rfl, rfl⟩)
                      | (go_at_call 30; with_reducible refine Calls.mono HP1.out ?_; rintro e _ ⟨rfl, rfl⟩)
                      | (go_at_call 30; with_reducible refine Calls.mono HP2.out ?_; rintro e _ ⟨rfl, rfl⟩)
                      | (go_at_call 7; with_reducible refine Calls.mono HA1.out ?_; rintro e _ ⟨rfl, rfl⟩))
                    go_ret
                    exact ⟨by rw [HB2.out]; rfl, Below.refl _ _⟩
                  · skip
                    go_wp2_with (first
                      | (go_at_call 26; refine (HRx.out _).mono ?_; rintro e _ ⟨rfl, rfl⟩)
                      | (go_at_call 7; with_reducible refine Calls.mono HAk.out ?_; rintro e _ ⟨rfl, rfl⟩)
                      | (go_at_call 30; with_reducible refine Calls.mono HP1.out ?_; rintro e _ ⟨rfl, rfl⟩)
                      | (go_at_call 30; with_reducible refine Calls.mono HP2.out ?_; rintro e _ ⟨rfl, rfl⟩)
                      | (go_at_call 7; with_reducible refine Calls.mono HA1.out ?_; rintro e _ ⟨rfl, rfl⟩))
                    go_ret
                    exact ⟨by rw [HB2.out]; rfl, Below.refl _ _⟩
        · have HB2 := hide (HBad.out (by simp))
          clear HAk
          go_wp2_with (first
            | (go_at_call 26; refine (HRx.out _).mono ?_; rintro e _ ⟨rfl, rfl⟩)
)
          go_ret
          exact ⟨by rw [HB2.out]; rfl, Below.refl _ _⟩
      · obtain rfl : k = n := by omega
        have HF := hide (show checkW ws = if (listW ws).length + 1 = cntTo ws k then 0 else 7 by
          unfold checkW
          rw [if_neg (by have := Hn.out; omega), Hn.out, if_pos HOk.out])
        have hcl := cntTo_le ws k
        have hc1 : 1 ≤ cntTo ws k := cntTo_pos ws k (by omega) (by have := Hn.out; omega)
        generalize cntTo ws k = p at *
        generalize listW ws = L at *
        obtain ⟨m, hm⟩ : ∃ m, L.length = m := ⟨_, rfl⟩
        rw [hm] at HF
        have Hm := hide hm
        clear hm
        obtain ⟨p', hp'⟩ : ∃ p', p - 1 = p' := ⟨_, rfl⟩
        by_cases e : m + 1 = p
        · rw [if_pos e] at HF
          rw [hp']
          obtain rfl : m = p' := by omega
          have e1 : ((m : Int) != (m : Int)) = false := by simp
          clear e hp'
          go_wp2_with (go_at_call 10; refine HLi.out.mono ?_; rintro e w4 ⟨v, rfl, hN⟩; have HBb := hide hN.below; obtain ⟨Av, nv, cv, rfl, hl, _, _, _, _⟩ := hN; obtain rfl : nv = m := hl.symm.trans Hm.out; clear hl)
          go_ret
          exact ⟨by rw [HF.out]; rfl, HBb.out⟩
        · rw [if_neg e] at HF
          rw [hp']
          have e1 : ((m : Int) != (p' : Int)) = true := by simp; omega
          clear e hp'
          go_wp2_with (go_at_call 10; refine HLi.out.mono ?_; rintro e w4 ⟨v, rfl, hN⟩; have HBb := hide hN.below; obtain ⟨Av, nv, cv, rfl, hl, _, _, _, _⟩ := hN; obtain rfl : nv = m := hl.symm.trans Hm.out; clear hl)
          go_ret
          exact ⟨by rw [HF.out]; rfl, HBb.out⟩
end
end Go.Proofs.Ytoadcfjkommlkac
