/-
  The package ring, and the document's: Check. Conditions: the slice reads as a list of words.
-/
import Derived.Test.YtoadcfjkommlkacRiB
namespace Go.Proofs.Ytoadcfjkommlkac
set_option linter.unusedSimpArgs false
set_option linter.unusedVariables false
open Go.RowKit

/-- whether a number may be a Next, or a Prev -/
def placeW (ws : List Int) (x : Int) : Bool := x == 0 || (decide (0 < x) && decide (0 ≤ (atW ws x).1))
/-- whether a word's slot is there -/
def inW (ws : List Int) (i : Nat) (x : Int) : Bool := !(decide (0 < i) && decide ((ringW x).1 < 0))
/-- whether a word is right -/
def okW (ws : List Int) (i : Nat) (x : Int) : Bool :=
  (ringW x).2.2 == 0 && (if inW ws i x then placeW ws (ringW x).1 && placeW ws (ringW x).2.1 && ((atW ws (ringW x).1).2 == (i : Int)) else decide ((ringW x).2.1 < 0))
/-- up to a slot: all right, and how many are there -/
def okTo (ws : List Int) : Nat → Bool
  | 0 => true
  | k + 1 => okTo ws k && (match ws[k]? with | some x => okW ws k x | none => true)
def cntTo (ws : List Int) : Nat → Nat
  | 0 => 0
  | k + 1 => cntTo ws k + (match ws[k]? with | some x => if inW ws k x then 1 else 0 | none => 0)
def checkW (ws : List Int) : Int :=
  if ws.length < 1 ∨ 4097 < ws.length then 7 else if okTo ws ws.length then (if (listW ws).length + 1 = cntTo ws ws.length then 0 else 7) else 7
theorem okTo_false {ws : List Int} {k m : Nat} (h : okTo ws k = false) (hm : k ≤ m) : okTo ws m = false := by
  obtain ⟨d, rfl⟩ : ∃ d, m = k + d := ⟨m - k, by omega⟩
  clear hm
  induction d with
  | zero => exact h
  | succ d ih =>
    show (okTo ws (k + d) && _) = false
    rw [ih]; rfl
theorem okTo_succ {ws : List Int} {k : Nat} {x : Int} (h : ws[k]? = some x) : okTo ws (k + 1) = (okTo ws k && okW ws k x) := by
  show (okTo ws k && (match ws[k]? with | some x => okW ws k x | none => true)) = _
  rw [h]
theorem cntTo_succ {ws : List Int} {k : Nat} {x : Int} (h : ws[k]? = some x) : cntTo ws (k + 1) = cntTo ws k + (if inW ws k x then 1 else 0) := by
  show cntTo ws k + (match ws[k]? with | some x => if inW ws k x then 1 else 0 | none => 0) = _
  rw [h]
theorem cntTo_le (ws : List Int) : ∀ k, cntTo ws k ≤ k
  | 0 => Nat.le_refl _
  | k + 1 => by
    have := cntTo_le ws k
    show cntTo ws k + (match ws[k]? with | some x => if inW ws k x then 1 else 0 | none => 0) ≤ _
    split
    · split <;> omega
    · omega
theorem check_bad {ws : List Int} {k : Nat} (h : okTo ws k = false) (hk : k ≤ ws.length) : checkW ws = 7 := by
  unfold checkW
  split
  · rfl
  · rw [okTo_false h hk]; rfl
section
variable (A : Option Addr) (n c : Nat) (ws : List Int) (w : World) (hx : Rd (Sh.int .u64) w w.heap.size A ws) (hn : ws.length = n) (hu : ∀ x ∈ ws, U64 x)
include hx hn hu
set_option maxHeartbeats 1000000 in
theorem place_any (b : Nat) (x : Int) (hb : Blk w b 22 #[.slice A n c]) : Calls Try.prog 29 #[.int .i64 x, .pointer (some ⟨b, 0, none⟩)] w fun e w' => e = .returned (.bool (placeW ws x)) ∧ w = w' := by
  have z0 : w.cell? ⟨b, 0, none⟩ = some (.slice A n c) := by rw [hb.cell]; rfl
  have HN := hide (next_any A n c ws x w hx hn hu)
  unfold placeW
  generalize (atW ws x).1 = y at *
  clear hx hn hu hb
  by_cases h0 : x = 0
  · subst h0
    go_enter Try.func29, Try.ntmps29
    go_wp2
    go_ret
    exact ⟨rfl, rfl⟩
  · have e0 : (x == 0) = false := by simpa using h0
    rw [e0]
    by_cases h1 : 0 < x
    · have b1 : decide (0 < x) = true := decide_eq_true h1
      rw [b1]
      go_enter Try.func29, Try.ntmps29
      go_wp2_with (go_at_call 27; refine HN.out.mono ?_; rintro e _ ⟨rfl, rfl⟩)
      go_ret
      exact ⟨by simp, rfl⟩
    · have b1 : decide (0 < x) = false := decide_eq_false h1
      rw [b1]
      go_enter Try.func29, Try.ntmps29
      go_wp2
      go_ret
      exact ⟨rfl, rfl⟩
set_option maxHeartbeats 1000000 in
theorem refPlace_any (x : Int) : Calls Try.prog 30 #[.slice A n c, .int .i64 x] w fun e w' => e = .returned (.bool (placeW ws x)) ∧ w = w' := by
  have HN := hide (refAt_any A n c ws x w hx hn hu)
  unfold placeW
  generalize (atW ws x).1 = y at *
  generalize (atW ws x).2 = y2 at *
  clear hx hn hu
  by_cases h0 : x = 0
  · subst h0
    go_enter Try.func30, Try.ntmps30
    go_wp2_with (go_at_call 7; refine HN.out.mono ?_; rintro e _ ⟨rfl, rfl⟩)
    go_ret
    exact ⟨rfl, rfl⟩
  · have e0 : (x == 0) = false := by simpa using h0
    rw [e0]
    by_cases h1 : 0 < x
    · have b1 : decide (0 < x) = true := decide_eq_true h1
      rw [b1]
      go_enter Try.func30, Try.ntmps30
      go_wp2_with (go_at_call 7; refine HN.out.mono ?_; rintro e _ ⟨rfl, rfl⟩)
      go_ret
      exact ⟨by simp, rfl⟩
    · have b1 : decide (0 < x) = false := decide_eq_false h1
      rw [b1]
      go_enter Try.func30, Try.ntmps30
      go_wp2_with (go_at_call 7; refine HN.out.mono ?_; rintro e _ ⟨rfl, rfl⟩)
      go_ret
      exact ⟨rfl, rfl⟩
set_option maxHeartbeats 4000000 in
theorem check_any : Calls Try.prog 11 #[.slice A n c] w fun e w' => e = .returned (.int .i64 (checkW ws)) ∧ Below w.heap.size w w' := by
  have HB := hide (below1 w (.cells #[.slice A n c] 22))
  have HN := hide (Blk.new w 22 #[.slice A n c])
  have Hn := hide hn
  have HX := hide (hx.at_world HB.out)
  have HR := hide (fun x (h : x ∈ ws) => ring_word x (hu x h))
  have HAt := hide (fun s W (h : Rd (Sh.int .u64) W W.heap.size A ws) => at_any A n c ws s W h hn hu)
  have HP := hide (fun x W (h : Rd (Sh.int .u64) W W.heap.size A ws) (hb : Blk W w.heap.size 22 #[.slice A n c]) => place_any A n c ws W h hn hu w.heap.size x hb)
  have HLi := hide (fun W (h : Rd (Sh.int .u64) W W.heap.size A ws) => rlist_any A n c ws W h hn hu)
  by_cases h1 : n < 1 ∨ 4097 < n
  · have e : checkW ws = 7 := by unfold checkW; rw [if_pos (by omega)]
    rw [e]
    clear hx hu e
    by_cases h2 : n < 1
    · obtain rfl : n = 0 := by omega
      clear hn
      go_enter Try.func11, Try.ntmps11
      go_upto_region 1 with fail
      generalize World.alloc w _ = w1 at *
      have z0 : w1.cell? ⟨w.heap.size, 0, none⟩ = some (.slice A 0 c) := by rw [HN.out.cell]; rfl
      go_wp2
      go_ret
      exact ⟨rfl, HB.out⟩
    · have b1 : decide ((n : Int) < 1) = false := decide_eq_false (by omega)
      have b2 : decide ((4097 : Int) < n) = true := decide_eq_true (by omega)
      have b3 : decide (n < 1) = false := decide_eq_false h2
      have b4 : decide (4097 < n) = true := decide_eq_true (by omega)
      have b5 : decide (n = 0) = false := decide_eq_false (by omega)
      have b6 : ¬ n = 0 := by omega
      clear hn
      go_enter Try.func11, Try.ntmps11
      go_upto_region 1 with fail
      generalize World.alloc w _ = w1 at *
      have z0 : w1.cell? ⟨w.heap.size, 0, none⟩ = some (.slice A n c) := by rw [HN.out.cell]; rfl
      go_wp2
      go_ret
      exact ⟨rfl, HB.out⟩
  · have b1 : decide ((n : Int) < 1) = false := decide_eq_false (by omega)
    have b2 : decide ((4097 : Int) < n) = false := decide_eq_false (by omega)
    have b3 : decide (n < 1) = false := decide_eq_false (by omega)
    have b4 : decide (4097 < n) = false := decide_eq_false (by omega)
    have b5 : decide (n = 0) = false := decide_eq_false (by omega)
    have b6 : ¬ n = 0 := by omega
    have n1 : n ≤ 4097 := by omega
    have n0 : 1 ≤ n := by omega
    clear hx hn hu
    go_enter Try.func11, Try.ntmps11
    go_upto_region 1 with fail
    generalize World.alloc w _ = w1 at *
    have z0 : w1.cell? ⟨w.heap.size, 0, none⟩ = some (.slice A n c) := by rw [HN.out.cell]; rfl
    go_wp2
    go_loopw [4, 23] (fun a i wr => ∃ k : Nat, k ≤ n ∧ i = .int .i64 k ∧ a = .int .i64 (cntTo ws k) ∧ Hid (okTo ws k = true) ∧ w1 = wr) (fun _ i _ => n - (intOf i).toNat)
    case atStart => exact ⟨0, by omega, rfl, rfl, hide rfl, rfl⟩
    case round =>
      obtain ⟨k, hk, rfl, rfl, HOk, rfl⟩ := hrel
      by_cases hlt : k < n
      · obtain ⟨ad, x, rfl, hb, hxk, c0⟩ := HX.out.wcell (k := k) (by have := Hn.out; omega)
        have g0 : (0 : Int) ≤ k := by omega
        have g1 : (k : Int) < n := by omega
        have HRx := hide (HR.out x (List.mem_of_getElem? hxk))
        have HO1 := hide (okTo_succ hxk)
        have HC1 := hide (cntTo_succ hxk)
        have hcl := cntTo_le ws k
        have HBad := hide (show okW ws k x = false → checkW ws = 7 from fun h => check_bad (k := k + 1) (by rw [okTo_succ hxk, h, Bool.and_false]) (by have := Hn.out; omega))
        clear hxk hb
        unfold okW inW at HO1 HBad
        unfold inW at HC1
        have he := ringW_err x
        generalize (ringW x).1 = r1 at *
        generalize (ringW x).2.1 = r2 at *
        generalize (ringW x).2.2 = r3 at *
        generalize hcp : cntTo ws k = p at *
        clear hcp
        rcases he with rfl | rfl
        · by_cases hin : 0 < k ∧ r1 < 0
          · have i1 : decide (0 < k) = true := decide_eq_true hin.1
            have i2 : decide (r1 < 0) = true := decide_eq_true hin.2
            have i3 : decide ((0 : Int) < k) = true := decide_eq_true (by omega)
            by_cases h2 : r2 < 0
            · have j1 : decide (0 ≤ r2) = false := decide_eq_false (by omega)
              have HO2 := hide (show okTo ws (k + 1) = true by rw [HO1.out, HOk.out, i1, i2]; simp [h2])
              have HC2 := hide (show cntTo ws (k + 1) = p by rw [HC1.out, i1, i2]; rfl)
              clear hin h2
              go_wp2_with (go_at_call 25; refine (HRx.out _).mono ?_; rintro e _ ⟨rfl, rfl⟩)
              go_roundw
              case rel => exact ⟨k + 1, by omega, by go_num, by rw [HC2.out], HO2, by first | rfl | trivial⟩
              case measure => simp [intOf]; omega
            · have j1 : decide (0 ≤ r2) = true := decide_eq_true (by omega)
              have HB2 := hide (show checkW ws = 7 from HBad.out (by rw [i1, i2]; simp; omega))
              clear hin h2
              go_wp2_with (go_at_call 25; refine (HRx.out _).mono ?_; rintro e _ ⟨rfl, rfl⟩)
              go_ret
              exact ⟨by rw [HB2.out]; rfl, HB.out⟩
          · have hif : (decide (0 < k) && decide (r1 < 0)) = false := by
              by_cases h : 0 < k
              · have : ¬ r1 < 0 := fun h2 => hin ⟨h, h2⟩
                simp [this]
              · simp [h]
            rw [hif] at HO1 HC1 HBad
            simp only [Bool.not_false, if_true, beq_self_eq_true, Bool.true_and] at HO1 HC1 HBad
            have HP1 := hide (HP.out r1 _ HX.out HN.out)
            have HP2 := hide (HP.out r2 _ HX.out HN.out)
            have HA1 := hide (HAt.out r1 _ HX.out)
            generalize placeW ws r1 = p1 at *
            generalize placeW ws r2 = p2 at *
            generalize (atW ws r1).2 = y at *
            generalize (atW ws r1).1 = y1 at *
            have hik : (decide (0 < k) = true ∧ decide ((0 : Int) < k) = true ∧ decide (r1 < 0) = false) ∨ (decide (0 < k) = false ∧ decide ((0 : Int) < k) = false) := by
              by_cases h : 0 < k
              · exact .inl ⟨decide_eq_true h, decide_eq_true (by omega), decide_eq_false fun h2 => hin ⟨h, h2⟩⟩
              · exact .inr ⟨decide_eq_false h, decide_eq_false (by omega)⟩
            clear hin hif
            by_cases hp : p1 = true ∧ p2 = true ∧ y = k
            · obtain ⟨rfl, rfl, rfl⟩ := hp
              have HO2 := hide (show okTo ws (k + 1) = true by rw [HO1.out, HOk.out]; simp)
              have HC2 := hide (show cntTo ws (k + 1) = p + 1 from HC1.out)
              have w1' : IntKind.i64.wrap ((p : Int) + 1) = ((p + 1 : Nat) : Int) := by rw [IntWalk.i64_in _ (by omega)]; omega
              have e1 : ((k : Int) != k) = false := by simp
              rcases hik with ⟨i1, i3, i2⟩ | ⟨i1, i3⟩
              · skip
                go_wp2_with (first
                  | (go_at_call 25; refine (HRx.out _).mono ?_; rintro e _ ⟨rfl, rfl⟩)
                  | (go_at_call 29; with_reducible refine Calls.mono HP1.out ?_; rintro e _ ⟨rfl, rfl⟩)
                  | (go_at_call 29; with_reducible refine Calls.mono HP2.out ?_; rintro e _ ⟨rfl, rfl⟩)
                  | (go_at_call 6; refine HA1.out.mono ?_; rintro e _ ⟨rfl, rfl⟩))
                go_roundw
                case rel => exact ⟨k + 1, by omega, by go_num, by rw [HC2.out]; go_num, HO2, by first | rfl | trivial⟩
                case measure => simp [intOf]; omega
              · skip
                go_wp2_with (first
                  | (go_at_call 25; refine (HRx.out _).mono ?_; rintro e _ ⟨rfl, rfl⟩)
                  | (go_at_call 29; with_reducible refine Calls.mono HP1.out ?_; rintro e _ ⟨rfl, rfl⟩)
                  | (go_at_call 29; with_reducible refine Calls.mono HP2.out ?_; rintro e _ ⟨rfl, rfl⟩)
                  | (go_at_call 6; refine HA1.out.mono ?_; rintro e _ ⟨rfl, rfl⟩))
                go_roundw
                case rel => exact ⟨k + 1, by omega, by go_num, by rw [HC2.out]; go_num, HO2, by first | rfl | trivial⟩
                case measure => simp [intOf]; omega
            · have HB2 := hide (HBad.out (by cases p1 <;> cases p2 <;> simp at hp ⊢ <;> exact hp))
              rcases p1 with _ | _
              · clear hp
                rcases hik with ⟨i1, i3, i2⟩ | ⟨i1, i3⟩
                · skip
                  go_wp2_with (first
                  | (go_at_call 25; refine (HRx.out _).mono ?_; rintro e _ ⟨rfl, rfl⟩)
                  | (go_at_call 29; with_reducible refine Calls.mono HP1.out ?_; rintro e _ ⟨rfl, rfl⟩)
                  | (go_at_call 29; with_reducible refine Calls.mono HP2.out ?_; rintro e _ ⟨rfl, rfl⟩)
                  | (go_at_call 6; refine HA1.out.mono ?_; rintro e _ ⟨rfl, rfl⟩))
                  go_ret
                  exact ⟨by rw [HB2.out]; rfl, HB.out⟩
                · skip
                  go_wp2_with (first
                  | (go_at_call 25; refine (HRx.out _).mono ?_; rintro e _ ⟨rfl, rfl⟩)
                  | (go_at_call 29; with_reducible refine Calls.mono HP1.out ?_; rintro e _ ⟨rfl, rfl⟩)
                  | (go_at_call 29; with_reducible refine Calls.mono HP2.out ?_; rintro e _ ⟨rfl, rfl⟩)
                  | (go_at_call 6; refine HA1.out.mono ?_; rintro e _ ⟨rfl, rfl⟩))
                  go_ret
                  exact ⟨by rw [HB2.out]; rfl, HB.out⟩
              · rcases p2 with _ | _
                · clear hp
                  rcases hik with ⟨i1, i3, i2⟩ | ⟨i1, i3⟩
                  · skip
                    go_wp2_with (first
                  | (go_at_call 25; refine (HRx.out _).mono ?_; rintro e _ ⟨rfl, rfl⟩)
                  | (go_at_call 29; with_reducible refine Calls.mono HP1.out ?_; rintro e _ ⟨rfl, rfl⟩)
                  | (go_at_call 29; with_reducible refine Calls.mono HP2.out ?_; rintro e _ ⟨rfl, rfl⟩)
                  | (go_at_call 6; refine HA1.out.mono ?_; rintro e _ ⟨rfl, rfl⟩))
                    go_ret
                    exact ⟨by rw [HB2.out]; rfl, HB.out⟩
                  · skip
                    go_wp2_with (first
                  | (go_at_call 25; refine (HRx.out _).mono ?_; rintro e _ ⟨rfl, rfl⟩)
                  | (go_at_call 29; with_reducible refine Calls.mono HP1.out ?_; rintro e _ ⟨rfl, rfl⟩)
                  | (go_at_call 29; with_reducible refine Calls.mono HP2.out ?_; rintro e _ ⟨rfl, rfl⟩)
                  | (go_at_call 6; refine HA1.out.mono ?_; rintro e _ ⟨rfl, rfl⟩))
                    go_ret
                    exact ⟨by rw [HB2.out]; rfl, HB.out⟩
                · have e1 : (y != (k : Int)) = true := by simpa using hp
                  clear hp
                  rcases hik with ⟨i1, i3, i2⟩ | ⟨i1, i3⟩
                  · skip
                    go_wp2_with (first
                  | (go_at_call 25; refine (HRx.out _).mono ?_; rintro e _ ⟨rfl, rfl⟩)
                  | (go_at_call 29; with_reducible refine Calls.mono HP1.out ?_; rintro e _ ⟨rfl, rfl⟩)
                  | (go_at_call 29; with_reducible refine Calls.mono HP2.out ?_; rintro e _ ⟨rfl, rfl⟩)
                  | (go_at_call 6; refine HA1.out.mono ?_; rintro e _ ⟨rfl, rfl⟩))
                    go_ret
                    exact ⟨by rw [HB2.out]; rfl, HB.out⟩
                  · skip
                    go_wp2_with (first
                  | (go_at_call 25; refine (HRx.out _).mono ?_; rintro e _ ⟨rfl, rfl⟩)
                  | (go_at_call 29; with_reducible refine Calls.mono HP1.out ?_; rintro e _ ⟨rfl, rfl⟩)
                  | (go_at_call 29; with_reducible refine Calls.mono HP2.out ?_; rintro e _ ⟨rfl, rfl⟩)
                  | (go_at_call 6; refine HA1.out.mono ?_; rintro e _ ⟨rfl, rfl⟩))
                    go_ret
                    exact ⟨by rw [HB2.out]; rfl, HB.out⟩
        · have HB2 := hide (HBad.out (by simp))
          go_wp2_with (go_at_call 25; refine (HRx.out _).mono ?_; rintro e _ ⟨rfl, rfl⟩)
          go_ret
          exact ⟨by rw [HB2.out]; rfl, HB.out⟩
      · obtain rfl : k = n := by omega
        have HF := hide (show checkW ws = if (listW ws).length + 1 = cntTo ws k then 0 else 7 by
          unfold checkW
          rw [if_neg (by have := Hn.out; omega), Hn.out, if_pos HOk.out])
        have hcl := cntTo_le ws k
        generalize cntTo ws k = p at *
        generalize listW ws = L at *
        obtain ⟨m, hm⟩ : ∃ m, L.length = m := ⟨_, rfl⟩
        rw [hm] at HF
        have Hm := hide hm
        clear hm
        have cw : IntKind.i64.wrap ((p : Int) - 1) = p - 1 := IntWalk.i64_in _ (by omega)
        by_cases e : m + 1 = p
        · rw [if_pos e] at HF
          have e1 : ((m : Int) != (p : Int) - 1) = false := by simp; omega
          clear e
          go_wp2_with (go_at_call 9; refine (HLi.out _ HX.out).mono ?_; rintro e w4 ⟨v, rfl, hN⟩; have HBb := hide (Below.step HB.out hN.below); obtain ⟨Av, nv, cv, rfl, hl, _, _, _, _⟩ := hN; obtain rfl : nv = m := hl.symm.trans Hm.out; clear hl)
          go_ret
          exact ⟨by rw [HF.out]; rfl, HBb.out⟩
        · rw [if_neg e] at HF
          have e1 : ((m : Int) != (p : Int) - 1) = true := by simp; omega
          clear e
          go_wp2_with (go_at_call 9; refine (HLi.out _ HX.out).mono ?_; rintro e w4 ⟨v, rfl, hN⟩; have HBb := hide (Below.step HB.out hN.below); obtain ⟨Av, nv, cv, rfl, hl, _, _, _, _⟩ := hN; obtain rfl : nv = m := hl.symm.trans Hm.out; clear hl)
          go_ret
          exact ⟨by rw [HF.out]; rfl, HBb.out⟩
end
end Go.Proofs.Ytoadcfjkommlkac
