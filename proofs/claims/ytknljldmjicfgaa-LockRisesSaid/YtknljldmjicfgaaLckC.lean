/-
  The package lock: Take. Conditions: the table's blocks lie as said; the numbers are those of int.
-/
import Derived.Test.YtknljldmjicfgaaLckB
namespace Go.Proofs.Ytknljldmjicfgaa
open Go.RowKit

/-- the loop over what a worker holds is under way -/
structure TakeLoop (w w1 wr : World) (B T hb wb : Nat) (s : Tab) (A : Option Addr) (L : List Int) (b : Bool) : Prop where
  tab : TabAt wr B T hb wb ⟨s.h, s.ws, b⟩
  rd : RdR (Sh.int .i64) wr (Btw w.heap.size w1.heap.size) A L
  turn : TurnT w wr T hb wb
section
variable {w w1 wr : World} {B T hb wb : Nat} {s : Tab} {A : Option Addr} {L : List Int} {b : Bool}
theorem TakeLoop.set (h : TakeLoop w w1 wr B T hb wb s A L b) (hT : T < w.heap.size) (b' : Bool) : TakeLoop w w1 (wr.setCell ⟨T, 2, none⟩ (.bool b')) B T hb wb s A L b' :=
  ⟨h.tab.break_ b', h.rd.keepBlocks fun k hk => Below.heap_setCell _ _ _ _ (by have := hk.1; simp only; omega), h.turn.trans (TurnT.set _ _ _ _ _ _)⟩
end
set_option maxHeartbeats 2000000 in
theorem take_any {w : World} {B T hb wb : Nat} {s : Tab} (h : TabAt w B T hb wb s) (ok : s.Ok) {x n : Int} (hx : W64 x) (hn : W64 n) :
    Calls Try.prog 10 #[.pointer (some ⟨T, 0, none⟩), .int .i64 x, .int .i64 n] w (TabDone w B T hb wb (takeF s x n)) := by
  unfold takeF
  by_cases ho : outL x n
  · rw [if_pos (.inl ho)]
    have H := hide h
    have four : x < 0 ∨ (0 ≤ x ∧ 64 < x) ∨ (0 ≤ x ∧ x ≤ 64 ∧ n < 0) ∨ (0 ≤ x ∧ x ≤ 64 ∧ 0 ≤ n ∧ 4096 < n) := by unfold outL at ho; omega
    clear h ok hx hn ho
    rcases four with h1 | ⟨h1, h2⟩ | ⟨h1, h2, h3⟩ | ⟨h1, h2, h3, h4⟩
    all_goals
      go_enter Try.func10, Try.ntmps10
      go_wp2
      go_ret
      exact ⟨rfl, H.out, TurnT.refl _ _ _ _⟩
  have HC := hide (holds_any h hn x)
  have hb4 : 0 ≤ x ∧ x ≤ 64 ∧ 0 ≤ n ∧ n ≤ 4096 := by unfold outL at ho; omega
  obtain ⟨h1, h2, h3, h4⟩ := hb4
  by_cases e : lookF s.h n = some x
  · rw [if_pos (.inr e)]
    rw [decide_eq_true e] at HC
    have H := hide h
    clear h ok hx hn ho e
    go_enter Try.func10, Try.ntmps10
    go_wp2_with (go_at_call 22; refine HC.out.mono ?_; rintro e w' ⟨rfl, rfl⟩)
    go_ret
    exact ⟨rfl, H.out, TurnT.refl _ _ _ _⟩
  · rw [if_neg (by rintro (h | h); exact ho h; exact e h)]
    rw [decide_eq_false e] at HC
    have HH := hide (held_any h ok x)
    have H := hide h
    have Hx := hide hx
    have Hn := hide hn
    have hT := hide h.lt.1
    have hbr := hide (show brF s x n = (s.br || (heldF s.h x).any fun m => decide (n < m)) from rfl)
    clear h ok hx hn ho e
    generalize heldF s.h x = L at HH hbr
    obtain ⟨r, hr⟩ : ∃ r, (if (lookF s.h n).isSome = true then ((⟨s.h, putF s.ws x n, brF s x n⟩ : Tab), false) else (⟨putF s.h n x, dropF s.ws x, brF s x n⟩, true)) = r := ⟨_, rfl⟩
    rw [hr]
    have HR := hide hr
    clear hr
    go_enter Try.func10, Try.ntmps10
    go_wp2_with (first
      | (go_at_call 22; refine HC.out.mono ?_; rintro e w' ⟨rfl, rfl⟩)
      | (go_at_call 19; refine HH.out.mono ?_; rintro e w1 ⟨v, rfl, hN⟩; obtain ⟨A, q, c, rfl, hl, hc, hm, hr, hbl⟩ := hN; have HT := hide (show TakeLoop w w1 w1 B T hb wb s A L s.br from ⟨H.out.below hbl, hr, TurnT.of_below hbl⟩); have Hl := hide hl; clear hl hr hbl))
    go_loopw [39, 8] (fun i _ wr => ∃ j : Nat, j ≤ q ∧ i = .int .i64 j ∧ Hid (TakeLoop w w1 wr B T hb wb s A L (s.br || (L.take j).any fun m => decide (n < m)))) (fun i _ _ => q - (intOf i).toNat)
    case atStart => exact ⟨0, by omega, rfl, by simpa using HT⟩
    case round =>
      obtain ⟨j, hj, rfl, HL⟩ := hrel
      by_cases hlt : j < q
      · obtain ⟨ad, m, rfl, hbk, hv, q0⟩ := HL.out.rd.cell (k := j) (by have := Hl.out; omega)
        have g0 : (0 : Int) ≤ j := by omega
        have g1 : (j : Int) < q := by omega
        have ht : L.take (j + 1) = L.take j ++ [m] := by rw [List.take_add_one, hv]; rfl
        have hany : (s.br || (L.take (j + 1)).any fun m => decide (n < m)) = ((s.br || (L.take j).any fun m => decide (n < m)) || decide (n < m)) := by rw [ht, List.any_append, Bool.or_assoc]; simp
        have HA := hide hany
        have c2 := HL.out.tab.cells.2.2
        have f2 : wr.frozen? ⟨T, 2, none⟩ = false := HL.out.tab.t.frozen 2
        clear hany ht hv hbk
        by_cases hlm : n < m
        · have HS := hide (HL.out.set hT.out true)
          have HA2 : Hid ((s.br || (L.take (j + 1)).any fun m => decide (n < m)) = true) := hide (by rw [HA.out, decide_eq_true hlm, Bool.or_true])
          go_wp2
          go_roundw
          case rel => exact ⟨j + 1, by omega, by go_num, by rw [HA2.out]; exact HS⟩
          case measure => simp [intOf]; omega
        · have HA2 : Hid ((s.br || (L.take (j + 1)).any fun m => decide (n < m)) = (s.br || (L.take j).any fun m => decide (n < m))) := hide (by rw [HA.out, decide_eq_false hlm, Bool.or_false])
          clear c2
          go_wp2
          go_roundw
          case rel => exact ⟨j + 1, by omega, by go_num, by rw [HA2.out]; exact HL⟩
          case measure => simp [intOf]; omega
      · obtain rfl : j = q := by omega
        rw [List.take_of_length_le (by have := Hl.out; omega)] at HL
        have HBR := hide (hbr.out.symm)
        rw [HBR.out] at HL
        obtain ⟨c0, c1, c2⟩ := HL.out.tab.cells
        have L1 := HL.out.tab.h.iget Hn.out
        clear c2
        rcases hb' : lookF s.h n with _ | y
        · simp only [hb', Option.isSome_none, Option.getD_none] at L1
          obtain ⟨w2, P1, m1, p1⟩ := HL.out.tab.h.iput Hn.out x
          have t1 := HL.out.tab.putH p1 m1
          obtain ⟨d0, d1, _⟩ := t1.cells
          obtain ⟨w3, D2, m2, p2⟩ := t1.ws.idrop Hx.out
          have D2 := D2 0
          have H2 := hide (t1.putW p2 m2)
          have HT2 := hide ((HL.out.turn.trans (TurnT.putH (T := T) (wb := wb) p1)).trans (TurnT.putW (T := T) (hb := hb) p2))
          have hr := HR.out
          simp only [hb', Option.isSome_none, Bool.false_eq_true, if_false] at hr
          subst hr
          clear m1 p1 t1 m2 p2 hb'
          go_wp2
          go_ret
          exact ⟨rfl, H2.out, HT2.out⟩
        · simp only [hb', Option.isSome_some, Option.getD_some] at L1
          obtain ⟨w2, P1, m1, p1⟩ := HL.out.tab.ws.iput Hx.out n
          have H2 := hide (HL.out.tab.putW p1 m1)
          have HT2 := hide (HL.out.turn.trans (TurnT.putW (T := T) (hb := hb) p1))
          have hr := HR.out
          simp only [hb', Option.isSome_some, if_true] at hr
          subst hr
          clear m1 p1 hb'
          go_wp2
          go_ret
          exact ⟨rfl, H2.out, HT2.out⟩
end Go.Proofs.Ytknljldmjicfgaa
