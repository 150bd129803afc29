/-
  The walk of LockRises. Conditions: the slice reads as a list of deeds.
-/
import Derived.Test.YtknljldmjicfgaaLckN
namespace Go.Proofs.Ytknljldmjicfgaa
open Go.RowKit

/-- the table and a deed -/
structure PR (w : World) (T hb wb g : Nat) (sa : Tab) (d : Deed) (W : World) : Prop where
  tab : TabAt W w.heap.size T hb wb sa
  g : Blk W g 30 #[.bool d.1, .int .i64 d.2.1, .int .i64 d.2.2]
  bel : Below w.heap.size w W
section
variable {w W W' : World} {T hb wb g : Nat} {sa : Tab} {d : Deed}
theorem PR.step (h : PR w T hb wb g sa d W) (hbl : Below W.heap.size W W') : PR w T hb wb g sa d W' := ⟨h.tab.below hbl, h.g.below hbl h.g.lt, Below.step h.bel hbl⟩
theorem PR.turn {sa' : Tab} (h : PR w T hb wb g sa d W) (hT : TurnT W W' T hb wb) (ha : TabAt W' w.heap.size T hb wb sa') : PR w T hb wb g sa' d W' := ⟨ha, tab_blk h.tab h.g (by decide) hT, h.tab.turn h.bel hT h.bel.size⟩
theorem PR.gs (h : PR w T hb wb g sa d W) : W.cell? ⟨g, 0, none⟩ = some (.bool d.1) ∧ W.cell? ⟨g, 1, none⟩ = some (.int .i64 d.2.1) ∧ W.cell? ⟨g, 2, none⟩ = some (.int .i64 d.2.2) :=
  ⟨by rw [h.g.cell]; rfl, by rw [h.g.cell]; rfl, by rw [h.g.cell]; rfl⟩
end
theorem Rise.step {s : Tab} (h : Rise s) (ok : s.Ok) (d : Deed) : Rise (stepA s d).1 := by
  unfold stepA
  split
  · exact h.give _ _
  · exact h.take ok _ _
set_option maxHeartbeats 8000000 in
set_option maxRecDepth 100000 in
theorem rises_any (A : Option Addr) (len cap : Nat) (ds : List Deed) (w : World) (hd : Rd SDeed w w.heap.size A ds) (hl : ds.length = len) (hw : ∀ d ∈ ds, W64 d.2.1 ∧ W64 d.2.2) (hc : len ≤ cap) (hm : cap ≤ 9223372036854775807) :
    Calls Try.prog 4 #[.slice A len cap] w fun e w' => e = .returned (.bool true) ∧ Below w.heap.size w w' := by
  have HD := hide hd
  have HL := hide hl
  have HW := hide hw
  clear hd hl hw
  rcases Nat.lt_or_ge 60 len with h1 | h1
  · have b1 : decide ((60 : Int) < len) = true := by simp; omega
    have b0 : decide (60 < len) = true := by simp; omega
    go_enter Try.func4, Try.ntmps4
    go_wp2_with (go_at_call 5; refine (lives_any _).mono ?_; rintro e w1 ⟨rfl, hb⟩)
    go_ret
    exact ⟨rfl, hb⟩
  have b1 : decide ((60 : Int) < len) = false := by simp; omega
  have b0 : decide (60 < len) = false := by simp; omega
  go_enter Try.func4, Try.ntmps4
  go_wp2_with (first
    | (go_at_call 5; refine (lives_any _).mono ?_; rintro e w0 ⟨rfl, hb⟩; have HB0 := hide hb; clear hb)
    | (go_at_call 6; refine (new_any _).mono ?_; rintro e w1 ⟨T, hb, wb, rfl, hT, hB⟩; have HT := hide (show TabAt w1 w.heap.size T hb wb Tab0 from ⟨hT.t, hT.h, hT.ws, hT.ne, Nat.le_trans HB0.out.size hT.hT, Nat.le_trans HB0.out.size hT.hH, Nat.le_trans HB0.out.size hT.hW⟩); have HB := hide (Below.step HB0.out hB); clear hT hB))
  go_loopw [27] (fun i wr => ∃ (k : Nat) (sa : Tab), k ≤ len ∧ i = .int .i64 k ∧ Hid (Rise sa) ∧ Hid sa.Ok ∧ Hid (TabAt wr w.heap.size T hb wb sa) ∧ Hid (Below w.heap.size w wr)) (fun i _ => len - (intOf i).toNat)
  case atStart => exact ⟨0, _, by omega, rfl, hide Rise.start, hide Tab0.ok, HT, HB⟩
  case round =>
    obtain ⟨k, sa, hk, rfl, HRi, HOk, HTb, HBl⟩ := hrel
    clear HT HB HB0
    by_cases hlt : k < len
    · obtain ⟨ad, ⟨gv, x, n⟩, rfl, hbl, hds, c0, c1, c2⟩ := (HD.out.below HBl.out (Nat.le_refl _)).deed (k := k) (by have := HL.out; omega)
      simp only at c0 c1 c2
      obtain ⟨wx, wn⟩ := HW.out _ (List.mem_of_getElem? hds)
      simp only at wx wn
      have Hx := hide wx
      have Hn := hide wn
      have hk0 : (0 : Int) ≤ k := by omega
      have hkl : (k : Int) < len := by omega
      clear wx wn hds hbl
      go_upto_if 32 with fail
      have hb1 := below1 wr (.cells #[.bool gv, .int .i64 x, .int .i64 n] 30)
      have HPS := hide (show PR w T hb wb wr.heap.size sa (gv, x, n) (wr.alloc (.cells #[.bool gv, .int .i64 x, .int .i64 n] 30)) from ⟨HTb.out.below hb1, Blk.new _ _ _, Below.step HBl.out hb1⟩)
      clear hb1 c0 c1 c2
      generalize World.alloc wr (.cells #[.bool gv, .int .i64 x, .int .i64 n] 30) = W at *
      generalize wr.heap.size = g at *
      clear HTb HBl
      obtain ⟨d0, d1, d2⟩ := HPS.out.gs
      simp only at d0 d1 d2
      go_cut [5] (fun s5 wx => s5 = .pointer (some ⟨g, 0, none⟩) ∧ ∃ (sa : Tab), Hid (Rise sa) ∧ Hid sa.Ok ∧ Hid (PR w T hb wb g sa (gv, x, n) wx))
      case first =>
        have HR1 := hide (HRi.out.step HOk.out (gv, x, n))
        have HO1 := hide (HOk.out.step (gv, x, n))
        rcases gv with _ | _
        · have HC : Hid (∃ bo : Bool, Calls Try.prog 10 #[.pointer (some ⟨T, 0, none⟩), .int .i64 x, .int .i64 n] W fun e w' => e = .returned (.bool bo) ∧ TabAt w' w.heap.size T hb wb (stepA sa (false, x, n)).1 ∧ TurnT W w' T hb wb) := hide ⟨_, take_any HPS.out.tab HOk.out Hx.out Hn.out⟩
          obtain ⟨bo, hC⟩ := HC.out
          have HC1 := hide hC
          clear hC HC
          generalize (stepA sa (false, x, n)).1 = s1 at *
          go_wp2_with (go_at_call 10; refine HC1.out.mono ?_; rintro e w7 ⟨rfl, hA7, hT7⟩; have P7 := hide (HPS.out.turn hT7 hA7); clear hA7 hT7)
          go_meet
          case rel => exact ⟨rfl, s1, HR1, HO1, P7⟩
        · have HC : Hid (∃ bo : Bool, Calls Try.prog 8 #[.pointer (some ⟨T, 0, none⟩), .int .i64 x, .int .i64 n] W fun e w' => e = .returned (.bool bo) ∧ TabAt w' w.heap.size T hb wb (stepA sa (true, x, n)).1 ∧ TurnT W w' T hb wb) := hide ⟨_, give_any HPS.out.tab Hx.out Hn.out⟩
          obtain ⟨bo, hC⟩ := HC.out
          have HC1 := hide hC
          clear hC HC
          generalize (stepA sa (true, x, n)).1 = s1 at *
          go_wp2_with (go_at_call 8; refine HC1.out.mono ?_; rintro e w7 ⟨rfl, hA7, hT7⟩; have P7 := hide (HPS.out.turn hT7 hA7); clear hA7 hT7)
          go_meet
          case rel => exact ⟨rfl, s1, HR1, HO1, P7⟩
      case rest =>
        clear HPS HRi HOk d0 d1 d2
        obtain ⟨rfl, sa, HRi, HOk, HPS⟩ := hcut
        have CRi := hide (fun W (h : PR w T hb wb g sa (gv, x, n) W) => rising_any h.tab)
        have CRg := hide (fun W (h : PR w T hb wb g sa (gv, x, n) W) => ring_any h.tab HOk.out)
        have CHe := hide (fun W (h : PR w T hb wb g sa (gv, x, n) W) => held_any h.tab HOk.out x)
        have HE := hide (show sa.br = false → (ringF sa).length = 0 from fun hb => by rw [HRi.out.noRing HOk.out hb]; rfl)
        have HM := hide (fun (i : Nat) (y : Int) (hy : (ringF sa)[i]? = some y) => show ∃ m z, (lookF sa.ws y = some m ∧ lookF sa.h m = some z ∧ (ringF sa)[(i + 1) % (ringF sa).length]? = some z) ∧ W64 y ∧ W64 m from by
          rcases ringF_of HOk.out with h | ⟨w0, hw0, h⟩
          · rw [h] at hy; simp at hy
          · obtain ⟨m, z, k1, k2, k3⟩ := h.step hy
            have hy2 := h.mem (P := fun x => 0 ≤ x ∧ x ≤ 64) hw0 (fun a x ha => HOk.out.next ha) y (List.mem_of_getElem? hy)
            have hm2 := (HOk.out.ws _ (lookF_mem k1)).2
            simp only at hm2
            exact ⟨m, z, ⟨k1, k2, k3⟩, w64_of (by omega), w64_of (by omega)⟩)
        have HQ := hide (fun (y : Int) (hy : y ∈ heldF sa.h x) => show lookF sa.h y = some x ∧ W64 y from ⟨(mem_held.1 hy).2, by have := (mem_held.1 hy).1; exact w64_of (by omega)⟩)
        generalize ringF sa = L1 at *
        generalize heldF sa.h x = L2 at *
        generalize hbr : sa.br = br at *
        have HBr := hide hbr
        clear hbr
        go_wp2_with fail
        refine (CRg.out _ HPS.out).mono ?_
        rintro e w4 ⟨vP, rfl, hN⟩
        obtain ⟨AP, q, cP, rfl, hlP, hcP, hmP, hr, hb4⟩ := hN
        have HP4 := hide (HPS.out.step hb4)
        have HLP := hide hlP
        have HRP := hide (hr.rd (B := w4.heap.size) fun d hd => hd.2)
        clear hr hlP hb4 HPS
        go_wp2_with fail
        refine (CRi.out _ HP4.out).mono ?_
        rintro e _ ⟨rfl, rfl⟩
        have hq0 : br = false → q = 0 := fun hb0 => by rw [← HLP.out]; exact HE.out hb0
        have b2 : br = false → decide (0 < q) = false ∧ decide ((0 : Int) < q) = false := fun hb0 => by have := hq0 hb0; subst this; exact ⟨rfl, rfl⟩
        have HB2 := hide b2
        clear hq0 b2 HE
        have cut : ∃ bb : Bool, br = bb := ⟨_, rfl⟩
        obtain ⟨bb, hbb⟩ := cut
        rcases bb with _ | _
        all_goals
          subst hbb
          first
            | (obtain ⟨b2, b3⟩ := HB2.out rfl)
            | skip
          go_wp2
          go_loop [56] (fun i => ∃ j : Nat, j ≤ q ∧ i = .int .i64 j) (fun i => q - (intOf i).toNat)
          case atStart => exact ⟨0, by omega, rfl⟩
          case round =>
            obtain ⟨j, hj, rfl⟩ := hrel
            by_cases hjq : j < q
            · obtain ⟨ad2, y, rfl, _, hy, q0⟩ := HRP.out.cell (k := j) (by have := HLP.out; omega)
              obtain ⟨m, z, ⟨k1, k2, k3⟩, wy, wm⟩ := HM.out j y hy
              rw [HLP.out] at k3
              obtain ⟨p, hp⟩ : ∃ p, (j + 1) % q = p := ⟨_, rfl⟩
              rw [hp] at k3
              have hpq : p < q := by rw [← hp]; exact Nat.mod_lt _ (by omega)
              have q1 : w4.cell? (ad2.add p) = some (.int .i64 z) := by
                obtain ⟨ad3, z', e3, _, hz, q1⟩ := HRP.out.cell (k := p) (by have := HLP.out; omega)
                injection e3 with e3
                subst e3
                rw [k3] at hz
                injection hz with hz
                subst hz
                exact q1
              have CW1 := hide (waits_any HP4.out.tab wy)
              have CH1 := hide (holder_any HP4.out.tab wm)
              rw [k1] at CW1
              rw [k2] at CH1
              have g0 : (0 : Int) ≤ j := by omega
              have g1 : (j : Int) < q := by omega
              have hmod : ((j : Int) + 1) % (q : Int) = (p : Int) := by rw [← hp, Int.natCast_emod, Int.natCast_add]; rfl
              have hmod2 : ((j : Int) + 1).tmod (q : Int) = (p : Int) := by rw [Int.tmod_eq_emod_of_nonneg (by omega)]; exact hmod
              have hq0 : ((q : Int) == 0) = false := by rw [beq_eq_false_iff_ne]; omega
              have g2 : (0 : Int) ≤ p := by omega
              have g3 : (p : Int) < q := by omega
              have ez : (z != z) = false := by simp
              simp only [Option.isSome_some, Option.getD_some] at CW1 CH1
              clear k1 k2 k3 hy wy wm hp
              go_wp2_with (first
                | (go_at_call 13; refine CW1.out.mono ?_; rintro e _ ⟨rfl, rfl⟩)
                | (go_at_call 11; refine CH1.out.mono ?_; rintro e _ ⟨rfl, rfl⟩))
              go_round
              case rel => exact ⟨j + 1, by omega, by go_num⟩
              case measure => simp [intOf]; omega
            · obtain ⟨d0, d1, d2⟩ := HP4.out.gs
              simp only at d0 d1 d2
              obtain rfl : j = q := by omega
              go_wp2_with (go_at_call 19; refine (CHe.out _ HP4.out).mono ?_; rintro e w5 ⟨vU, rfl, hN⟩; obtain ⟨AU, u, cU, rfl, hlU, hcU, hmU, hr, hb5⟩ := hN; have HP5 := hide (HP4.out.step hb5); have HLU := hide hlU; have HRU := hide (hr.rd (B := w5.heap.size) fun d hd => hd.2); clear hr hlU hb5)
              clear d0 d1 d2
              obtain ⟨d0, d1, d2⟩ := HP5.out.gs
              simp only at d0 d1 d2
              go_loop [97] (fun i => ∃ v : Nat, v ≤ u ∧ i = .int .i64 v) (fun i => u - (intOf i).toNat)
              case atStart => exact ⟨0, by omega, rfl⟩
              case round =>
                obtain ⟨v, hv, rfl⟩ := hrel
                by_cases hvu : v < u
                · obtain ⟨ad4, y, rfl, _, hy, q0⟩ := HRU.out.cell (k := v) (by have := HLU.out; omega)
                  obtain ⟨k1, wy⟩ := HQ.out y (List.mem_of_getElem? hy)
                  have CH1 := hide (holder_any HP5.out.tab wy)
                  rw [k1] at CH1
                  simp only [Option.isSome_some, Option.getD_some] at CH1
                  have g0 : (0 : Int) ≤ v := by omega
                  have g1 : (v : Int) < u := by omega
                  have ez : (x != x) = false := by simp
                  clear k1 hy wy
                  go_wp2_with (go_at_call 11; refine CH1.out.mono ?_; rintro e _ ⟨rfl, rfl⟩)
                  go_round
                  case rel => exact ⟨v + 1, by omega, by go_num⟩
                  case measure => simp [intOf]; omega
                · obtain rfl : v = u := by omega
                  go_wp2
                  go_roundw
                  case rel => exact ⟨k + 1, sa, by omega, by go_num, HRi, HOk, hide HP5.out.tab, hide HP5.out.bel⟩
                  case measure => simp [intOf]; omega
    · have hge : (len : Int) ≤ k := by omega
      go_wp2
      go_ret
      exact ⟨rfl, HBl.out⟩
end Go.Proofs.Ytknljldmjicfgaa
