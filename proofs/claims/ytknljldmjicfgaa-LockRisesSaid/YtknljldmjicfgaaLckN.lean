/-
  The walk of LockPlays. Conditions: the slice reads as a list of deeds.
-/
import Derived.Test.YtknljldmjicfgaaLckM
namespace Go.Proofs.Ytknljldmjicfgaa
open Go.RowKit

theorem plT_start {w w1 : World} {T hb wb : Nat} (hT : TabAt w1 w.heap.size T hb wb Tab0) (hB : Below w.heap.size w w1) : PlT w (w1.alloc (.cells #[.slice none 0 0, .slice none 0 0, .bool false] 28)) T hb wb w1.heap.size (.slice none 0 0) (.slice none 0 0) (.bool false) Tab0 Tab0 :=
  ⟨hT.below (below1 _ _), Blk.new _ _ _, ⟨none, 0, none, 0, rfl, by simp [Tab0], by omega, by simp [Tab0], by omega, RdR.nil, RdR.nil⟩, hB.alloc hB.size _, hB.size⟩
theorem bne_not (b : Bool) : ((!b) == b) = false := by cases b <;> rfl
set_option maxHeartbeats 8000000 in
set_option maxRecDepth 100000 in
theorem plays_any (A : Option Addr) (len cap : Nat) (ds : List Deed) (w : World) (hd : Rd SDeed w w.heap.size A ds) (hl : ds.length = len) (hw : ∀ d ∈ ds, W64 d.2.1 ∧ W64 d.2.2) (hc : len ≤ cap) (hm : cap ≤ 9223372036854775807) :
    Calls Try.prog 3 #[.slice A len cap] w fun e w' => e = .returned (.bool true) ∧ Below w.heap.size w w' := by
  rcases Nat.lt_or_ge 40 len with h1 | h1
  · have b1 : decide ((40 : Int) < len) = true := by simp; omega
    have b0 : decide (40 < len) = true := by simp; omega
    clear hd hl hw
    go_enter Try.func3, Try.ntmps3
    go_wp2_with (go_at_call 5; refine (lives_any _).mono ?_; rintro e w1 ⟨rfl, hb⟩)
    go_ret
    exact ⟨rfl, hb⟩
  have b1 : decide ((40 : Int) < len) = false := by simp; omega
  have b0 : decide (40 < len) = false := by simp; omega
  have HD := hide hd
  have HL := hide hl
  have HW := hide hw
  clear hd hl hw
  go_enter Try.func3, Try.ntmps3
  go_wp2_with (go_at_call 6; refine (new_any _).mono ?_; rintro e w1 ⟨T, hb, wb, rfl, hT, hB⟩; have HP := hide (plT_start hT hB); clear hT hB)
  generalize World.alloc w1 _ = w2 at *
  generalize w1.heap.size = X at *
  go_loopw [29] (fun i wr => ∃ (k : Nat) (sa sr : Tab) (a b c : Value), k ≤ len ∧ i = .int .i64 k ∧ Hid (Sim sa sr) ∧ Hid sa.Ok ∧ Hid (sr.h.length ≤ k ∧ sr.ws.length ≤ k) ∧ Hid (PlT w wr T hb wb X a b c sa sr)) (fun i _ => len - (intOf i).toNat)
  case atStart => exact ⟨0, _, _, _, _, _, by omega, rfl, hide Sim.start, hide Tab0.ok, hide (by simp [Tab0]), HP⟩
  case round =>
    obtain ⟨k, sa, sr, a, b, c, hk, rfl, HSim, HOk, HLen, HPl⟩ := hrel
    clear HP
    by_cases hlt : k < len
    · obtain ⟨ad, ⟨gv, x, n⟩, rfl, hbl, hds, c0, c1, c2⟩ := (HD.out.below HPl.out.bel (Nat.le_refl _)).deed (k := k) (by have := HL.out; omega)
      simp only at c0 c1 c2
      obtain ⟨wx, wn⟩ := HW.out _ (List.mem_of_getElem? hds)
      simp only at wx wn
      have Hx := hide wx
      have Hn := hide wn
      have hk0 : (0 : Int) ≤ k := by omega
      have hkl : (k : Int) < len := by omega
      clear wx wn hds hbl
      go_upto_if 34 with fail
      have hb1 := below1 wr (.cells #[.bool gv, .int .i64 x, .int .i64 n] 30)
      have HPS := hide (show PS w T hb wb X wr.heap.size a b c sa sr (gv, x, n) (wr.alloc (.cells #[.bool gv, .int .i64 x, .int .i64 n] 30)) from ⟨HPl.out.step hb1, Blk.new _ _ _⟩)
      clear hb1 c0 c1 c2
      generalize World.alloc wr (.cells #[.bool gv, .int .i64 x, .int .i64 n] 30) = W at *
      generalize wr.heap.size = g at *
      clear HPl
      go_cut [7] (fun s7 wx => s7 = .bool true ∧ ∃ (a b c : Value) (sa sr : Tab), Hid (Sim sa sr) ∧ Hid sa.Ok ∧ Hid (sr.h.length ≤ k + 1 ∧ sr.ws.length ≤ k + 1) ∧ Hid (PS w T hb wb X g a b c sa sr (gv, x, n) wx))
      case first =>
        have HS1 := hide (HSim.out.step (gv, x, n))
        have HO1 := hide (HOk.out.step (gv, x, n))
        have HL1 := hide (stepR_len HLen.out (gv, x, n))
        have Hbd := hide (show sr.h.length ≤ 100000 ∧ sr.ws.length ≤ 100000 by have := HLen.out; omega)
        rcases gv with _ | _
        · -- take
          have key : ∃ (sa' sr' : Tab) (bo : Bool), Sim sa' sr' ∧ sa'.Ok ∧ (sr'.h.length ≤ k + 1 ∧ sr'.ws.length ≤ k + 1) ∧
              (∀ (W' : World) (R : Nat → Prop) (v : Value), RefT W' R sr v → (∀ d, R d → d < W'.heap.size) → Calls Try.prog 9 #[v, .int .i64 x, .int .i64 n] W' fun e w' => ∃ v', e = .returned (.tuple #[v', .bool bo]) ∧ RefT w' (Grow R W' w') sr' v' ∧ Below W'.heap.size W' w') ∧
              (∀ W' : World, TabAt W' w.heap.size T hb wb sa → Calls Try.prog 10 #[.pointer (some ⟨T, 0, none⟩), .int .i64 x, .int .i64 n] W' fun e w' => e = .returned (.bool bo) ∧ TabAt w' w.heap.size T hb wb sa' ∧ TurnT W' w' T hb wb) :=
            ⟨(stepA sa (false, x, n)).1, (stepR sr (false, x, n)).1, (stepR sr (false, x, n)).2, HS1.out.1, HO1.out, HL1.out, fun W' R v h hR => refTake_any h hR Hbd.out x n, fun W' h => by rw [HS1.out.2]; exact take_any h HOk.out Hx.out Hn.out⟩
          obtain ⟨sa', sr', bo, k1, k2, k3, C1, C2⟩ := key
          have HC1 := hide C1
          have HC2 := hide C2
          have HS' := hide k1
          have HO' := hide k2
          have HL' := hide k3
          clear C1 C2 k1 k2 k3 HS1 HO1 HL1
          obtain ⟨AH, cH, AW, cW, habc⟩ := HPS.out.pl.ref.parts
          injection habc with habc
          simp at habc
          obtain ⟨rfl, rfl, rfl⟩ := habc
          obtain ⟨x0, x1, x2⟩ := HPS.out.pl.xs
          obtain ⟨d0, d1, d2⟩ := HPS.out.gs
          simp only at d0 d1 d2
          go_upto_region 16 with (go_at_call 9; refine (HC1.out _ _ _ HPS.out.pl.ref HPS.out.pl.lt).mono ?_; rintro e w4 ⟨v', rfl, hr4, hb4⟩; have P4 := hide (HPS.out.step hb4); obtain ⟨AH', cH', AW', cW', rfl⟩ := hr4.parts; have R4 := hide (hr4.more (R' := FreeT w4 T hb wb X) fun d hd => HPS.out.pl.grow hb4.size hd); clear hr4 hb4)
          have hb5 := below1 w4 (.cells #[.slice AH' sr'.h.length cH', .slice AW' sr'.ws.length cW', .bool sr'.br] 28)
          have P5 := P4.out.step hb5
          have R5 := (R4.out.below hb5 fun d hd => hd.1).more (R' := FreeT (w4.alloc (.cells #[.slice AH' sr'.h.length cH', .slice AW' sr'.ws.length cW', .bool sr'.br] 28)) T hb wb X) fun d hd => ⟨by have := hd.1; simp; omega, hd.2⟩
          have E5 := Blk.new w4 28 #[.slice AH' sr'.h.length cH', .slice AW' sr'.ws.length cW', .bool sr'.br]
          clear hb5 x0 x1 x2 d0 d1 d2
          generalize World.alloc w4 _ = w5 at P5 R5 E5 ⊢
          generalize hq : w4.heap.size = q at *
          have y0 : w5.cell? ⟨q, 0, none⟩ = some (.slice AH' sr'.h.length cH') := by rw [E5.cell]; rfl
          have y1 : w5.cell? ⟨q, 1, none⟩ = some (.slice AW' sr'.ws.length cW') := by rw [E5.cell]; rfl
          have y2 : w5.cell? ⟨q, 2, none⟩ = some (.bool sr'.br) := by rw [E5.cell]; rfl
          obtain ⟨v0, v1, v2⟩ := P5.pl.xs
          have f0 := P5.pl.x.frozen 0
          have f1 := P5.pl.x.frozen 1
          have f2 := P5.pl.x.frozen 2
          have HP5 := hide P5
          have HR5 := hide R5
          have gX : X ≠ g := P5.pl.x.ne_ P5.g (by decide)
          clear P5 R5 E5 P4 R4 hq
          go_upto_region 17 with fail
          have P6 := HP5.out.pl.storeX HR5.out
          have D6 := (HP5.out.g.far (p := ⟨X, 0, none⟩) (fun e => gX e.symm) (.slice AH' sr'.h.length cH')).far (p := ⟨X, 1, none⟩) (fun e => gX e.symm) (.slice AW' sr'.ws.length cW') |>.far (p := ⟨X, 2, none⟩) (fun e => gX e.symm) (.bool sr'.br)
          generalize World.setCell (World.setCell (World.setCell w5 _ _) _ _) _ _ = w6 at P6 D6 ⊢
          have HPS6 := hide (show PS w T hb wb X g _ _ _ sa sr' _ w6 from ⟨P6, D6⟩)
          clear P6 D6 y0 y1 y2 v0 v1 v2 f0 f1 f2 HP5 HR5
          obtain ⟨d0, d1, d2⟩ := HPS6.out.gs
          simp only at d0 d1 d2
          have e1 : (bo == bo) = true := by simp
          go_wp2_with (go_at_call 10; refine (HC2.out _ HPS6.out.pl.tab).mono ?_; rintro e w7 ⟨rfl, hA7, hT7⟩; have P7 := hide (show PS w T hb wb X g _ _ _ sa' sr' _ w7 from ⟨HPS6.out.pl.turned hT7 hA7, tab_blk HPS6.out.pl.tab HPS6.out.g (by decide) hT7⟩); clear hA7 hT7)
          go_meet
          case rel => exact ⟨rfl, _, _, _, sa', sr', HS', HO', HL', P7⟩
        · -- give
          have key : ∃ (sa' sr' : Tab) (bo : Bool), Sim sa' sr' ∧ sa'.Ok ∧ (sr'.h.length ≤ k + 1 ∧ sr'.ws.length ≤ k + 1) ∧
              (∀ (W' : World) (R : Nat → Prop) (v : Value), RefT W' R sr v → (∀ d, R d → d < W'.heap.size) → Calls Try.prog 7 #[v, .int .i64 x, .int .i64 n] W' fun e w' => ∃ v', e = .returned (.tuple #[v', .bool bo]) ∧ RefT w' (Grow R W' w') sr' v' ∧ Below W'.heap.size W' w') ∧
              (∀ W' : World, TabAt W' w.heap.size T hb wb sa → Calls Try.prog 8 #[.pointer (some ⟨T, 0, none⟩), .int .i64 x, .int .i64 n] W' fun e w' => e = .returned (.bool bo) ∧ TabAt w' w.heap.size T hb wb sa' ∧ TurnT W' w' T hb wb) :=
            ⟨(stepA sa (true, x, n)).1, (stepR sr (true, x, n)).1, (stepR sr (true, x, n)).2, HS1.out.1, HO1.out, HL1.out, fun W' R v h hR => refGive_any h hR Hbd.out x n, fun W' h => by rw [HS1.out.2]; exact give_any h Hx.out Hn.out⟩
          obtain ⟨sa', sr', bo, k1, k2, k3, C1, C2⟩ := key
          have HC1 := hide C1
          have HC2 := hide C2
          have HS' := hide k1
          have HO' := hide k2
          have HL' := hide k3
          clear C1 C2 k1 k2 k3 HS1 HO1 HL1
          obtain ⟨AH, cH, AW, cW, habc⟩ := HPS.out.pl.ref.parts
          injection habc with habc
          simp at habc
          obtain ⟨rfl, rfl, rfl⟩ := habc
          obtain ⟨x0, x1, x2⟩ := HPS.out.pl.xs
          obtain ⟨d0, d1, d2⟩ := HPS.out.gs
          simp only at d0 d1 d2
          go_upto_region 13 with (go_at_call 7; refine (HC1.out _ _ _ HPS.out.pl.ref HPS.out.pl.lt).mono ?_; rintro e w4 ⟨v', rfl, hr4, hb4⟩; have P4 := hide (HPS.out.step hb4); obtain ⟨AH', cH', AW', cW', rfl⟩ := hr4.parts; have R4 := hide (hr4.more (R' := FreeT w4 T hb wb X) fun d hd => HPS.out.pl.grow hb4.size hd); clear hr4 hb4)
          have hb5 := below1 w4 (.cells #[.slice AH' sr'.h.length cH', .slice AW' sr'.ws.length cW', .bool sr'.br] 28)
          have P5 := P4.out.step hb5
          have R5 := (R4.out.below hb5 fun d hd => hd.1).more (R' := FreeT (w4.alloc (.cells #[.slice AH' sr'.h.length cH', .slice AW' sr'.ws.length cW', .bool sr'.br] 28)) T hb wb X) fun d hd => ⟨by have := hd.1; simp; omega, hd.2⟩
          have E5 := Blk.new w4 28 #[.slice AH' sr'.h.length cH', .slice AW' sr'.ws.length cW', .bool sr'.br]
          clear hb5 x0 x1 x2 d0 d1 d2
          generalize World.alloc w4 _ = w5 at P5 R5 E5 ⊢
          generalize hq : w4.heap.size = q at *
          have y0 : w5.cell? ⟨q, 0, none⟩ = some (.slice AH' sr'.h.length cH') := by rw [E5.cell]; rfl
          have y1 : w5.cell? ⟨q, 1, none⟩ = some (.slice AW' sr'.ws.length cW') := by rw [E5.cell]; rfl
          have y2 : w5.cell? ⟨q, 2, none⟩ = some (.bool sr'.br) := by rw [E5.cell]; rfl
          obtain ⟨v0, v1, v2⟩ := P5.pl.xs
          have f0 := P5.pl.x.frozen 0
          have f1 := P5.pl.x.frozen 1
          have f2 := P5.pl.x.frozen 2
          have HP5 := hide P5
          have HR5 := hide R5
          have gX : X ≠ g := P5.pl.x.ne_ P5.g (by decide)
          clear P5 R5 E5 P4 R4 hq
          go_upto_region 14 with fail
          have P6 := HP5.out.pl.storeX HR5.out
          have D6 := (HP5.out.g.far (p := ⟨X, 0, none⟩) (fun e => gX e.symm) (.slice AH' sr'.h.length cH')).far (p := ⟨X, 1, none⟩) (fun e => gX e.symm) (.slice AW' sr'.ws.length cW') |>.far (p := ⟨X, 2, none⟩) (fun e => gX e.symm) (.bool sr'.br)
          generalize World.setCell (World.setCell (World.setCell w5 _ _) _ _) _ _ = w6 at P6 D6 ⊢
          have HPS6 := hide (show PS w T hb wb X g _ _ _ sa sr' _ w6 from ⟨P6, D6⟩)
          clear P6 D6 y0 y1 y2 v0 v1 v2 f0 f1 f2 HP5 HR5
          obtain ⟨d0, d1, d2⟩ := HPS6.out.gs
          simp only at d0 d1 d2
          have e1 : (bo == bo) = true := by simp
          go_wp2_with (go_at_call 8; refine (HC2.out _ HPS6.out.pl.tab).mono ?_; rintro e w7 ⟨rfl, hA7, hT7⟩; have P7 := hide (show PS w T hb wb X g _ _ _ sa' sr' _ w7 from ⟨HPS6.out.pl.turned hT7 hA7, tab_blk HPS6.out.pl.tab HPS6.out.g (by decide) hT7⟩); clear hA7 hT7)
          go_meet
          case rel => exact ⟨rfl, _, _, _, sa', sr', HS', HO', HL', P7⟩
      case rest =>
        obtain ⟨rfl, a, b, c, sa, sr, HSim, HOk, HLen, HPS⟩ := hcut
        obtain ⟨AH, cH, AW, cW, habc⟩ := HPS.out.pl.ref.parts
        injection habc with habc
        simp at habc
        obtain ⟨rfl, rfl, rfl⟩ := habc
        generalize hva : Value.slice AH sr.h.length cH = va at *
        generalize hvb : Value.slice AW sr.ws.length cW = vb at *
        have HVA := hide hva
        have HVB := hide hvb
        clear hva hvb
        obtain ⟨br, hbr⟩ : ∃ br, sr.br = br := ⟨_, rfl⟩
        rw [hbr] at HPS
        have CRi : Hid (∀ W, PS w T hb wb X g va vb (.bool br) sa sr (gv, x, n) W → Calls Try.prog 15 #[.pointer (some ⟨T, 0, none⟩)] W fun e w' => e = .returned (.bool (!br)) ∧ W = w') := hide (fun W h => by have := rising_any h.pl.tab; rwa [HSim.out.br, hbr] at this)
        have CH := hide (fun W (h : PS w T hb wb X g va vb (.bool br) sa sr (gv, x, n) W) => holder_any h.pl.tab Hn.out)
        have CW := hide (fun W (h : PS w T hb wb X g va vb (.bool br) sa sr (gv, x, n) W) => waits_any h.pl.tab Hx.out)
        have CRH : Hid (∀ W, PS w T hb wb X g va vb (.bool br) sa sr (gv, x, n) W → Calls Try.prog 12 #[.agg #[va, vb, .bool br], .int .i64 n] W fun e w' => e = .returned (.tuple #[.int .i64 ((lookF sa.h n).getD 0), .bool (lookF sa.h n).isSome]) ∧ Below W.heap.size W w') := hide (fun W h => by rw [HSim.out.h]; exact refHolder_any h.pl.call n)
        have CRW : Hid (∀ W, PS w T hb wb X g va vb (.bool br) sa sr (gv, x, n) W → Calls Try.prog 14 #[.agg #[va, vb, .bool br], .int .i64 x] W fun e w' => e = .returned (.tuple #[.int .i64 ((lookF sa.ws x).getD 0), .bool (lookF sa.ws x).isSome]) ∧ Below W.heap.size W w') := hide (fun W h => by rw [HSim.out.ws]; exact refWaits_any h.pl.call x)
        have CRg := hide (fun W (h : PS w T hb wb X g va vb (.bool br) sa sr (gv, x, n) W) => ring_any h.pl.tab HOk.out)
        have CRR : Hid (∀ W, PS w T hb wb X g va vb (.bool br) sa sr (gv, x, n) W → Calls Try.prog 18 #[.agg #[va, vb, .bool br]] W fun e w' => ∃ v', e = .returned v' ∧ NewInts .i64 W (ringF sa) v' w') := hide (fun W h => by rw [← HSim.out.ring]; exact refRing_any h.pl.call (fun k hk => by rw [← HSim.out.next]; exact chain_same HOk.out (by omega)))
        have CHe := hide (fun W (h : PS w T hb wb X g va vb (.bool br) sa sr (gv, x, n) W) => held_any h.pl.tab HOk.out x)
        have CRHe : Hid (∀ W, PS w T hb wb X g va vb (.bool br) sa sr (gv, x, n) W → Calls Try.prog 20 #[.agg #[va, vb, .bool br], .int .i64 x] W fun e w' => ∃ v', e = .returned v' ∧ NewInts .i64 W (heldF sa.h x) v' w') := hide (fun W h => by rw [HSim.out.h]; exact refHeld_any h.pl.call x)
        clear hbr
        generalize ringF sa = L1 at *
        generalize heldF sa.h x = L2 at *
        generalize (lookF sa.h n).getD 0 = hv at *
        generalize (lookF sa.h n).isSome = hbv at *
        generalize (lookF sa.ws x).getD 0 = jv at *
        generalize (lookF sa.ws x).isSome = jbv at *
        obtain ⟨d0, d1, d2⟩ := HPS.out.gs
        obtain ⟨x0, x1, x2⟩ := HPS.out.pl.xs
        simp only at d0 d1 d2
        go_upto_region 22 with (first
          | (go_at_call 11; refine (CH.out _ HPS.out).mono ?_; rintro e _ ⟨rfl, rfl⟩)
          | (go_at_call 12; refine (CRH.out _ HPS.out).mono ?_; rintro e w4 ⟨rfl, hb4⟩; have HPS4 := hide (HPS.out.step hb4); obtain ⟨f0, f1, f2⟩ := HPS4.out.gs; obtain ⟨z0, z1, z2⟩ := HPS4.out.pl.xs; simp only at f0 f1 f2; clear hb4)
          | (go_at_call 13; refine (CW.out _ HPS4.out).mono ?_; rintro e _ ⟨rfl, rfl⟩)
          | (go_at_call 14; refine (CRW.out _ HPS4.out).mono ?_; rintro e w5 ⟨rfl, hb5⟩; have HPS5 := hide (HPS4.out.step hb5); clear hb5))
        clear d0 d1 d2 x0 x1 x2 f0 f1 f2 z0 z1 z2 HPS HPS4
        have e1 : (hv != hv) = false := by simp
        have e2 : (hbv != hbv) = false := by simp
        have e3 : (jv != jv) = false := by simp
        have e4 : (jbv != jbv) = false := by simp
        have e5 := bne_not br
        refine wp_region_held_drew (S := fun W => PS w T hb wb X g va vb (.bool br) sa sr (gv, x, n) W) (by kernel_rfl) HPS5.out.drew (fun hHeld => ?_)
        clear HPS5
        generalize World.drew _ = wl5 at *
        refine wpAnyH_take (i := 0) (v := .bool true) rfl (by kernel_rfl) (by kernel_rfl) (by kernel_rfl) (fun _ _ _ h => h) (Or.inl ⟨by rfl, fun W hS => by clear hS hHeld; go_simp⟩) hHeld ?_
        try simp only [Act.put, List.setIfInBounds_toArray, List.set_cons_zero, List.set_cons_succ, List.getElem_toArray, List.getElem_cons_zero, List.getElem_cons_succ]
        refine wpAnyH_take (i := 1) (v := .bool false) rfl (by kernel_rfl) (by kernel_rfl) (by kernel_rfl) (fun _ _ _ h => h) (Or.inl ⟨by rfl, fun W hS => by clear hS hHeld; go_simp⟩) hHeld ?_
        try simp only [Act.put, List.setIfInBounds_toArray, List.set_cons_zero, List.set_cons_succ, List.getElem_toArray, List.getElem_cons_zero, List.getElem_cons_succ]
        refine wpAnyH_take (i := 2) (v := .bool false) rfl (by kernel_rfl) (by kernel_rfl) (by kernel_rfl) (fun _ _ _ h => h) (Or.inl ⟨by rfl, fun W hS => by clear hS hHeld; go_simp⟩) hHeld ?_
        try simp only [Act.put, List.setIfInBounds_toArray, List.set_cons_zero, List.set_cons_succ, List.getElem_toArray, List.getElem_cons_zero, List.getElem_cons_succ]
        refine wpAnyH_take (i := 3) (v := .int .i64 hv) rfl (by kernel_rfl) (by kernel_rfl) (by kernel_rfl) (fun _ _ _ h => h) (Or.inl ⟨by rfl, fun W hS => by clear hS hHeld; go_simp⟩) hHeld ?_
        try simp only [Act.put, List.setIfInBounds_toArray, List.set_cons_zero, List.set_cons_succ, List.getElem_toArray, List.getElem_cons_zero, List.getElem_cons_succ]
        refine wpAnyH_take (i := 4) (v := .int .i64 hv) rfl (by kernel_rfl) (by kernel_rfl) (by kernel_rfl) (fun _ _ _ h => h) (Or.inl ⟨by rfl, fun W hS => by clear hS hHeld; go_simp⟩) hHeld ?_
        try simp only [Act.put, List.setIfInBounds_toArray, List.set_cons_zero, List.set_cons_succ, List.getElem_toArray, List.getElem_cons_zero, List.getElem_cons_succ]
        refine wpAnyH_take (i := 5) (v := .bool false) rfl (by kernel_rfl) (by kernel_rfl) (by kernel_rfl) (fun _ _ _ h => h) (Or.inl ⟨by rfl, fun W hS => by clear hS hHeld; go_simp⟩) hHeld ?_
        try simp only [Act.put, List.setIfInBounds_toArray, List.set_cons_zero, List.set_cons_succ, List.getElem_toArray, List.getElem_cons_zero, List.getElem_cons_succ]
        refine wpAnyH_take (i := 6) (v := .bool false) rfl (by kernel_rfl) (by kernel_rfl) (by kernel_rfl) (fun _ _ _ h => h) (Or.inl ⟨by rfl, fun W hS => by clear hS hHeld; go_simp⟩) hHeld ?_
        try simp only [Act.put, List.setIfInBounds_toArray, List.set_cons_zero, List.set_cons_succ, List.getElem_toArray, List.getElem_cons_zero, List.getElem_cons_succ]
        refine wpAnyH_take (i := 7) (v := .bool false) rfl (by kernel_rfl) (by kernel_rfl) (by kernel_rfl) (fun _ _ _ h => h) (Or.inl ⟨by rfl, fun W hS => by clear hS hHeld; go_simp⟩) hHeld ?_
        try simp only [Act.put, List.setIfInBounds_toArray, List.set_cons_zero, List.set_cons_succ, List.getElem_toArray, List.getElem_cons_zero, List.getElem_cons_succ]
        refine wpAnyH_take (i := 8) (v := .bool hbv) rfl (by kernel_rfl) (by kernel_rfl) (by kernel_rfl) (fun _ _ _ h => h) (Or.inl ⟨by rfl, fun W hS => by clear hS hHeld; go_simp⟩) hHeld ?_
        try simp only [Act.put, List.setIfInBounds_toArray, List.set_cons_zero, List.set_cons_succ, List.getElem_toArray, List.getElem_cons_zero, List.getElem_cons_succ]
        refine wpAnyH_take (i := 9) (v := .bool hbv) rfl (by kernel_rfl) (by kernel_rfl) (by kernel_rfl) (fun _ _ _ h => h) (Or.inl ⟨by rfl, fun W hS => by clear hS hHeld; go_simp⟩) hHeld ?_
        try simp only [Act.put, List.setIfInBounds_toArray, List.set_cons_zero, List.set_cons_succ, List.getElem_toArray, List.getElem_cons_zero, List.getElem_cons_succ]
        refine wpAnyH_take (i := 10) (v := .bool false) rfl (by kernel_rfl) (by kernel_rfl) (by kernel_rfl) (fun _ _ _ h => h) (Or.inl ⟨by rfl, fun W hS => by clear hS hHeld; go_simp⟩) hHeld ?_
        try simp only [Act.put, List.setIfInBounds_toArray, List.set_cons_zero, List.set_cons_succ, List.getElem_toArray, List.getElem_cons_zero, List.getElem_cons_succ]
        refine wpAnyH_take (i := 11) (v := .bool false) rfl (by kernel_rfl) (by kernel_rfl) (by kernel_rfl) (fun _ _ _ h => h) (Or.inl ⟨by rfl, fun W hS => by clear hS hHeld; go_simp⟩) hHeld ?_
        try simp only [Act.put, List.setIfInBounds_toArray, List.set_cons_zero, List.set_cons_succ, List.getElem_toArray, List.getElem_cons_zero, List.getElem_cons_succ]
        refine wpAnyH_take (i := 12) (v := .bool false) rfl (by kernel_rfl) (by kernel_rfl) (by kernel_rfl) (fun _ _ _ h => h) (Or.inl ⟨by rfl, fun W hS => by clear hS hHeld; go_simp⟩) hHeld ?_
        try simp only [Act.put, List.setIfInBounds_toArray, List.set_cons_zero, List.set_cons_succ, List.getElem_toArray, List.getElem_cons_zero, List.getElem_cons_succ]
        refine wpAnyH_take (i := 13) (v := .int .i64 jv) rfl (by kernel_rfl) (by kernel_rfl) (by kernel_rfl) (fun _ _ _ h => h) (Or.inl ⟨by rfl, fun W hS => by clear hS hHeld; go_simp⟩) hHeld ?_
        try simp only [Act.put, List.setIfInBounds_toArray, List.set_cons_zero, List.set_cons_succ, List.getElem_toArray, List.getElem_cons_zero, List.getElem_cons_succ]
        refine wpAnyH_take (i := 14) (v := .int .i64 jv) rfl (by kernel_rfl) (by kernel_rfl) (by kernel_rfl) (fun _ _ _ h => h) (Or.inl ⟨by rfl, fun W hS => by clear hS hHeld; go_simp⟩) hHeld ?_
        try simp only [Act.put, List.setIfInBounds_toArray, List.set_cons_zero, List.set_cons_succ, List.getElem_toArray, List.getElem_cons_zero, List.getElem_cons_succ]
        refine wpAnyH_take (i := 15) (v := .bool false) rfl (by kernel_rfl) (by kernel_rfl) (by kernel_rfl) (fun _ _ _ h => h) (Or.inl ⟨by rfl, fun W hS => by clear hS hHeld; go_simp⟩) hHeld ?_
        try simp only [Act.put, List.setIfInBounds_toArray, List.set_cons_zero, List.set_cons_succ, List.getElem_toArray, List.getElem_cons_zero, List.getElem_cons_succ]
        refine wpAnyH_take (i := 16) (v := .bool false) rfl (by kernel_rfl) (by kernel_rfl) (by kernel_rfl) (fun _ _ _ h => h) (Or.inl ⟨by rfl, fun W hS => by clear hS hHeld; go_simp⟩) hHeld ?_
        try simp only [Act.put, List.setIfInBounds_toArray, List.set_cons_zero, List.set_cons_succ, List.getElem_toArray, List.getElem_cons_zero, List.getElem_cons_succ]
        refine wpAnyH_take (i := 17) (v := .bool false) rfl (by kernel_rfl) (by kernel_rfl) (by kernel_rfl) (fun _ _ _ h => h) (Or.inl ⟨by rfl, fun W hS => by clear hS hHeld; go_simp⟩) hHeld ?_
        try simp only [Act.put, List.setIfInBounds_toArray, List.set_cons_zero, List.set_cons_succ, List.getElem_toArray, List.getElem_cons_zero, List.getElem_cons_succ]
        refine wpAnyH_take (i := 18) (v := .bool jbv) rfl (by kernel_rfl) (by kernel_rfl) (by kernel_rfl) (fun _ _ _ h => h) (Or.inl ⟨by rfl, fun W hS => by clear hS hHeld; go_simp⟩) hHeld ?_
        try simp only [Act.put, List.setIfInBounds_toArray, List.set_cons_zero, List.set_cons_succ, List.getElem_toArray, List.getElem_cons_zero, List.getElem_cons_succ]
        refine wpAnyH_take (i := 19) (v := .bool jbv) rfl (by kernel_rfl) (by kernel_rfl) (by kernel_rfl) (fun _ _ _ h => h) (Or.inl ⟨by rfl, fun W hS => by clear hS hHeld; go_simp⟩) hHeld ?_
        try simp only [Act.put, List.setIfInBounds_toArray, List.set_cons_zero, List.set_cons_succ, List.getElem_toArray, List.getElem_cons_zero, List.getElem_cons_succ]
        refine wpAnyH_take (i := 20) (v := .bool false) rfl (by kernel_rfl) (by kernel_rfl) (by kernel_rfl) (fun _ _ _ h => h) (Or.inl ⟨by rfl, fun W hS => by clear hS hHeld; go_simp⟩) hHeld ?_
        try simp only [Act.put, List.setIfInBounds_toArray, List.set_cons_zero, List.set_cons_succ, List.getElem_toArray, List.getElem_cons_zero, List.getElem_cons_succ]
        refine wpAnyH_take (i := 21) (v := .bool false) rfl (by kernel_rfl) (by kernel_rfl) (by kernel_rfl) (fun _ _ _ h => h) (Or.inl ⟨by rfl, fun W hS => by clear hS hHeld; go_simp⟩) hHeld ?_
        try simp only [Act.put, List.setIfInBounds_toArray, List.set_cons_zero, List.set_cons_succ, List.getElem_toArray, List.getElem_cons_zero, List.getElem_cons_succ]
        refine wpAnyH_take (i := 22) (v := .bool false) rfl (by kernel_rfl) (by kernel_rfl) (by kernel_rfl) (fun _ _ _ h => h) (Or.inl ⟨by rfl, fun W hS => by clear hS hHeld; go_simp⟩) hHeld ?_
        try simp only [Act.put, List.setIfInBounds_toArray, List.set_cons_zero, List.set_cons_succ, List.getElem_toArray, List.getElem_cons_zero, List.getElem_cons_succ]
        refine wpAnyH_take (i := 23) (v := .pointer (some ⟨T, 0, none⟩)) rfl (by kernel_rfl) (by kernel_rfl) (by kernel_rfl) (fun _ _ _ h => h) (Or.inl ⟨by rfl, fun W hS => by clear hS hHeld; go_simp⟩) hHeld ?_
        try simp only [Act.put, List.setIfInBounds_toArray, List.set_cons_zero, List.set_cons_succ, List.getElem_toArray, List.getElem_cons_zero, List.getElem_cons_succ]
        refine wpAnyH_take (i := 25) (v := .pointer (some ⟨X, 2, none⟩)) rfl (by kernel_rfl) (by kernel_rfl) (by kernel_rfl) (fun _ _ _ h => h) (Or.inl ⟨by rfl, fun W hS => by clear hS hHeld; go_simp⟩) hHeld ?_
        try simp only [Act.put, List.setIfInBounds_toArray, List.set_cons_zero, List.set_cons_succ, List.getElem_toArray, List.getElem_cons_zero, List.getElem_cons_succ]
        refine wpAnyH_take (i := 26) (v := .bool br) rfl (by kernel_rfl) (by kernel_rfl) (by kernel_rfl) (fun _ _ _ h => h) (Or.inl ⟨by rfl, fun W hS => by have z0 := hS.pl.xs.1; have z1 := hS.pl.xs.2.1; have z2 := hS.pl.xs.2.2; clear hS hHeld; go_simp⟩) hHeld ?_
        try simp only [Act.put, List.setIfInBounds_toArray, List.set_cons_zero, List.set_cons_succ, List.getElem_toArray, List.getElem_cons_zero, List.getElem_cons_succ]
        refine wpAnyH_ready (rs := [24]) (by kernel_rfl) (by simp) ?_
        refine AllReadyH.cons rfl (fun K hK => ?_) AllReadyH.nil
        try simp only [Act.put, List.setIfInBounds_toArray, List.set_cons_zero, List.set_cons_succ, List.getElem_toArray, List.getElem_cons_zero, List.getElem_cons_succ]
        go_simp
        go_at_call 15
        refine (CRi.out _ hHeld).mono ?_
        rintro e _ ⟨rfl, rfl⟩
        refine hK.out _ _ hHeld (fun hHeld2 => ?_)
        clear hK K hHeld
        have hHeld := hHeld2
        clear hHeld2
        try simp only [Act.put, List.setIfInBounds_toArray, List.set_cons_zero, List.set_cons_succ, List.getElem_toArray, List.getElem_cons_zero, List.getElem_cons_succ]
        refine wpAnyH_take (i := 27) (v := .bool false) rfl (by kernel_rfl) (by kernel_rfl) (by kernel_rfl) (fun _ _ _ h => h) (Or.inl ⟨by rfl, fun W hS => by clear hS hHeld; go_simp⟩) hHeld ?_
        try simp only [Act.put, List.setIfInBounds_toArray, List.set_cons_zero, List.set_cons_succ, List.getElem_toArray, List.getElem_cons_zero, List.getElem_cons_succ]
        refine wpAnyH_take (i := 28) (v := .bool false) rfl (by kernel_rfl) (by kernel_rfl) (by kernel_rfl) (fun _ _ _ h => h) (Or.inl ⟨by rfl, fun W hS => by clear hS hHeld; go_simp⟩) hHeld ?_
        try simp only [Act.put, List.setIfInBounds_toArray, List.set_cons_zero, List.set_cons_succ, List.getElem_toArray, List.getElem_cons_zero, List.getElem_cons_succ]
        refine wpAnyH_take (i := 29) (v := .bool false) rfl (by kernel_rfl) (by kernel_rfl) (by kernel_rfl) (fun _ _ _ h => h) (Or.inl ⟨by rfl, fun W hS => by clear hS hHeld; go_simp⟩) hHeld ?_
        try simp only [Act.put, List.setIfInBounds_toArray, List.set_cons_zero, List.set_cons_succ, List.getElem_toArray, List.getElem_cons_zero, List.getElem_cons_succ]
        refine wpAnyH_take (i := 30) (v := .pointer (some ⟨T, 0, none⟩)) rfl (by kernel_rfl) (by kernel_rfl) (by kernel_rfl) (fun _ _ _ h => h) (Or.inl ⟨by rfl, fun W hS => by clear hS hHeld; go_simp⟩) hHeld ?_
        try simp only [Act.put, List.setIfInBounds_toArray, List.set_cons_zero, List.set_cons_succ, List.getElem_toArray, List.getElem_cons_zero, List.getElem_cons_succ]
        refine wpAnyH_take (i := 32) (v := .agg #[va, vb, .bool br]) rfl (by kernel_rfl) (by kernel_rfl) (by kernel_rfl) (fun _ _ _ h => h) (Or.inl ⟨by rfl, fun W hS => by have z0 := hS.pl.xs.1; have z1 := hS.pl.xs.2.1; have z2 := hS.pl.xs.2.2; clear hS hHeld; go_simp⟩) hHeld ?_
        try simp only [Act.put, List.setIfInBounds_toArray, List.set_cons_zero, List.set_cons_succ, List.getElem_toArray, List.getElem_cons_zero, List.getElem_cons_succ]
        refine wpAnyH_ready (rs := [31]) (by kernel_rfl) (by simp) ?_
        refine AllReadyH.cons rfl (fun K hK => ?_) AllReadyH.nil
        try simp only [Act.put, List.setIfInBounds_toArray, List.set_cons_zero, List.set_cons_succ, List.getElem_toArray, List.getElem_cons_zero, List.getElem_cons_succ]
        go_simp
        go_at_call 17
        refine (CRg.out _ hHeld).mono ?_
        rintro e wl6 ⟨vP, rfl, hN⟩
        obtain ⟨AP, nP, cP, rfl, hlP, hcP, hmP, hr, hbl⟩ := id hN
        have HLP := hide hlP
        have HRP := hide (hr.rd (B := wl6.heap.size) fun d hd => hd.2)
        clear hr hlP
        refine hK.out _ _ (hHeld.step hN.below) (fun hHeld2 => ?_)
        clear hK K hHeld
        have hHeld := hHeld2
        clear hHeld2
        try simp only [Act.put, List.setIfInBounds_toArray, List.set_cons_zero, List.set_cons_succ, List.getElem_toArray, List.getElem_cons_zero, List.getElem_cons_succ]
        clear hN hbl
        refine wpAnyH_ready (rs := [33]) (by kernel_rfl) (by simp) ?_
        refine AllReadyH.cons rfl (fun K hK => ?_) AllReadyH.nil
        try simp only [Act.put, List.setIfInBounds_toArray, List.set_cons_zero, List.set_cons_succ, List.getElem_toArray, List.getElem_cons_zero, List.getElem_cons_succ]
        go_simp
        go_at_call 18
        refine (CRR.out _ hHeld).mono ?_
        rintro e wl7 ⟨vQ, rfl, hN⟩
        obtain ⟨AQ, nQ, cQ, rfl, hlQ, hcQ, hmQ, hr, hbl⟩ := id hN
        have HLQ := hide hlQ
        have HRQ := hide (hr.rd (B := wl7.heap.size) fun d hd => hd.2)
        clear hr hlQ
        refine hK.out _ _ (hHeld.step hN.below) (fun hHeld2 => ?_)
        clear hK K hHeld
        have hHeld := hHeld2
        clear hHeld2
        try simp only [Act.put, List.setIfInBounds_toArray, List.set_cons_zero, List.set_cons_succ, List.getElem_toArray, List.getElem_cons_zero, List.getElem_cons_succ]
        have HRP := hide (HRP.out.at_world hbl)
        clear hN hbl
        refine wpAnyH_ready (rs := [34]) (by kernel_rfl) (by simp) ?_
        refine AllReadyH.cons rfl (fun K hK => ?_) AllReadyH.nil
        try simp only [Act.put, List.setIfInBounds_toArray, List.set_cons_zero, List.set_cons_succ, List.getElem_toArray, List.getElem_cons_zero, List.getElem_cons_succ]
        go_simp
        go_at_call 16
        refine (sameInts_any AP AQ nP cP nQ cQ L1 L1 _ HRP.out HLP.out hcP hmP HRQ.out HLQ.out hcQ hmQ).mono ?_
        rintro e wl8 ⟨hev, hdw⟩
        have hev : e = .returned (.bool true) := hev.trans (by simp)
        subst hev
        refine hK.out _ _ (hHeld.step hdw.below) (fun hHeld2 => ?_)
        clear hK K hHeld
        have hHeld := hHeld2
        clear hHeld2
        try simp only [Act.put, List.setIfInBounds_toArray, List.set_cons_zero, List.set_cons_succ, List.getElem_toArray, List.getElem_cons_zero, List.getElem_cons_succ]
        clear hdw HRP HRQ HLP HLQ hcP hmP hcQ hmQ
        refine wpAnyH_take (i := 35) (v := .bool false) rfl (by kernel_rfl) (by kernel_rfl) (by kernel_rfl) (fun _ _ _ h => h) (Or.inl ⟨by rfl, fun W hS => by clear hS hHeld; go_simp⟩) hHeld ?_
        try simp only [Act.put, List.setIfInBounds_toArray, List.set_cons_zero, List.set_cons_succ, List.getElem_toArray, List.getElem_cons_zero, List.getElem_cons_succ]
        refine wpAnyH_take (i := 36) (v := .bool false) rfl (by kernel_rfl) (by kernel_rfl) (by kernel_rfl) (fun _ _ _ h => h) (Or.inl ⟨by rfl, fun W hS => by clear hS hHeld; go_simp⟩) hHeld ?_
        try simp only [Act.put, List.setIfInBounds_toArray, List.set_cons_zero, List.set_cons_succ, List.getElem_toArray, List.getElem_cons_zero, List.getElem_cons_succ]
        refine wpAnyH_take (i := 37) (v := .bool false) rfl (by kernel_rfl) (by kernel_rfl) (by kernel_rfl) (fun _ _ _ h => h) (Or.inl ⟨by rfl, fun W hS => by clear hS hHeld; go_simp⟩) hHeld ?_
        try simp only [Act.put, List.setIfInBounds_toArray, List.set_cons_zero, List.set_cons_succ, List.getElem_toArray, List.getElem_cons_zero, List.getElem_cons_succ]
        refine wpAnyH_take (i := 38) (v := .pointer (some ⟨T, 0, none⟩)) rfl (by kernel_rfl) (by kernel_rfl) (by kernel_rfl) (fun _ _ _ h => h) (Or.inl ⟨by rfl, fun W hS => by clear hS hHeld; go_simp⟩) hHeld ?_
        try simp only [Act.put, List.setIfInBounds_toArray, List.set_cons_zero, List.set_cons_succ, List.getElem_toArray, List.getElem_cons_zero, List.getElem_cons_succ]
        refine wpAnyH_take (i := 39) (v := .pointer (some ⟨g, 1, none⟩)) rfl (by kernel_rfl) (by kernel_rfl) (by kernel_rfl) (fun _ _ _ h => h) (Or.inl ⟨by rfl, fun W hS => by clear hS hHeld; go_simp⟩) hHeld ?_
        try simp only [Act.put, List.setIfInBounds_toArray, List.set_cons_zero, List.set_cons_succ, List.getElem_toArray, List.getElem_cons_zero, List.getElem_cons_succ]
        refine wpAnyH_take (i := 40) (v := .int .i64 x) rfl (by kernel_rfl) (by kernel_rfl) (by kernel_rfl) (fun _ _ _ h => h) (Or.inl ⟨by rfl, fun W hS => by have z0 := hS.gs.1; have z1 := hS.gs.2.1; have z2 := hS.gs.2.2; simp only at z0 z1 z2; clear hS hHeld; go_simp⟩) hHeld ?_
        try simp only [Act.put, List.setIfInBounds_toArray, List.set_cons_zero, List.set_cons_succ, List.getElem_toArray, List.getElem_cons_zero, List.getElem_cons_succ]
        refine wpAnyH_take (i := 42) (v := .agg #[va, vb, .bool br]) rfl (by kernel_rfl) (by kernel_rfl) (by kernel_rfl) (fun _ _ _ h => h) (Or.inl ⟨by rfl, fun W hS => by have z0 := hS.pl.xs.1; have z1 := hS.pl.xs.2.1; have z2 := hS.pl.xs.2.2; clear hS hHeld; go_simp⟩) hHeld ?_
        try simp only [Act.put, List.setIfInBounds_toArray, List.set_cons_zero, List.set_cons_succ, List.getElem_toArray, List.getElem_cons_zero, List.getElem_cons_succ]
        refine wpAnyH_take (i := 43) (v := .pointer (some ⟨g, 1, none⟩)) rfl (by kernel_rfl) (by kernel_rfl) (by kernel_rfl) (fun _ _ _ h => h) (Or.inl ⟨by rfl, fun W hS => by clear hS hHeld; go_simp⟩) hHeld ?_
        try simp only [Act.put, List.setIfInBounds_toArray, List.set_cons_zero, List.set_cons_succ, List.getElem_toArray, List.getElem_cons_zero, List.getElem_cons_succ]
        refine wpAnyH_take (i := 44) (v := .int .i64 x) rfl (by kernel_rfl) (by kernel_rfl) (by kernel_rfl) (fun _ _ _ h => h) (Or.inl ⟨by rfl, fun W hS => by have z0 := hS.gs.1; have z1 := hS.gs.2.1; have z2 := hS.gs.2.2; simp only at z0 z1 z2; clear hS hHeld; go_simp⟩) hHeld ?_
        try simp only [Act.put, List.setIfInBounds_toArray, List.set_cons_zero, List.set_cons_succ, List.getElem_toArray, List.getElem_cons_zero, List.getElem_cons_succ]
        refine wpAnyH_ready (rs := [41]) (by kernel_rfl) (by simp) ?_
        refine AllReadyH.cons rfl (fun K hK => ?_) AllReadyH.nil
        try simp only [Act.put, List.setIfInBounds_toArray, List.set_cons_zero, List.set_cons_succ, List.getElem_toArray, List.getElem_cons_zero, List.getElem_cons_succ]
        go_simp
        go_at_call 19
        refine (CHe.out _ hHeld).mono ?_
        rintro e wl9 ⟨vU, rfl, hN⟩
        obtain ⟨AU, nU, cU, rfl, hlU, hcU, hmU, hr, hbl⟩ := id hN
        have HLU := hide hlU
        have HRU := hide (hr.rd (B := wl9.heap.size) fun d hd => hd.2)
        clear hr hlU
        refine hK.out _ _ (hHeld.step hN.below) (fun hHeld2 => ?_)
        clear hK K hHeld
        have hHeld := hHeld2
        clear hHeld2
        try simp only [Act.put, List.setIfInBounds_toArray, List.set_cons_zero, List.set_cons_succ, List.getElem_toArray, List.getElem_cons_zero, List.getElem_cons_succ]
        clear hN hbl
        refine wpAnyH_ready (rs := [45]) (by kernel_rfl) (by simp) ?_
        refine AllReadyH.cons rfl (fun K hK => ?_) AllReadyH.nil
        try simp only [Act.put, List.setIfInBounds_toArray, List.set_cons_zero, List.set_cons_succ, List.getElem_toArray, List.getElem_cons_zero, List.getElem_cons_succ]
        go_simp
        go_at_call 20
        refine (CRHe.out _ hHeld).mono ?_
        rintro e wl10 ⟨vV, rfl, hN⟩
        obtain ⟨AV, nV, cV, rfl, hlV, hcV, hmV, hr, hbl⟩ := id hN
        have HLV := hide hlV
        have HRV := hide (hr.rd (B := wl10.heap.size) fun d hd => hd.2)
        clear hr hlV
        refine hK.out _ _ (hHeld.step hN.below) (fun hHeld2 => ?_)
        clear hK K hHeld
        have hHeld := hHeld2
        clear hHeld2
        try simp only [Act.put, List.setIfInBounds_toArray, List.set_cons_zero, List.set_cons_succ, List.getElem_toArray, List.getElem_cons_zero, List.getElem_cons_succ]
        have HRU := hide (HRU.out.at_world hbl)
        clear hN hbl
        refine wpAnyH_ready (rs := [46]) (by kernel_rfl) (by simp) ?_
        refine AllReadyH.cons rfl (fun K hK => ?_) AllReadyH.nil
        try simp only [Act.put, List.setIfInBounds_toArray, List.set_cons_zero, List.set_cons_succ, List.getElem_toArray, List.getElem_cons_zero, List.getElem_cons_succ]
        go_simp
        go_at_call 16
        refine (sameInts_any AU AV nU cU nV cV L2 L2 _ HRU.out HLU.out hcU hmU HRV.out HLV.out hcV hmV).mono ?_
        rintro e wl11 ⟨hev, hdw⟩
        have hev : e = .returned (.bool true) := hev.trans (by simp)
        subst hev
        refine hK.out _ _ (hHeld.step hdw.below) (fun hHeld2 => ?_)
        clear hK K hHeld
        have hHeld := hHeld2
        clear hHeld2
        try simp only [Act.put, List.setIfInBounds_toArray, List.set_cons_zero, List.set_cons_succ, List.getElem_toArray, List.getElem_cons_zero, List.getElem_cons_succ]
        clear hdw HRU HRV HLU HLV hcU hmU hcV hmV
        refine wpAnyH_take (i := 47) (v := .bool false) rfl (by kernel_rfl) (by kernel_rfl) (by kernel_rfl) (fun _ _ _ h => h) (Or.inl ⟨by rfl, fun W hS => by clear hS hHeld; go_simp⟩) hHeld ?_
        try simp only [Act.put, List.setIfInBounds_toArray, List.set_cons_zero, List.set_cons_succ, List.getElem_toArray, List.getElem_cons_zero, List.getElem_cons_succ]
        refine wpAnyH_take (i := 48) (v := .bool false) rfl (by kernel_rfl) (by kernel_rfl) (by kernel_rfl) (fun _ _ _ h => h) (Or.inl ⟨by rfl, fun W hS => by clear hS hHeld; go_simp⟩) hHeld ?_
        try simp only [Act.put, List.setIfInBounds_toArray, List.set_cons_zero, List.set_cons_succ, List.getElem_toArray, List.getElem_cons_zero, List.getElem_cons_succ]
        refine wpAnyH_done (by kernel_rfl) ?_ _
        have HF := hide hHeld
        clear hHeld
        go_wp2
        go_roundw
        case rel => exact ⟨k + 1, sa, sr, _, _, _, by omega, by go_num, HSim, HOk, HLen, hide HF.out.pl⟩
        case measure => simp [intOf]; omega
    · have hge : (len : Int) ≤ k := by omega
      go_wp2_with (go_at_call 5; refine (lives_any _).mono ?_; rintro e w2 ⟨rfl, hb2⟩; have hb3 := Below.step HPl.out.bel hb2)
      go_ret
      exact ⟨rfl, hb3⟩
end Go.Proofs.Ytknljldmjicfgaa
