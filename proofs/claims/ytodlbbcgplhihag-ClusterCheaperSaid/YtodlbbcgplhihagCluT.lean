/-
  The package cluster: a step of the centers. Conditions: the slices read as lists of int32s, not too many.
-/
import Derived.Test.YtodlbbcgplhihagCluS
import Derived.Deep.RegionLaw
namespace Go.Proofs.Ytodlbbcgplhihag
open Go.RowKit

theorem info_sl : (Try.prog.info? 27).map (fun i => (i.zero, i.size, i.bytes)) = some (some (.slice none 0 0), 1, 24) := by kernel_rfl
theorem info_sl2 : (Try.prog.info? 22).map (fun i => (i.zero, i.size, i.bytes)) = some (some (.slice none 0 0), 1, 24) := by kernel_rfl
theorem kept_to {w1 wr : World} {M K q : Nat} {V : Nat → Value} {l cs : List (List Int)} {hs : List Value} {k : Nat} {u : Value} (hq : best (cAt l k) cs = q) (hd : hdAt hs k = u)
    (h : Kept w1 (wr.drewN 0) M K V (upd (fun i => (ofGroup l cs i k).map (hdAt hs)) q ((ofGroup l cs q k).map (hdAt hs) ++ [u]))) : Kept w1 wr M K V (fun i => (ofGroup l cs i (k + 1)).map (hdAt hs)) := by
  have e : (fun i => (ofGroup l cs i (k + 1)).map (hdAt hs)) = upd (fun i => (ofGroup l cs i k).map (hdAt hs)) q ((ofGroup l cs q k).map (hdAt hs) ++ [u]) := by
    funext i
    rw [ofGroup_next, hq]
    by_cases e : i = q
    · subst e; rw [upd_at]; simp [hd]
    · rw [upd_ne _ e, if_neg (Ne.symm e)]; simp
  rw [e]
  exact h
theorem kept_start {w : World} {K : Nat} {w1 : World} (hb : Below (w.alloc (.cells (rep K (.slice none 0 0)) 22)).heap.size (w.alloc (.cells (rep K (.slice none 0 0)) 22)) w1) :
    Kept w1 w1 w.heap.size K (fun _ => .slice none 0 0) (fun _ => []) :=
  ⟨by rw [← vals_nil]; exact (Blk.new w _ _).below hb (by simp), fun i hi => ⟨rfl, .inl ⟨rfl, rfl⟩⟩, fun i j b hi hj hne h => by simp [Value.ownBlock] at h, World.grownBy.refl _ _, by have := hb.size; simp at this; omega⟩
set_option maxHeartbeats 4000000 in
set_option maxRecDepth 100000 in
theorem step_any (A B : Option Addr) (n c m d : Nat) (l cs : List (List Int)) (w : World) (hx : LL w w.heap.size A l) (hn : l.length = n) (hc : n ≤ c) (hm : c ≤ 9223372036854775807) (hi : ∀ v ∈ l, I32 v)
    (hy : LL w w.heap.size B cs) (hn' : cs.length = m) (hyi : ∀ u ∈ cs, I32 u) (hd : m ≤ d) (hm' : d ≤ 9223372036854775807) (h6 : n ≤ 1000000) (h7 : m ≤ 1000000) (hl1 : ∀ v ∈ l, v.length ≤ 1000000) (hl2 : ∀ u ∈ cs, u.length ≤ 1000000) :
    Calls Try.prog 9 #[.slice A n c, .slice B m d] w (GivesL .i32 w (stepOfC l cs)) := by
  have HX := hide hx
  have HY := hide hy
  have HI := hide hi
  have HYI := hide hyi
  have Hn := hide hn
  have Hm := hide hn'
  have HL1 := hide hl1
  have HL2 := hide hl2
  obtain ⟨hs, hh1, hh2⟩ := LL.hdrs hx
  have HH := hide hh1
  have HC := hide hh2
  have hmk := fun W => run_make_rep (P := Try.prog) Try.underlying42 (e := 22) (z := .slice none 0 0) (by_ := 24) (by kernel_rfl) rfl .i64 .i64 m m (Nat.le_refl _) (by omega) (by omega) W
  clear hx hy hi hyi hn hn' hl1 hl2 hh1 hh2
  go_enter Try.func9, Try.ntmps9
  go_wp2_with fail
  have hbM := below1 w (.cells (rep m (.slice none 0 0)) 22)
  refine (groups_any A B n c m d l cs _ (HX.out.at_world hbM) Hn.out hc hm HI.out (HY.out.at_world hbM) Hm.out HYI.out hd hm' h6).mono ?_
  rintro e w1 ⟨vG, rfl, AG, nG, cG, rfl, lG, g1, g2, RG, hb1⟩
  have K0 := hide (kept_start hb1)
  have HB1 := hide (Below.step hbM hb1)
  have HG := hide (show Rd (Sh.int .i64) w1 w1.heap.size AG (groupsOf l cs) from RG.rd fun b hb => hb.2)
  have HGM := hide (show RdR (Sh.int .i64) w1 (fun b => b < w1.heap.size ∧ b ≠ w.heap.size) AG (groupsOf l cs) from RG.more fun b hb => ⟨hb.2, by have := hb.1; simp at this; omega⟩)
  have LG := hide lG
  have hng : nG ≤ n := by
    rw [← lG]; unfold groupsOf; split
    · simp
    · simp; exact Nat.le_of_eq Hn.out
  clear hb1 RG lG hbM hmk
  go_wp2_with fail
  go_loopw [20] (fun i wr => ∃ (k : Nat) (V : Nat → Value), k ≤ nG ∧ i = .int .i64 k ∧ Hid (Kept w1 wr w.heap.size m V (fun i => (ofGroup l cs i k).map (hdAt hs)))) (fun i _ => nG - (intOf i).toNat)
  case atStart => exact ⟨0, _, by omega, rfl, K0⟩
  case round =>
    obtain ⟨k, V, hk, rfl, hK⟩ := hrel
    clear K0
    by_cases hlt : k < nG
    · obtain ⟨adG, x, rfl, hbx, hx1, c1⟩ := HGM.out.icell (k := k) (by have := LG.out; omega)
      have hcs : cs ≠ [] := by rintro rfl; have := LG.out; simp [groupsOf] at this; omega
      have hkl : k < l.length := by have := Hn.out; omega
      have hxq : x = (best (cAt l k) cs : Int) := by
        have := hx1
        unfold groupsOf at this
        rw [if_neg hcs, List.getElem?_map, List.getElem?_eq_getElem hkl] at this
        simp at this
        rw [← this]; simp [cAt, List.getD_eq_getElem?_getD, hkl]
      subst hxq
      have hql : best (cAt l k) cs < m := by rw [← Hm.out]; exact bestTo_lt _ _ _ (List.length_pos_iff.2 hcs)
      generalize hq : best (cAt l k) cs = q at *
      have hgl : k < hs.length := by rw [HH.out.1]; exact hkl
      obtain ⟨adA, rfl, hbA, cA⟩ := HC.out k (hs[k]) (List.getElem?_eq_getElem hgl)
      have hd1 : hdAt hs k = hs[k] := by simp [hdAt, List.getD_eq_getElem?_getD, hgl]
      obtain ⟨A', c', hA', a1, a2, _⟩ := HH.out.2 k (cAt l k) (by simp [cAt, List.getD_eq_getElem?_getD, hkl])
      have hd2 : hs[k] = .slice A' (cAt l k).length c' := by rw [List.getElem?_eq_getElem hgl] at hA'; injection hA'
      rw [hd2] at cA hd1
      have HD := hide hd1
      have hkw : ∀ b, b < w1.heap.size → b ≠ w.heap.size → wr.heap[b]? = w1.heap[b]? := fun b h1 h2 => hK.out.only.block b h1 (fun e => h2 (by injection e))
      have cG : wr.cell? (adG.add k) = some (.int .i64 q) := (World.cell?_of_block (hkw _ (by rw [block_of_add]; exact hbx.1) (by rw [block_of_add]; exact hbx.2))).trans c1
      have cA' : wr.cell? (adA.add k) = some (.slice A' (cAt l k).length c') := ((World.cell?_of_block (hkw _ (by rw [block_of_add]; have := HB1.out.size; omega) (by rw [block_of_add]; omega))).trans (HB1.out.cell (by rw [block_of_add]; exact hbA))).trans cA
      have cM : wr.cell? ⟨w.heap.size, q, none⟩ = some (V q) := by rw [hK.out.blk.cell, vals_get hql]
      have fM := hK.out.blk.frozen q
      obtain ⟨AV, cV, eV, v1, v2⟩ := own_form (hK.out.own q hql)
      have HO := hide (hK.out.own q hql)
      rw [List.length_map] at eV HO v1
      rw [eV] at cM HO
      have EV := hide eV
      clear eV hA' hd2
      have hlen := ofGroup_len l cs q k
      have k0 : (0 : Int) ≤ k := by omega
      have k1 : (k : Int) < nG := by omega
      have k2 : (k : Int) < n := by omega
      have q0 : (0 : Int) ≤ q := by omega
      have q1 : (q : Int) < m := by omega
      have HQ := hide hq
      clear hx1 c1 cA hd1 hkw hcs hq
      obtain ⟨i0, hi0, hz0, hz1, hz2⟩ := info_parts info_sl
      generalize hlv : (cAt l k).length = lv at *
      generalize hlo : (ofGroup l cs q k).length = lo at *
      have HLO := hide hlo
      clear hlv hlo
      have cMa : (wr.alloc (.cells #[.slice A' lv c'] 27)).cell? ⟨w.heap.size, q, none⟩ = some (.slice AV lo cV) := (World.cell?_alloc_lt wr _ ⟨w.heap.size, q, none⟩ hK.out.blk.lt).trans cM
      go_upto_region 5 with fail
      go_region_law ((refine step_append_any _ rfl (.tmp 30) (.tmp 35) 22 rfl w1.heap.size 27 i0 _ 1 24 Try.underlying22 hi0 hz0 hz1 hz2 rfl (by decide) (.slice AV lo cV) lo _ rfl (own_keep (HO.out.alloc _) fun _ _ => rfl) _ _ 1 1 [.slice A' lv c'] rfl (reads_new1 wr _ _) (by simp [Value.oneCell']) (by simp only [maxLen]; omega) (by omega) (by have := hK.out.only.size; simp; omega) ?_; intro v' w9 hown9 hgr9 hat9; obtain ⟨A9, c9, rfl, o1, o2⟩ := own_form hown9; rw [← EV.out] at hgr9 hat9; obtain ⟨cM9, fM9⟩ := hK.out.app hql hgr9 cM; have HO9 := hide hown9; have HG9 := hide hgr9; have HA9 := hide hat9; clear hown9 hgr9 hat9))
      all_goals
        go_wp2
        go_roundw
        case rel =>
          have hp := hK.out.push hql (n := 0) (o := .cells #[.slice A' lv c'] 27) (v' := .slice A9 (lo + 1) c9) (u := .slice A' lv c') (by rw [List.length_map, HLO.out]; exact HO9.out) (grown_undrew HG9.out) (by have := HA9.out; simpa using this)
          exact ⟨k + 1, upd V q (.slice A9 (lo + 1) c9), by omega, by go_num, hide (kept_to HQ.out HD.out hp)⟩
        case measure => simp [intOf]; omega
    · obtain rfl : nG = k := by omega
      have hgl : cs ≠ [] → nG = n := fun h => by have := LG.out; unfold groupsOf at this; rw [if_neg h] at this; simp at this; have := Hn.out; omega
      have hmk2 := fun W => run_make_rep (P := Try.prog) Try.underlying22 (e := 27) (z := .slice none 0 0) (by_ := 24) (by kernel_rfl) rfl .i64 .i64 m m (Nat.le_refl _) (by omega) (by omega) W
      have HB2 := hide (show Below w.heap.size w wr from ⟨hK.out.only.os.trans HB1.out.os, hK.out.only.tape.trans HB1.out.tape, hK.out.only.output.trans HB1.out.output, Nat.le_trans HB1.out.size hK.out.only.size, fun b hb => (hK.out.only.block b (by have := HB1.out.size; omega) (by intro e; injection e with e; omega)).trans (HB1.out.block b hb)⟩)
      have HBa := hide (below1 wr (.cells (rep m (.slice none 0 0)) 27))
      have S0 := hide (show Blk (wr.alloc (.cells (rep m (.slice none 0 0)) 27)) wr.heap.size 27 (rep m (.slice none 0 0)) from Blk.new _ _ _)
      have HGL := hide hgl
      clear hgl
      go_upto_region 9 with fail
      clear hmk2
      generalize wr.alloc (.cells (rep m (.slice none 0 0)) 27) = w2 at *
      generalize hO : wr.heap.size = O at *
      have HOE := hide hO
      clear hO
      have E0 := hide (show Outs w2 w2 O ([] ++ List.replicate (m - 0) (.slice none 0 0)) [] ((stepOfC l cs).take 0) from ⟨Below.refl _ _, by have := S0.out; simpa [rep] using this, HdR.nil⟩)
      have MEM : Hid (∀ i, i < m → ∀ W, Below O w2 W → ∃ Ag cg, W.cell? ⟨w.heap.size, i, none⟩ = some (.slice Ag (memb l cs i).length cg) ∧ (memb l cs i).length ≤ cg ∧ cg ≤ 9223372036854775807 ∧ LL W W.heap.size Ag (memb l cs i)) := hide (fun i hi W hW => by
        have hcs : cs ≠ [] := by rintro rfl; have := Hm.out; simp at this; omega
        have hn1 : nG = l.length := by rw [HGL.out hcs, Hn.out]
        have hk' := hK.out
        rw [hn1] at hk'
        obtain ⟨Ag, cg, e, e1, e2, e3⟩ := hk'.mem HH.out HB2.out hi
        have hall : Below O wr W := HBa.out.trans hW
        refine ⟨Ag, cg, ?_, e1, e2, (e3.below hall (Nat.le_of_eq HOE.out)).more hall.size⟩
        rw [hall.cell (p := ⟨w.heap.size, i, none⟩) (by show w.heap.size < O; rw [← HOE.out]; exact hk'.blk.lt), hk'.blk.cell, vals_get hi, e])
      have hwO : w.heap.size < O := by rw [← HOE.out]; exact hK.out.blk.lt
      have HW2 := hide (show Below w.heap.size w w2 from HB2.out.trans (HBa.out.mono (Nat.le_of_lt hwO)))
      clear S0
      go_loopw [44] (fun i wr => ∃ (k : Nat) (hs2 : List Value), k ≤ m ∧ i = .int .i64 k ∧ Hid (hs2.length = k ∧ Outs w2 wr O (hs2 ++ List.replicate (m - k) (.slice none 0 0)) hs2 ((stepOfC l cs).take k))) (fun i _ => m - (intOf i).toNat)
      case atStart => exact ⟨0, [], by omega, rfl, hide ⟨rfl, E0.out⟩⟩
      case round =>
        obtain ⟨k, hs2, hk, rfl, hE⟩ := hrel
        clear E0
        by_cases hlt : k < m
        · have hkc : k < cs.length := by rw [Hm.out]; exact hlt
          have HWr := hide (show Below w.heap.size w wr from HW2.out.trans (hE.out.2.hb.mono (Nat.le_of_lt hwO)))
          obtain ⟨adB, u, A', c', rfl, hbB, hu, q0, q1, q2, q3⟩ := (HY.out.below HWr.out (Nat.le_refl _)).slc (k := k) (by have := Hm.out; omega)
          have HU := hide (cAt_of hu)
          have hui := hide (i32_get HYI.out hu)
          have hul := HL2.out u (List.mem_of_getElem? hu)
          have HQ := hide (show I32s wr w.heap.size A' u from q3)
          have g0 : (0 : Int) ≤ k := by omega
          have g1 : (k : Int) < m := by omega
          clear hu q3
          go_upto_region 11 with fail
          go_wp2_with fail
          refine (clone_any A' u.length c' u wr (HQ.out.more HWr.out.size) rfl hul).mono ?_
          rintro e w3 ⟨v3, rfl, A3, n3, c3, rfl, l3, d1, d2, R3, b3⟩
          have E3 := hE.out.2.below b3
          have hO3 : w3.cell? ⟨O, k, none⟩ = some (.slice none 0 0) := by rw [E3.blk.cell]; simpa using cells_at hE.out.1 hlt (.slice none 0 0)
          have fO3 := E3.blk.frozen k
          have hOr : O < wr.heap.size := hE.out.2.blk.lt
          have hMO : w.heap.size ≠ O := by omega
          have E3s := hide ((E3.snoc l3 d1 d2 (R3.more fun b hb => ⟨by have := hb.1; omega, hb.2⟩)).store k (.slice A3 n3 c3))
          have E3p := hide (E3.store k (.slice A3 n3 c3))
          have B3 := hide b3
          have B4 := hide ((b3.mono HWr.out.size).trans ((Below.refl w.heap.size w3).setCell (p := ⟨O, k, none⟩) (Nat.le_of_lt hwO) (.slice A3 n3 c3)))
          clear E3 R3 l3 b3
          go_upto_region 12 with fail
          generalize w3.setCell ⟨O, k, none⟩ (.slice A3 n3 c3) = w4 at *
          obtain ⟨Ag, cg, m0, m1, m2, m3⟩ := MEM.out k hlt w4 E3p.out.hb
          have M3 := hide m3
          have hgl : (memb l cs k).length ≤ n := by rw [← Hn.out]; exact memb_le _ _ _
          have Hgi := hide (memb_i32 (cs := cs) (i := k) HI.out)
          have Hgl := hide (memb_len (cs := cs) (i := k) HL1.out)
          clear m3 hO3 fO3
          go_wp2_with (go_at_call 22; refine (mean_any Ag _ cg (memb l cs k) w4 M3.out rfl m1 m2 Hgi.out (by omega) Hgl.out).mono ?_; rintro e w5 ⟨vm, rfl, Am, nm, cm, rfl, lm, dm1, dm2, Rm, bm⟩; have LM := hide lm; have RM := hide Rm; have BM := hide bm; clear lm Rm bm)
          have E5s := hide (E3s.out.below BM.out)
          have E5p := hide (E3p.out.below BM.out)
          have finish : Hid (∀ (W : World) (x : Value), (∃ hs3, hs3.length = k ∧ Outs w2 W O ((hs3 ++ [x]) ++ List.replicate (m - (k + 1)) (.slice none 0 0)) (hs3 ++ [x]) ((stepOfC l cs).take k ++ [moveC (memb l cs k) (cAt cs k)])) → ∃ (hs2 : List Value), hs2.length = k + 1 ∧ Outs w2 W O (hs2 ++ List.replicate (m - (k + 1)) (.slice none 0 0)) hs2 ((stepOfC l cs).take (k + 1))) := hide (fun W x ⟨hs3, h1, h2⟩ =>
            ⟨hs3 ++ [x], by simp [h1], by rw [step_take hkc]; exact h2⟩)
          have hset : Hid (∀ x : Value, (hs2 ++ List.replicate (m - k) (Value.slice none 0 0)).set k x = (hs2 ++ [x]) ++ List.replicate (m - (k + 1)) (Value.slice none 0 0)) := hide (fun x => cells_set hE.out.1 hlt _ x)
          cases hmB : meanB (memb l cs k)
          · have hme : meanE (memb l cs k) = 7 := by unfold meanE; rw [hmB]; rfl
            have HM := hide (moveC_none (c := cAt cs k) hmB)
            clear hmB
            go_quiet (fail)
            go_wp2
            go_roundw
            case rel =>
              have hf := E5s.out.below (below_drewN (Below.refl w5.heap.size w5) nq)
              rw [hset.out, ← HU.out] at hf
              obtain ⟨hs4, hf1, hf2⟩ := finish.out _ _ ⟨hs2, hE.out.1, by rw [HM.out]; exact hf⟩
              exact ⟨k + 1, hs4, by omega, by go_num, hide ⟨hf1, hf2⟩⟩
            case measure => simp [intOf]; omega
          · have hme : meanE (memb l cs k) = 0 := by unfold meanE; rw [hmB]; rfl
            have HMB := hide hmB
            obtain ⟨Ag', cg', n0, _⟩ := MEM.out k hlt w5 E5p.out.hb
            have cM5 : w5.cell? ⟨w.heap.size, k, none⟩ = some (.slice Ag (memb l cs k).length cg) := (BM.out.cell (p := ⟨w.heap.size, k, none⟩) (by have := E3p.out.blk.lt; show w.heap.size < w4.heap.size; omega)).trans m0
            have lm5 : w.heap.size < w5.heap.size := by have := E5p.out.blk.lt; omega
            have FAR1 : Hid (∀ W, Below w5.heap.size w5 W → Calls Try.prog 23 #[.slice Ag (memb l cs k).length cg, .slice Am nm cm] W fun e w' => e = .returned (.int .u64 (held (farOf (memb l cs k) (meanR (memb l cs k))))) ∧ Below w5.heap.size w5 w') := hide (fun W hW =>
              (far_any Ag Am _ cg nm cm (memb l cs k) (meanR (memb l cs k)) W (((M3.out.below BM.out (Nat.le_refl _)).more BM.out.size).at_world hW) rfl m1 m2 Hgi.out ((RM.out.rd (B := w5.heap.size) fun b hb => hb.2).at_world hW) LM.out (meanR_i32 Hgi.out HMB.out) dm1 dm2).mono fun e w' ⟨h1, h2⟩ => ⟨h1, Below.step hW h2⟩)
            have FAR2 : Hid (∀ W, Below w5.heap.size w5 W → Calls Try.prog 23 #[.slice Ag (memb l cs k).length cg, .slice A' u.length c'] W fun e w' => e = .returned (.int .u64 (held (farOf (memb l cs k) u))) ∧ Below w5.heap.size w5 w') := hide (fun W hW =>
              (far_any Ag A' _ cg u.length c' (memb l cs k) u W (((M3.out.below BM.out (Nat.le_refl _)).more BM.out.size).at_world hW) rfl m1 m2 Hgi.out ((HQ.out.below (show Below w.heap.size wr w5 from B4.out.trans (BM.out.mono (by have := E3p.out.blk.lt; omega))) (Nat.le_refl _) |>.more (Nat.le_of_lt lm5)).at_world hW) rfl hui.out q1 q2).mono fun e w' ⟨h1, h2⟩ => ⟨h1, Below.step hW h2⟩)
            have HMY := hide (moveC_yes (c := u) hmB)
            have HMN := hide (moveC_no (g := memb l cs k) (c := u))
            clear hmB n0
            generalize held (farOf (memb l cs k) (meanR (memb l cs k))) = p at *
            generalize held (farOf (memb l cs k) u) = r at *
            have k0 : w5.drew.cell? ⟨w.heap.size, k, none⟩ = some (.slice Ag (memb l cs k).length cg) ∧ Below w5.heap.size w5 w5.drew := ⟨cM5, (Below.refl _ _).drew⟩
            have KEEP : ∀ W, Below w5.heap.size w5 W → W.cell? ⟨w.heap.size, k, none⟩ = some (.slice Ag (memb l cs k).length cg) ∧ Below w5.heap.size w5 W := fun W hW => ⟨(hW.cell (p := ⟨w.heap.size, k, none⟩) lm5).trans cM5, hW⟩
            have HK := hide KEEP
            have HC5 := hide cM5
            clear KEEP cM5
            by_cases hcmp : p < r
            · have hdc : decide (p < r) = true := decide_eq_true hcmp
              go_region_held3 (fun w' => w'.cell? ⟨w.heap.size, k, none⟩ = some (.slice Ag (memb l cs k).length cg) ∧ Below w5.heap.size w5 w') (first | assumption | exact HK.out _ (by assumption))
                ((go_at_call 23; (first | (with_reducible refine Calls.mono (FAR1.out _ ?hb1) ?_; case hb1 => exact And.right (by assumption)) | (with_reducible refine Calls.mono (FAR2.out _ ?hb2) ?_; case hb2 => exact And.right (by assumption))); rintro e w6 ⟨rfl, hb6⟩))
              all_goals
                have B6 := hide (show Below w5.heap.size w5 w6 by assumption)
                have E6s := hide (E5p.out.below B6.out)
                have hO6 : w6.cell? ⟨O, k, none⟩ = some (.slice A3 n3 c3) := by rw [E6s.out.blk.cell]; rw [hset.out]; simp [hE.out.1]
                have fO6 := E6s.out.blk.frozen k
                have E7 := hide ((E6s.out.snoc LM.out dm1 dm2 ((RM.out.keepBlocks fun b hb => B6.out.block b hb.2).more fun b hb => ⟨by have := hb.1; have := E3p.out.blk.lt; omega, Nat.lt_of_lt_of_le hb.2 B6.out.size⟩)).store k (.slice Am nm cm))
                have HMV := hide (HMY.out hcmp)
                go_wp2
                go_roundw
                case rel =>
                  have hf := E7.out
                  rw [hset.out, List.append_assoc] at hf
                  have hf2 : (hs2 ++ ([Value.slice A3 n3 c3] ++ List.replicate (m - (k + 1)) (Value.slice none 0 0))).set k (.slice Am nm cm) = (hs2 ++ [Value.slice Am nm cm]) ++ List.replicate (m - (k + 1)) (Value.slice none 0 0) := by
                    rw [List.set_append_right _ _ (by rw [hE.out.1]; exact Nat.le_refl _), hE.out.1, Nat.sub_self]; simp
                  rw [hf2, ← HMV.out, ← HU.out] at hf
                  obtain ⟨hs4, hf1, hf3⟩ := finish.out _ _ ⟨hs2, hE.out.1, hf⟩
                  exact ⟨k + 1, hs4, by omega, by go_num, hide ⟨hf1, hf3⟩⟩
                case measure => simp [intOf]; omega
            · have hdc : decide (p < r) = false := decide_eq_false hcmp
              go_region_held3 (fun w' => w'.cell? ⟨w.heap.size, k, none⟩ = some (.slice Ag (memb l cs k).length cg) ∧ Below w5.heap.size w5 w') (first | assumption | exact HK.out _ (by assumption))
                ((go_at_call 23; (first | (with_reducible refine Calls.mono (FAR1.out _ ?hb1) ?_; case hb1 => exact And.right (by assumption)) | (with_reducible refine Calls.mono (FAR2.out _ ?hb2) ?_; case hb2 => exact And.right (by assumption))); rintro e w6 ⟨rfl, hb6⟩))
              all_goals
                have B6 := hide (show Below w5.heap.size w5 w6 by assumption)
                have HMV := hide (HMN.out hcmp)
                go_wp2
                go_roundw
                case rel =>
                  have hf := E5s.out.below B6.out
                  rw [hset.out, ← HU.out] at hf
                  obtain ⟨hs4, hf1, hf2⟩ := finish.out _ _ ⟨hs2, hE.out.1, by rw [HU.out, HMV.out, ← HU.out]; exact hf⟩
                  exact ⟨k + 1, hs4, by omega, by go_num, hide ⟨hf1, hf2⟩⟩
                case measure => simp [intOf]; omega
        · obtain rfl : m = k := by omega
          have hlen : (stepOfC l cs).length = m := by unfold stepOfC; simp [Hm.out]
          have hf := hE.out.2
          rw [Nat.sub_self, List.replicate_zero, List.append_nil, ← hlen, List.take_length] at hf
          have HF := hide hf
          have HLN := hide hlen
          clear hf hlen
          go_wp2
          go_ret
          exact ⟨_, rfl, _, _, _, rfl, HLN.out, Nat.le_refl _, by omega,
            (HF.out.hd.more (R' := Btw w.heap.size wr.heap.size) fun b hb => ⟨by have := hb.1; omega, hb.2⟩).blk HF.out.blk (by simp) ⟨Nat.le_of_lt hwO, HF.out.blk.lt⟩,
            HW2.out.trans (HF.out.hb.mono (Nat.le_of_lt hwO))⟩
end Go.Proofs.Ytodlbbcgplhihag
