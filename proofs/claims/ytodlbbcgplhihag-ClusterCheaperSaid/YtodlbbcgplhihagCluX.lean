/-
  The document's clusters: steps, runs. Conditions: the slices read as lists of int32s, not too many.
-/
import Derived.Test.YtodlbbcgplhihagCluW
namespace Go.Proofs.Ytodlbbcgplhihag
open Go.RowKit

set_option maxHeartbeats 4000000 in
set_option maxRecDepth 100000 in
theorem refStep_any (A B : Option Addr) (n c m d : Nat) (l cs : List (List Int)) (w : World) (hx : LL w w.heap.size A l) (hn : l.length = n) (hc : n ≤ c) (hm : c ≤ 9223372036854775807) (hi : ∀ v ∈ l, I32 v)
    (hy : LL w w.heap.size B cs) (hn' : cs.length = m) (hyi : ∀ u ∈ cs, I32 u ∧ u.length ≤ 1000000) (hd : m ≤ d) (hm' : d ≤ 9223372036854775807) (h6 : n ≤ 1000000) (h7 : m ≤ 1000000) (hl1 : ∀ v ∈ l, v.length ≤ 1000000) :
    Calls Try.prog 17 #[.slice A n c, .slice B m d] w (GivesL .i32 w (stepOfC l cs)) := by
  have HX := hide hx
  have HY := hide hy
  have HI := hide hi
  have HYI := hide hyi
  have Hn := hide hn
  have Hm := hide hn'
  have HL1 := hide hl1
  clear hx hy hi hyi hn hn' hl1
  go_enter Try.func17, Try.ntmps17
  go_wp2
  go_loopw [5, 13] (fun v i wr => ∃ (k : Nat) (hs : List Value), k ≤ m ∧ i = .int .i64 k ∧ Hid (OutR w wr v k hs ((stepOfC l cs).take k))) (fun _ i _ => m - (intOf i).toNat)
  case atStart => exact ⟨0, [], by omega, rfl, hide (OutR.start w)⟩
  case round =>
    obtain ⟨k, hs, hk, rfl, hO⟩ := hrel
    by_cases hlt : k < m
    · have hkc : k < cs.length := by rw [Hm.out]; exact hlt
      have hB := hide hO.out.hb
      obtain ⟨ad', u, A', c', rfl, _, hu, q0, q1, q2, q3⟩ := (HY.out.below hB.out (Nat.le_refl _)).slc (k := k) (by have := Hm.out; omega)
      have hui := hide (i32_get (fun v hv => (HYI.out v hv).1) hu)
      have hul := (HYI.out u (List.mem_of_getElem? hu)).2
      have HQ := hide (show I32s wr wr.heap.size A' u from q3.more hB.out.size)
      have HM := hide (refMembers_any A (some ad') n c m d l cs k wr (HX.out.at_world hB.out) Hn.out hc hm HI.out (HY.out.at_world hB.out) Hm.out (fun v hv => (HYI.out v hv).1) hd hm' h6)
      have HU := hide (cAt_of hu)
      have Hgi := hide (memb_i32 (cs := cs) (i := k) HI.out)
      have Hgl := hide (memb_len (cs := cs) (i := k) HL1.out)
      have hgn : (memb l cs k).length ≤ 1000000 := by have := memb_le l cs k; have := Hn.out; omega
      have HT := hide (show (stepOfC l cs).take (k + 1) = (stepOfC l cs).take k ++ [moveC (memb l cs k) u] by rw [step_take hkc, HU.out])
      have g0 : (0 : Int) ≤ k := by omega
      have g1 : (k : Int) < m := by omega
      clear hu q3
      go_upto_region 7 with (first
        | (go_at_call 31; refine HM.out.mono ?_; rintro e w4 ⟨A4, n4, c4, rfl, l4, a1, a2, R4, b4⟩; have L4 := hide l4; have RR4 := hide R4; have B4 := hide b4; have h4n : n4 ≤ 1000000 := (by rw [← l4]; exact hgn); clear l4 R4 b4)
        | (go_at_call 32; refine (refMean_any A4 n4 c4 (memb l cs k) _ RR4.out L4.out a1 a2 Hgi.out h4n Hgl.out).mono ?_; rintro e w5 ⟨v5, rfl, A5, n5, c5, rfl, l5, a3, a4, R5, b5⟩; have L5 := hide l5; have RR5 := hide R5; have B5 := hide b5; clear l5 R5 b5))
      have O5 := hide ((hO.out.below B4.out).below B5.out)
      have O5f := hide ((hO.out.below B4.out).fresh B5.out RR5.out)
      have HG5 := hide (RR4.out.at_world B5.out)
      have HU5 := hide (HQ.out.at_world (Below.step B4.out B5.out))
      have HM5 := hide (show Rd (Sh.int .i32) w5 w5.heap.size A5 (meanR (memb l cs k)) from RR5.out.rd fun b hb => hb.2)
      have ho := hide (World.ownsRow_lit (base := w5.heap.size) (e := 21) (size := 1) w5 #[] 0 (Nat.le_refl _) (by simp [maxLen]) rfl)
      cases hmB : meanB (memb l cs k)
      · have hme : meanE (memb l cs k) = 7 := by unfold meanE; rw [hmB]; rfl
        have HMC := hide (moveC_none (c := u) hmB)
        clear hmB
        go_wp2_with (first
          | (at_builtin; refine wpList_append_ints rfl (.tmp 43) (.tmp 44) 27 rfl w5.heap.size Try.underlying27 info_i32 rfl _ 0 [] rfl ho.out w5.heap.size _ u.length c' u rfl (HU5.out.alloc (Nat.le_refl _) _) rfl (by simp only [maxLen]; omega) (by omega) (by simp) ?_; intro v' w8 hown8 hgr8 hat8; simp only [Nat.zero_add, List.nil_append] at hown8; obtain ⟨A8, c8, rfl, o1, o2⟩ := own_form hown8; have B8 := hide (below_own ((Below.refl w5.heap.size w5).alloc (Nat.le_refl _) _) ho.out (by simp) hgr8); have O8 := hide (O5.out.below B8.out); have R8 := hide (O5.out.fresh B8.out (intR_own hown8)); clear hown8 hgr8 hat8)
          | (at_builtin; refine wpList_append_elem rfl (.tmp 42) (.tmp 46) 22 rfl w.heap.size Try.underlying22 info_sl rfl (by decide) _ k hs rfl O8.out.own _ _ rfl rfl (by simp [Value.oneCell']) (by simp only [maxLen]; omega) (by omega) O8.out.hb.size ?_; intro v' w9 hown9 hgr9 hat9; have O9 := hide (O8.out.push rfl o1 o2 R8.out hown9 hgr9 hat9); clear hown9 hgr9 hat9))
        go_roundw
        case rel => exact ⟨k + 1, _, by omega, by go_num, hide (by have := O9.out; rw [HT.out, HMC.out]; exact this)⟩
        case measure => simp [intOf]; omega
      · have hme : meanE (memb l cs k) = 0 := by unfold meanE; rw [hmB]; rfl
        have HMB := hide hmB
        have HMY := hide (moveC_yes (c := u) hmB)
        have HMN := hide (moveC_no (g := memb l cs k) (c := u))
        have S1 := hide (refSum_any A4 A5 n4 c4 n5 c5 (memb l cs k) (meanR (memb l cs k)) w5 HG5.out L4.out a1 a2 Hgi.out HM5.out L5.out (meanR_i32 Hgi.out hmB) a3 a4)
        have S2 := hide (refSum_any A4 A' n4 c4 u.length c' (memb l cs k) u w5 HG5.out L4.out a1 a2 Hgi.out HU5.out rfl hui.out q1 q2)
        clear hmB
        generalize held (farOf (memb l cs k) (meanR (memb l cs k))) = p at *
        generalize held (farOf (memb l cs k) u) = r at *
        by_cases hcmp : p < r
        · have hdc : decide (p < r) = true := decide_eq_true hcmp
          have HMV := hide (HMY.out hcmp)
          go_wp2_with (first
            | (go_at_call 30; (first | (with_reducible refine Calls.mono S1.out ?_) | (with_reducible refine Calls.mono S2.out ?_)); rintro e _ ⟨rfl, rfl⟩)
            | (at_builtin; refine wpList_append_elem rfl (.tmp 38) (.tmp 40) 22 rfl w.heap.size Try.underlying22 info_sl rfl (by decide) _ k hs rfl O5.out.own _ _ rfl rfl (by simp [Value.oneCell']) (by simp only [maxLen]; omega) (by omega) O5.out.hb.size ?_; intro v' w9 hown9 hgr9 hat9; have O9 := hide (O5.out.push L5.out a3 a4 O5f.out hown9 hgr9 hat9); clear hown9 hgr9 hat9))
          go_roundw
          case rel => exact ⟨k + 1, _, by omega, by go_num, hide (by have := O9.out; rw [HT.out, HMV.out]; exact this)⟩
          case measure => simp [intOf]; omega
        · have hdc : decide (p < r) = false := decide_eq_false hcmp
          have HMV := hide (HMN.out hcmp)
          go_wp2_with (first
            | (go_at_call 30; (first | (with_reducible refine Calls.mono S1.out ?_) | (with_reducible refine Calls.mono S2.out ?_)); rintro e _ ⟨rfl, rfl⟩)
            | (at_builtin; refine wpList_append_ints rfl (.tmp 43) (.tmp 44) 27 rfl w5.heap.size Try.underlying27 info_i32 rfl _ 0 [] rfl ho.out w5.heap.size _ u.length c' u rfl (HU5.out.alloc (Nat.le_refl _) _) rfl (by simp only [maxLen]; omega) (by omega) (by simp) ?_; intro v' w8 hown8 hgr8 hat8; simp only [Nat.zero_add, List.nil_append] at hown8; obtain ⟨A8, c8, rfl, o1, o2⟩ := own_form hown8; have B8 := hide (below_own ((Below.refl w5.heap.size w5).alloc (Nat.le_refl _) _) ho.out (by simp) hgr8); have O8 := hide (O5.out.below B8.out); have R8 := hide (O5.out.fresh B8.out (intR_own hown8)); clear hown8 hgr8 hat8)
            | (at_builtin; refine wpList_append_elem rfl (.tmp 42) (.tmp 46) 22 rfl w.heap.size Try.underlying22 info_sl rfl (by decide) _ k hs rfl O8.out.own _ _ rfl rfl (by simp [Value.oneCell']) (by simp only [maxLen]; omega) (by omega) O8.out.hb.size ?_; intro v' w9 hown9 hgr9 hat9; have O9 := hide (O8.out.push rfl o1 o2 R8.out hown9 hgr9 hat9); clear hown9 hgr9 hat9))
          go_roundw
          case rel => exact ⟨k + 1, _, by omega, by go_num, hide (by have := O9.out; rw [HT.out, HMV.out]; exact this)⟩
          case measure => simp [intOf]; omega
    · obtain rfl : m = k := by omega
      have hlen : (stepOfC l cs).length = m := by rw [stepC_len, Hm.out]
      have hf := hO.out.gives
      rw [← hlen, List.take_length] at hf
      have HF := hide hf
      clear hf hlen
      go_wp2
      go_ret
      exact ⟨_, rfl, HF.out⟩
end Go.Proofs.Ytodlbbcgplhihag
