/-
  The reference's tables: Ring. Conditions: the lists read as said; a chain that comes back does so soon.
-/
import Derived.Test.YtknljldmjicfgaaLckG
namespace Go.Proofs.Ytknljldmjicfgaa
open Go.RowKit

/-- the reference's chain from k is under way -/
structure ChainR (w wr : World) (s : Tab) (k : Nat) (v : Value) (l : List Int) (at_ : Int) : Prop where
  own : wr.ownsRow w.heap.size 3 1 v l.length (l.map (Value.int .i64))
  le : l.length ≤ 66
  ch : chainF (nextF s) k 65 [(k : Int)] (nextF s k) = chainR (nextF s) k (66 - l.length) l at_
theorem chainR_stop {f : Int → Option Int} {w a : Int} {q : Nat} {l : List Int} (h : f a = none) : chainR f w q l a = none := by
  cases q with
  | zero => rfl
  | succ q => simp [chainR, h]
set_option maxHeartbeats 4000000 in
theorem refRing_any {w : World} {s : Tab} {v : Value} (h : RefT w (fun b => b < w.heap.size) s v) (hc : ∀ k : Nat, k ≤ 64 → chainF (nextF s) k 66 [(k : Int)] (nextF s k) = chainF (nextF s) k 65 [(k : Int)] (nextF s k)) :
    Calls Try.prog 18 #[v] w fun e w' => ∃ v', e = .returned v' ∧ NewInts .i64 w (ringF s) v' w' := by
  obtain ⟨AH, cH, AW, cW, rfl⟩ := h.parts
  have HK := hide (KeptT.start h)
  have HC := hide hc
  have HRF := hide (show ringF s = (ringFrom s 0 65).getD [] from rfl)
  clear h hc
  generalize Value.slice AH s.h.length cH = a at *
  generalize Value.slice AW s.ws.length cW = b at *
  generalize Value.bool s.br = c at *
  go_enter Try.func18, Try.ntmps18
  go_wp2
  go_loopw [3] (fun i wr => ∃ k : Nat, k ≤ 65 ∧ i = .int .i64 k ∧ Hid (KeptT w wr w.heap.size a b c s) ∧ Hid (ringFrom s 0 65 = ringFrom s k (65 - k))) (fun i _ => 65 - (intOf i).toNat)
  case atStart => exact ⟨0, by omega, rfl, HK, hide rfl⟩
  case round =>
    obtain ⟨k, hk, rfl, HK, HR⟩ := hrel
    obtain ⟨wo, rfl⟩ : ∃ wo : World, wo = wr := ⟨_, rfl⟩
    by_cases hlt : k < 65
    · have g1 : (k : Int) ≤ 64 := by omega
      have HS := hide (show ChainR w wo s k (.slice none 0 0) [] k from ⟨World.ownsRow_nil _ _ _ _, by simp, by rw [← HC.out k (by omega)]; exact (chainR_eq (nextF s) k 66 [] k).symm⟩)
      go_wp2
      go_loopw [4, 5] (fun v x wr => ∃ (l : List Int) (y : Int), x = .int .i64 y ∧ Hid (KeptT w wr w.heap.size a b c s) ∧ Hid (ChainR w wr s k v l y)) (fun v _ _ => 66 - lenOf v)
      case atStart => exact ⟨[], k, rfl, HK, HS⟩
      case round =>
        obtain ⟨l, y, rfl, HK, HL⟩ := hrel
        obtain ⟨AV, cV, rfl, o1, o2⟩ := own_form HL.out.own
        by_cases hl : l.length ≤ 65
        · have b0 : decide (l.length ≤ 65) = true := by simp; omega
          have b1 : decide ((l.length : Int) ≤ 65) = true := by simp; omega
          have Hl := hide hl
          have hch := HL.out.ch
          rw [show 66 - l.length = (65 - l.length) + 1 by omega] at hch
          have HSW := hide (fun W (hW : KeptT w W w.heap.size a b c s) => refWaits_any hW.call y)
          have HSH := hide (fun W (hW : KeptT w W w.heap.size a b c s) n => refHolder_any hW.call n)
          clear hl
          rcases ho : lookF s.ws y with _ | n
          · have hn : nextF s y = none := by unfold nextF; rw [ho]; rfl
            have HN := hide (ringFrom_none hlt (by rw [hch, chainR_stop hn]))
            simp only [ho, Option.isSome_none, Option.getD_none] at HSW
            have HSH := hide (fun W hW => HSH.out W hW 0)
            clear hch ho hn
            generalize (lookF s.h 0).getD 0 = h0 at HSH
            generalize (lookF s.h 0).isSome = h1 at HSH
            go_wp2_with (first
              | (at_builtin; refine wpList_append_elemG rfl _ _ 38 rfl w.heap.size Try.underlying38 info_intL rfl (by decide) (.slice AV l.length cV) l.length _ rfl HL.out.own wr.heap.size rfl _ _ rfl rfl (by simp [Value.oneCell']) (by have := Hl.out; simp only [maxLen]; omega) (by have := Hl.out; omega) HK.out.bel.size ?_; intro v' w3 hown3 hgr3 hat3; have HK3 := hide (HK.out.grow HL.out.own (by decide) hgr3); have HO3 := hide hown3; obtain ⟨z0, z1, z2⟩ := HK3.out.cells; clear hown3 hgr3 hat3)
              | (go_at_call 14; refine (HSW.out _ HK3.out).mono ?_; rintro e w4 ⟨rfl, hb⟩; have HK4 := hide (HK3.out.step hb); have HO4 := hide (own_keep HO3.out fun g hg => hb.block g (HO3.out.lt g hg).2); obtain ⟨y0, y1, y2⟩ := HK4.out.cells; clear hb)
              | (go_at_call 12; refine (HSH.out _ HK4.out).mono ?_; rintro e w5 ⟨rfl, hb⟩; have HK5 := hide (HK4.out.step hb); have HO5 := hide (own_keep HO4.out fun g hg => hb.block g (HO4.out.lt g hg).2); clear hb))
            go_roundw
            case rel => exact ⟨k + 1, by omega, by go_num, HK5, hide (by rw [HR.out, HN.out])⟩
            case measure => simp [intOf]; omega
          · have HSH := hide (fun W hW => HSH.out W hW n)
            simp only [ho, Option.isSome_some, Option.getD_some] at HSW
            rcases ho2 : lookF s.h n with _ | x
            · have hn : nextF s y = none := by unfold nextF; rw [ho]; exact ho2
              have HN := hide (ringFrom_none hlt (by rw [hch, chainR_stop hn]))
              simp only [ho2, Option.isSome_none, Option.getD_none] at HSH
              clear hch ho ho2 hn
              go_wp2_with (first
                | (at_builtin; refine wpList_append_elemG rfl _ _ 38 rfl w.heap.size Try.underlying38 info_intL rfl (by decide) (.slice AV l.length cV) l.length _ rfl HL.out.own wr.heap.size rfl _ _ rfl rfl (by simp [Value.oneCell']) (by have := Hl.out; simp only [maxLen]; omega) (by have := Hl.out; omega) HK.out.bel.size ?_; intro v' w3 hown3 hgr3 hat3; have HK3 := hide (HK.out.grow HL.out.own (by decide) hgr3); have HO3 := hide hown3; obtain ⟨z0, z1, z2⟩ := HK3.out.cells; clear hown3 hgr3 hat3)
                | (go_at_call 14; refine (HSW.out _ HK3.out).mono ?_; rintro e w4 ⟨rfl, hb⟩; have HK4 := hide (HK3.out.step hb); have HO4 := hide (own_keep HO3.out fun g hg => hb.block g (HO3.out.lt g hg).2); obtain ⟨y0, y1, y2⟩ := HK4.out.cells; clear hb)
                | (go_at_call 12; refine (HSH.out _ HK4.out).mono ?_; rintro e w5 ⟨rfl, hb⟩; have HK5 := hide (HK4.out.step hb); have HO5 := hide (own_keep HO4.out fun g hg => hb.block g (HO4.out.lt g hg).2); clear hb))
              go_roundw
              case rel => exact ⟨k + 1, by omega, by go_num, HK5, hide (by rw [HR.out, HN.out])⟩
              case measure => simp [intOf]; omega
            · have hn : nextF s y = some x := by unfold nextF; rw [ho]; exact ho2
              simp only [ho2, Option.isSome_some, Option.getD_some] at HSH
              simp only [chainR, hn] at hch
              by_cases e : x = (k : Int)
              · rw [if_pos e] at hch
                have e1 : (x == (k : Int)) = true := by simpa using e
                have HE := hide (show ringF s = l ++ [y] from by rw [HRF.out, HR.out, ringFrom_some hlt hch]; rfl)
                clear hch ho ho2 hn e
                go_wp2_with (first
                  | (at_builtin; refine wpList_append_elemG rfl _ _ 38 rfl w.heap.size Try.underlying38 info_intL rfl (by decide) (.slice AV l.length cV) l.length _ rfl HL.out.own wr.heap.size rfl _ _ rfl rfl (by simp [Value.oneCell']) (by have := Hl.out; simp only [maxLen]; omega) (by have := Hl.out; omega) HK.out.bel.size ?_; intro v' w3 hown3 hgr3 hat3; have HK3 := hide (HK.out.grow HL.out.own (by decide) hgr3); have HO3 := hide hown3; obtain ⟨z0, z1, z2⟩ := HK3.out.cells; clear hown3 hgr3 hat3)
                  | (go_at_call 14; refine (HSW.out _ HK3.out).mono ?_; rintro e w4 ⟨rfl, hb⟩; have HK4 := hide (HK3.out.step hb); have HO4 := hide (own_keep HO3.out fun g hg => hb.block g (HO3.out.lt g hg).2); obtain ⟨y0, y1, y2⟩ := HK4.out.cells; clear hb)
                  | (go_at_call 12; refine (HSH.out _ HK4.out).mono ?_; rintro e w5 ⟨rfl, hb⟩; have HK5 := hide (HK4.out.step hb); have HO5 := hide (own_keep HO4.out fun g hg => hb.block g (HO4.out.lt g hg).2); clear hb))
                go_ret
                exact ⟨_, rfl, by rw [HE.out]; exact NewInts.of_own (n := l.length + 1) (e := 3) (by rw [List.map_append]; exact HO5.out) HK5.out.bel⟩
              · rw [if_neg e] at hch
                have e1 : (x == (k : Int)) = false := by simpa using e
                have HCH := hide hch
                clear hch ho ho2 hn e
                go_wp2_with (first
                  | (at_builtin; refine wpList_append_elemG rfl _ _ 38 rfl w.heap.size Try.underlying38 info_intL rfl (by decide) (.slice AV l.length cV) l.length _ rfl HL.out.own wr.heap.size rfl _ _ rfl rfl (by simp [Value.oneCell']) (by have := Hl.out; simp only [maxLen]; omega) (by have := Hl.out; omega) HK.out.bel.size ?_; intro v' w3 hown3 hgr3 hat3; have HK3 := hide (HK.out.grow HL.out.own (by decide) hgr3); have HO3 := hide hown3; obtain ⟨z0, z1, z2⟩ := HK3.out.cells; clear hown3 hgr3 hat3)
                  | (go_at_call 14; refine (HSW.out _ HK3.out).mono ?_; rintro e w4 ⟨rfl, hb⟩; have HK4 := hide (HK3.out.step hb); have HO4 := hide (own_keep HO3.out fun g hg => hb.block g (HO3.out.lt g hg).2); obtain ⟨y0, y1, y2⟩ := HK4.out.cells; clear hb)
                  | (go_at_call 12; refine (HSH.out _ HK4.out).mono ?_; rintro e w5 ⟨rfl, hb⟩; have HK5 := hide (HK4.out.step hb); have HO5 := hide (own_keep HO4.out fun g hg => hb.block g (HO4.out.lt g hg).2); clear hb))
                go_roundw
                case rel => exact ⟨l ++ [y], x, rfl, HK5, hide ⟨by rw [List.length_append, List.map_append]; exact HO5.out, by have := Hl.out; simp; omega, by rw [HCH.out, List.length_append, show 66 - (l.length + [y].length) = 65 - l.length from by simp only [List.length_cons, List.length_nil]; omega]⟩⟩
                case measure => obtain ⟨A3, c3, rfl, _, _⟩ := own_form HO5.out; have := Hl.out; simp [lenOf]; omega
        · have b0 : decide (l.length ≤ 65) = false := by simp; omega
          have b1 : decide ((l.length : Int) ≤ 65) = false := by simp; omega
          have HN := hide (ringFrom_none hlt (by rw [HL.out.ch, show 66 - l.length = 0 by have := HL.out.le; omega]; rfl))
          clear hl
          go_wp2
          go_roundw
          case rel => exact ⟨k + 1, by omega, by go_num, HK, hide (by rw [HR.out, HN.out])⟩
          case measure => simp [intOf]; omega
    · obtain rfl : k = 65 := by omega
      have HE := hide (show ringF s = [] from by rw [HRF.out, HR.out]; rfl)
      go_wp2
      go_ret
      exact ⟨_, rfl, by rw [HE.out]; exact NewInts.nil HK.out.bel⟩
end Go.Proofs.Ytknljldmjicfgaa
