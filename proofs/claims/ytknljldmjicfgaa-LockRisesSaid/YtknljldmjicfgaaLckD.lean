/-
  The package lock: Ring. Conditions: the table's blocks lie as said.
-/
import Derived.Test.YtknljldmjicfgaaLckC
namespace Go.Proofs.Ytknljldmjicfgaa
open Go.RowKit

def bigW (x : Int) : Prop := 0 ≤ x ∧ x ≤ 64
theorem bigW.w64 {x : Int} (h : bigW x) : W64 x := w64_of (by have := h.1; have := h.2; omega)
/-- the chain from k is under way -/
structure ChainLoop (w wr : World) (s : Tab) (k : Nat) (v : Value) (l : List Int) (o : Option Int) : Prop where
  own : wr.ownsRow w.heap.size 3 1 v l.length (l.map (Value.int .i64))
  bel : Below w.heap.size w wr
  pos : 1 ≤ l.length
  le : l.length ≤ 66
  ch : chainF (nextF s) k 65 [(k : Int)] (nextF s k) = chainF (nextF s) k (66 - l.length) l o
  big : ∀ x, o = some x → bigW x
theorem ringFrom_none {s : Tab} {k : Nat} (hk : k < 65) (h : chainF (nextF s) k 65 [(k : Int)] (nextF s k) = none) : ringFrom s k (65 - k) = ringFrom s (k + 1) (65 - (k + 1)) := by
  rw [show 65 - k = 65 - (k + 1) + 1 by omega]
  simp only [ringFrom, h]
theorem ringFrom_some {s : Tab} {k : Nat} {l : List Int} (hk : k < 65) (h : chainF (nextF s) k 65 [(k : Int)] (nextF s k) = some l) : ringFrom s k (65 - k) = some l := by
  rw [show 65 - k = 65 - (k + 1) + 1 by omega]
  simp only [ringFrom, h]
def lenOf : Value → Nat
  | .slice _ n _ => n
  | _ => 0
set_option maxHeartbeats 4000000 in
theorem ring_any {w : World} {B T hb wb : Nat} {s : Tab} (h : TabAt w B T hb wb s) (ok : s.Ok) :
    Calls Try.prog 17 #[.pointer (some ⟨T, 0, none⟩)] w fun e w' => ∃ v, e = .returned v ∧ NewInts .i64 w (ringF s) v w' := by
  have H := hide h
  have OK := hide ok
  have HRF := hide (show ringF s = (ringFrom s 0 65).getD [] from rfl)
  clear h ok
  go_enter Try.func17, Try.ntmps17
  go_wp2
  go_loopw [9] (fun i wr => ∃ k : Nat, k ≤ 65 ∧ i = .int .i64 k ∧ Hid (Below w.heap.size w wr) ∧ Hid (ringFrom s 0 65 = ringFrom s k (65 - k))) (fun i _ => 65 - (intOf i).toNat)
  case atStart => exact ⟨0, by omega, rfl, hide (Below.refl _ _), hide rfl⟩
  case round =>
    obtain ⟨k, hk, rfl, HB, HK⟩ := hrel
    obtain ⟨wo, rfl⟩ : ∃ wo : World, wo = wr := ⟨_, rfl⟩
    by_cases hlt : k < 65
    · have g1 : (k : Int) < 65 := by omega
      have hbk : bigW (k : Int) := by unfold bigW; omega
      have HBk := hide hbk
      clear hbk
      go_wp2_with (go_at_call 23; refine (next_any (H.out.below (by exact (HB.out.alloc HB.out.size _))) OK.out HBk.out.w64).mono ?_; rintro e w' ⟨rfl, rfl⟩)
      have HS := hide (show ChainLoop w (wo.alloc (.cells #[.int .i64 (k : Int)] 3)) s k (.slice (some ⟨wo.heap.size, 0, none⟩) 1 1) [(k : Int)] (nextF s k) from
        ⟨World.ownsRow_lit wo #[.int .i64 (k : Int)] 1 HB.out.size (by decide) rfl, HB.out.alloc HB.out.size _, by simp, by simp, rfl, fun x hx => OK.out.next hx⟩)
      obtain ⟨o, ho⟩ : ∃ o, nextF s k = o := ⟨_, rfl⟩
      rw [ho] at HS ⊢
      clear ho
      generalize (wo.alloc (.cells #[.int .i64 (k : Int)] 3)) = wi at HS ⊢
      generalize (Value.slice (some ⟨wo.heap.size, 0, none⟩) 1 1) = vi at HS ⊢
      go_loopw [4, 5, 6] (fun v x is wr => ∃ (l : List Int) (o : Option Int), x = .int .i64 (o.getD 0) ∧ is = .bool o.isSome ∧ Hid (ChainLoop w wr s k v l o)) (fun v _ _ _ => 66 - lenOf v)
      case atStart => exact ⟨_, _, rfl, rfl, HS⟩
      case round =>
        obtain ⟨l, o, rfl, rfl, HL⟩ := hrel
        obtain ⟨AV, cV, rfl, o1, o2⟩ := own_form HL.out.own
        have hle := HL.out.le
        rcases o with _ | x
        · have HN := hide (ringFrom_none hlt (by rw [HL.out.ch]; cases 66 - l.length <;> rfl))
          have HB2 := hide HL.out.bel
          simp only [Option.isSome_none, Option.getD_none]
          go_wp2
          go_roundw
          case rel => exact ⟨k + 1, by omega, by go_num, HB2, hide (by rw [HK.out, HN.out])⟩
          case measure => simp [intOf]; omega
        · simp only [Option.isSome_some, Option.getD_some]
          by_cases hl : l.length ≤ 65
          · have b0 : decide (l.length ≤ 65) = true := by simp; omega
            have b1 : decide ((l.length : Int) ≤ 65) = true := by simp; omega
            have hch := HL.out.ch
            rw [show 66 - l.length = (65 - l.length) + 1 by omega] at hch
            simp only [chainF] at hch
            by_cases e : x = (k : Int)
            · rw [if_pos e] at hch
              have e1 : (x == (k : Int)) = true := by simpa using e
              have HE := hide (show ringF s = l from by rw [HRF.out, HK.out, ringFrom_some hlt hch]; rfl)
              clear e hch hl
              go_wp2
              go_ret
              exact ⟨_, rfl, by rw [HE.out]; exact NewInts.of_own HL.out.own HL.out.bel⟩
            · rw [if_neg e] at hch
              have e1 : (x == (k : Int)) = false := by simpa using e
              have HCH := hide hch
              have HX := hide (HL.out.big x rfl)
              have Hl := hide hl
              clear e hch hl
              go_wp2_with (first
                | (at_builtin; refine wpList_append_elem rfl _ _ 38 rfl w.heap.size Try.underlying38 info_intL rfl (by decide) (.slice AV l.length cV) l.length _ rfl HL.out.own _ _ rfl rfl (by simp [Value.oneCell']) (by have := Hl.out; simp only [maxLen]; omega) (by have := Hl.out; omega) HL.out.bel.size ?_; intro v' w3 hown3 hgr3 hat3; have HB3 := hide (below_own HL.out.bel HL.out.own HL.out.bel.size hgr3); have HO3 := hide hown3; clear hown3 hgr3 hat3)
                | (go_at_call 23; refine (next_any (H.out.below HB3.out) OK.out HX.out.w64).mono ?_; rintro e w' ⟨rfl, rfl⟩))
              go_roundw
              case rel => exact ⟨l ++ [x], nextF s x, rfl, rfl, hide ⟨by rw [List.length_append, List.map_append]; exact HO3.out, HB3.out, by simp, by have := Hl.out; simp; omega, by rw [HCH.out, List.length_append, show 66 - (l.length + [x].length) = 65 - l.length from by simp only [List.length_cons, List.length_nil]; omega], fun y hy => OK.out.next hy⟩⟩
              case measure => obtain ⟨A3, c3, rfl, _, _⟩ := own_form HO3.out; have := Hl.out; simp [lenOf]; omega
          · have b0 : decide (l.length ≤ 65) = false := by simp; omega
            have b1 : decide ((l.length : Int) ≤ 65) = false := by simp; omega
            have HN := hide (ringFrom_none hlt (by rw [HL.out.ch, show 66 - l.length = 0 by omega]; rfl))
            have HB2 := hide HL.out.bel
            clear hl
            go_wp2
            go_roundw
            case rel => exact ⟨k + 1, by omega, by go_num, HB2, hide (by rw [HK.out, HN.out])⟩
            case measure => simp [intOf]; omega
    · obtain rfl : k = 65 := by omega
      have HE := hide (show ringF s = [] from by rw [HRF.out, HK.out]; rfl)
      go_wp2
      go_ret
      exact ⟨_, rfl, by rw [HE.out]; exact NewInts.nil HB.out⟩
end Go.Proofs.Ytknljldmjicfgaa
