/-
  The reference's tables: Held, Ring. Conditions: the lists read as said.
-/
import Derived.Test.YtknljldmjicfgaaLckF
namespace Go.Proofs.Ytknljldmjicfgaa
open Go.RowKit

theorem intsUpTo_succ (n : Nat) : intsUpTo (n + 1) = intsUpTo n ++ [(n : Int)] := by
  unfold intsUpTo
  rw [List.range_succ, List.map_append]; rfl
theorem heldN_succ (n : Nat) (h : List (Int × Int)) (x : Int) : heldN (n + 1) h x = if lookF h n = some x then heldN n h x ++ [(n : Int)] else heldN n h x := by
  unfold heldN
  rw [intsUpTo_succ, List.filter_append]
  by_cases e : lookF h (n : Int) = some x <;> simp [List.filter_cons, e]
theorem heldN_len (n : Nat) (h : List (Int × Int)) (x : Int) : (heldN n h x).length ≤ n := by
  have := List.length_filter_le (fun n => decide (lookF h n = some x)) (intsUpTo n)
  unfold heldN
  simpa [intsUpTo] using this
/-- a table of the reference's, kept in a block -/
structure KeptT (w wr : World) (P : Nat) (a b c : Value) (s : Tab) : Prop where
  blk : Blk wr P 28 #[a, b, c]
  ref : RefT wr (fun b => b < w.heap.size) s (.agg #[a, b, c])
  hP : w.heap.size ≤ P
  bel : Below w.heap.size w wr
section
variable {w wr wr' : World} {P : Nat} {a b c : Value} {s : Tab}
theorem KeptT.step (h : KeptT w wr P a b c s) (hb : Below wr.heap.size wr wr') : KeptT w wr' P a b c s :=
  ⟨h.blk.below hb h.blk.lt, h.ref.below hb (fun _ h' => Nat.lt_of_lt_of_le h' h.bel.size), h.hP, Below.step h.bel hb⟩
theorem KeptT.call (h : KeptT w wr P a b c s) : RefT wr (fun b => b < wr.heap.size) s (.agg #[a, b, c]) := h.ref.more fun _ h' => Nat.lt_of_lt_of_le h' h.bel.size
theorem KeptT.grow {e : TypeId} {k n : Nat} {v : Value} {xs : List Value} (h : KeptT w wr P a b c s) (hO : wr.ownsRow w.heap.size e k v n xs) (he : e ≠ 28) (hG : wr.grownBy wr' v.ownBlock) : KeptT w wr' P a b c s :=
  ⟨h.blk.grown hG fun e1 => own_blk_ne hO h.blk he e1.symm, h.ref.keep fun d hd => hG.block d (Nat.lt_of_lt_of_le hd h.bel.size) (fun e1 => by have := (hO.lt d e1.symm).1; omega), h.hP, below_own h.bel hO h.bel.size hG⟩
theorem KeptT.cells (h : KeptT w wr P a b c s) : wr.cell? ⟨P, 0, none⟩ = some a ∧ wr.cell? ⟨P, 1, none⟩ = some b ∧ wr.cell? ⟨P, 2, none⟩ = some c :=
  ⟨by rw [h.blk.cell]; rfl, by rw [h.blk.cell]; rfl, by rw [h.blk.cell]; rfl⟩
theorem KeptT.start (h : RefT w (fun b => b < w.heap.size) s (.agg #[a, b, c])) : KeptT w (w.alloc (.cells #[a, b, c] 28)) w.heap.size a b c s :=
  ⟨Blk.new _ _ _, h.below (below1 w _) (fun _ h => h), Nat.le_refl _, below1 _ _⟩
end
theorem RefT.parts {w : World} {R : Nat → Prop} {s : Tab} {v : Value} (h : RefT w R s v) : ∃ AH cH AW cW, v = .agg #[.slice AH s.h.length cH, .slice AW s.ws.length cW, .bool s.br] := by
  obtain ⟨AH, cH, AW, cW, e, _⟩ := h
  exact ⟨AH, cH, AW, cW, e⟩
section
variable {w : World} {s : Tab}
set_option maxHeartbeats 2000000 in
theorem refHeld_any {v : Value} (h : RefT w (fun b => b < w.heap.size) s v) (x : Int) : Calls Try.prog 20 #[v, .int .i64 x] w fun e w' => ∃ v', e = .returned v' ∧ NewInts .i64 w (heldF s.h x) v' w' := by
  obtain ⟨AH, cH, AW, cW, rfl⟩ := h.parts
  have HK := hide (KeptT.start h)
  have HF := hide (show heldF s.h x = heldN 4097 s.h x from rfl)
  clear h
  generalize Value.slice AH s.h.length cH = a at *
  generalize Value.slice AW s.ws.length cW = b at *
  generalize Value.bool s.br = c at *
  go_enter Try.func20, Try.ntmps20
  go_wp2
  go_loopw [6, 5] (fun i v wr => ∃ j : Nat, j ≤ 4097 ∧ i = .int .i64 j ∧ Hid (wr.ownsRow w.heap.size 3 1 v (heldN j s.h x).length ((heldN j s.h x).map (Value.int .i64))) ∧ Hid (KeptT w wr w.heap.size a b c s)) (fun i _ _ => 4097 - (intOf i).toNat)
  case atStart => exact ⟨0, by omega, rfl, hide (World.ownsRow_nil _ _ _ _), HK⟩
  case round =>
    obtain ⟨j, hj, rfl, HO, HK⟩ := hrel
    obtain ⟨AV, cV, rfl, o1, o2⟩ := own_form HO.out
    obtain ⟨z0, z1, z2⟩ := HK.out.cells
    by_cases hlt : j < 4097
    · have g1 : (j : Int) ≤ 4096 := by omega
      have Hl := hide (show (heldN j s.h x).length ≤ 4097 by have := heldN_len j s.h x; omega)
      have HS := hide (heldN_succ j s.h x)
      have HC := hide (refHolder_any HK.out.call (j : Int))
      have hbk := Below.size HK.out.bel
      rcases ho : lookF s.h (j : Int) with _ | y
      · have HS2 : Hid (heldN (j + 1) s.h x = heldN j s.h x) := hide (by rw [HS.out, if_neg (by rw [ho]; simp)])
        simp only [ho, Option.isSome_none, Option.getD_none] at HC
        clear ho
        go_wp2_with (go_at_call 12; refine HC.out.mono ?_; rintro e w1 ⟨rfl, hb⟩; have HK1 := hide (HK.out.step hb); have HO1 := hide (own_keep HO.out fun g hg => hb.block g (HO.out.lt g hg).2); clear hb)
        go_roundw
        case rel => exact ⟨j + 1, by omega, by go_num, by rw [HS2.out]; exact HO1, HK1⟩
        case measure => simp [intOf]; omega
      · simp only [ho, Option.isSome_some, Option.getD_some] at HC
        by_cases e : y = x
        · have HS2 : Hid (heldN (j + 1) s.h x = heldN j s.h x ++ [(j : Int)]) := hide (by rw [HS.out, if_pos (by rw [ho, e])])
          have e1 : (y == x) = true := by simpa using e
          clear ho e
          go_wp2_with (first
            | (go_at_call 12; refine HC.out.mono ?_; rintro e w1 ⟨rfl, hb⟩; have HK1 := hide (HK.out.step hb); have HO1 := hide (own_keep HO.out fun g hg => hb.block g (HO.out.lt g hg).2); clear hb)
            | (at_builtin; refine wpList_append_elemG rfl _ _ 38 rfl w.heap.size Try.underlying38 info_intL rfl (by decide) (.slice AV (heldN j s.h x).length cV) (heldN j s.h x).length _ rfl HO1.out w1.heap.size rfl _ _ rfl rfl (by simp [Value.oneCell']) (by have := Hl.out; simp only [maxLen]; omega) (by have := Hl.out; omega) HK1.out.bel.size ?_; intro v' w3 hown3 hgr3 hat3; have HK3 := hide (HK1.out.grow HO1.out (by decide) hgr3); have HO3 := hide hown3; clear hown3 hgr3 hat3))
          go_roundw
          case rel => exact ⟨j + 1, by omega, by go_num, by rw [HS2.out, List.length_append, List.map_append]; exact HO3, HK3⟩
          case measure => simp [intOf]; omega
        · have HS2 : Hid (heldN (j + 1) s.h x = heldN j s.h x) := hide (by rw [HS.out, if_neg (by rw [ho]; simpa using e)])
          have e1 : (y == x) = false := by simpa using e
          clear ho e
          go_wp2_with (go_at_call 12; refine HC.out.mono ?_; rintro e w1 ⟨rfl, hb⟩; have HK1 := hide (HK.out.step hb); have HO1 := hide (own_keep HO.out fun g hg => hb.block g (HO.out.lt g hg).2); clear hb)
          go_roundw
          case rel => exact ⟨j + 1, by omega, by go_num, by rw [HS2.out]; exact HO1, HK1⟩
          case measure => simp [intOf]; omega
    · obtain rfl : j = 4097 := by omega
      go_wp2
      go_ret
      exact ⟨_, rfl, by rw [HF.out]; exact NewInts.of_own HO.out HK.out.bel⟩
end
end Go.Proofs.Ytknljldmjicfgaa
