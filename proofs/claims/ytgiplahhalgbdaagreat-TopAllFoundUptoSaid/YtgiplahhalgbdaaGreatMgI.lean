/-
  Texts of one part, put together. No condition.
-/
import Derived.Test.YtgiplahhalgbdaaGreatHit
import Derived.Deep.RegionHeld3
import Derived.Sort.Grow
import Derived.Lib.Small
/-
  The package rank, the order of two hits and of two spots, and the reference's. No condition.
-/
namespace Go.Proofs.YtgiplahhalgbdaaGreat
set_option linter.unusedSimpArgs false
set_option linter.unusedVariables false
open Go.RowKit Go.Lib Go.Sort

/-- a world, behind draws and new blocks -/
def Grown (w w' : World) : Prop := ∃ q os, w' = grow (w.drewN q) os
section
variable {w w' w'' : World}
theorem Grown.refl (w : World) : Grown w w := ⟨0, #[], by simp [World.drewN]⟩
theorem Grown.drew (h : Grown w w') : Grown w w'.drew := by
  obtain ⟨q, os, rfl⟩ := h
  exact ⟨q + 1, os, rfl⟩
theorem Grown.alloc (h : Grown w w') (o : Obj) : Grown w (w'.alloc o) := by
  obtain ⟨q, os, rfl⟩ := h
  exact ⟨q, os ++ #[o], by rw [alloc_eq_grow, grow_grow]⟩
theorem Grown.trans (h : Grown w w') (k : Grown w' w'') : Grown w w'' := by
  obtain ⟨q, os, rfl⟩ := h
  obtain ⟨p, ps, rfl⟩ := k
  refine ⟨q + p, os ++ ps, ?_⟩
  rw [← grow_grow]
  simp [grow, World.drewN, Nat.add_assoc]
theorem Grown.below (h : Grown w w') : Below w.heap.size w w' := by
  obtain ⟨q, os, rfl⟩ := h
  refine ⟨rfl, rfl, rfl, by simp [grow, World.drewN], fun i hi => ?_⟩
  simp only [grow, World.drewN]
  rw [Array.getElem?_append_left hi]
end

abbrev Spt : Type := Hit × Int
def orI (x y : Int) : Int := if x ≠ 0 then x else y
theorem orI_ne {x y : Int} (h : x ≠ 0) : orI x y = x := if_pos h
theorem orI_eq {x y : Int} (h : ¬ x ≠ 0) : orI x y = y := if_neg h
def hitO (a b : Hit) : Int := orI (compareInt a.1 b.1) (compareInt a.2 b.2)
def sptO (a b : Spt) : Int := orI (hitO a.1 b.1) (compareInt a.2 b.2)
def hitLt (a b : Hit) : Bool := decide (a.1 < b.1 ∨ a.1 = b.1 ∧ a.2 < b.2)
def sptLt (a b : Spt) : Bool := hitLt a.1 b.1 || (a.1 == b.1 && decide (a.2 < b.2))
theorem cmp_neg (x y : Int) : compareInt x y < 0 ↔ x < y := by
  unfold compareInt; split
  · omega
  · split <;> omega
theorem cmp_zero (x y : Int) : compareInt x y = 0 ↔ x = y := by
  unfold compareInt; split
  · omega
  · split <;> omega
theorem or_neg (x y : Int) : orI x y < 0 ↔ x < 0 ∨ x = 0 ∧ y < 0 := by
  unfold orI; split <;> omega
theorem or_zero (x y : Int) : orI x y = 0 ↔ x = 0 ∧ y = 0 := by
  unfold orI; split <;> omega
theorem hitO_neg (a b : Hit) : decide (hitO a b < 0) = hitLt a b := by
  unfold hitO hitLt
  have e := or_neg (compareInt a.1 b.1) (compareInt a.2 b.2)
  rw [cmp_neg, cmp_neg, cmp_zero] at e
  exact decide_eq_decide.2 e
theorem hitO_zero (a b : Hit) : hitO a b = 0 ↔ a = b := by
  unfold hitO; rw [or_zero, cmp_zero, cmp_zero]
  exact ⟨fun ⟨h, k⟩ => Prod.ext h k, fun h => by subst h; exact ⟨rfl, rfl⟩⟩
theorem sptO_neg (a b : Spt) : decide (sptO a b < 0) = sptLt a b := by
  unfold sptO sptLt
  rw [← hitO_neg]
  by_cases h : hitO a.1 b.1 < 0
  · have k : sptO a b < 0 := (or_neg _ _).2 (.inl h)
    have k' : orI (hitO a.1 b.1) (compareInt a.2 b.2) < 0 := k
    rw [decide_eq_true k', decide_eq_true h]; rfl
  · by_cases e : a.1 = b.1
    · have e0 := (hitO_zero a.1 b.1).2 e
      have k : orI (hitO a.1 b.1) (compareInt a.2 b.2) = compareInt a.2 b.2 := by unfold orI; rw [if_neg (by simpa using e0)]
      rw [k, decide_eq_false h]; simp [e, cmp_neg]
    · have e0 : hitO a.1 b.1 ≠ 0 := fun k => e ((hitO_zero _ _).1 k)
      have k : orI (hitO a.1 b.1) (compareInt a.2 b.2) = hitO a.1 b.1 := by unfold orI; rw [if_pos e0]
      rw [k]; simp [e]

set_option maxHeartbeats 1000000 in
theorem cmpU_any (x y : Int) (w : World) : Calls Tryz.prog 89 #[.int .u64 x, .int .u64 y] w fun e w' => e = .returned (.int .i64 (compareInt x y)) ∧ w = w' := by
  by_cases h1 : x < y
  · have e : compareInt x y = -1 := by unfold compareInt; simp [h1]
    rw [e]
    go_enter Tryz.func89, Tryz.ntmps89
    go_wp2
    all_goals go_ret
    all_goals exact ⟨rfl, rfl⟩
  · by_cases h2 : y < x
    · have e : compareInt x y = 1 := by unfold compareInt; simp [h1, h2]
      rw [e]
      go_enter Tryz.func89, Tryz.ntmps89
      go_wp2
      all_goals go_ret
      all_goals exact ⟨rfl, rfl⟩
    · have e : compareInt x y = 0 := by unfold compareInt; simp [h1, h2]
      rw [e]
      go_enter Tryz.func89, Tryz.ntmps89
      go_wp2
      all_goals go_ret
      all_goals exact ⟨rfl, rfl⟩
set_option maxHeartbeats 1000000 in
theorem cmpI_any (x y : Int) (w : World) : Calls Tryz.prog 69 #[.int .i64 x, .int .i64 y] w fun e w' => e = .returned (.int .i64 (compareInt x y)) ∧ w = w' := by
  by_cases h1 : x < y
  · have e : compareInt x y = -1 := by unfold compareInt; simp [h1]
    rw [e]
    go_enter Tryz.func69, Tryz.ntmps69
    go_wp2
    all_goals go_ret
    all_goals exact ⟨rfl, rfl⟩
  · by_cases h2 : y < x
    · have e : compareInt x y = 1 := by unfold compareInt; simp [h1, h2]
      rw [e]
      go_enter Tryz.func69, Tryz.ntmps69
      go_wp2
      all_goals go_ret
      all_goals exact ⟨rfl, rfl⟩
    · have e : compareInt x y = 0 := by unfold compareInt; simp [h1, h2]
      rw [e]
      go_enter Tryz.func69, Tryz.ntmps69
      go_wp2
      all_goals go_ret
      all_goals exact ⟨rfl, rfl⟩
set_option maxHeartbeats 2000000 in
theorem or_any (g : Nat) (x y : Int) (w : World) (h : Blk w g 3 #[.int .i64 x, .int .i64 y]) : Calls Tryz.prog 67 #[.slice (some ⟨g, 0, none⟩) 2 2] w fun e w' => e = .returned (.int .i64 (orI x y)) ∧ w = w' := by
  have c0 : w.cell? ⟨g, 0, none⟩ = some (.int .i64 x) := h.cell 0
  have c1 : w.cell? ⟨g, 1, none⟩ = some (.int .i64 y) := h.cell 1
  have HO := hide (rfl : orI x y = orI x y)
  have HX := hide (fun h0 : x ≠ 0 => orI_ne (y := y) h0)
  have HY := hide (fun h0 : ¬ x ≠ 0 => orI_eq (y := y) h0)
  generalize orI x y = r at *
  clear h HO
  go_enter Tryz.func67, Tryz.ntmps67
  go_wp2
  go_loop [8] (fun j => ∃ i : Nat, i ≤ 2 ∧ j = .int .i64 i ∧ Hid (1 ≤ i → x = 0) ∧ Hid (2 ≤ i → y = 0)) (fun j => 2 - (intOf j).toNat)
  case atStart => exact ⟨0, by omega, rfl, hide (fun h => by omega), hide (fun h => by omega)⟩
  case round =>
    obtain ⟨i, hi, rfl, H0, H1⟩ := hrel
    rcases i with _ | _ | _ | i
    · by_cases e0 : x = 0
      · subst e0
        go_wp2
        go_round
        case rel => exact ⟨1, by omega, by go_num, hide (fun _ => by first | rfl | trivial), hide (fun h => by omega)⟩
        case measure => simp [intOf]
      · go_wp2
        all_goals go_ret
        exact ⟨congrArg (fun z => Ending.returned (Value.int .i64 z)) (HX.out e0).symm, rfl⟩
    · obtain rfl := H0.out (by omega)
      by_cases e1 : y = 0
      · subst e1
        go_wp2
        go_round
        case rel => exact ⟨2, by omega, by go_num, hide (fun _ => by first | rfl | trivial), hide (fun _ => by first | rfl | trivial)⟩
        case measure => simp [intOf]
      · go_wp2
        all_goals go_ret
        exact ⟨congrArg (fun z => Ending.returned (Value.int .i64 z)) (HY.out (by simp)).symm, rfl⟩
    · obtain rfl := H0.out (by omega)
      obtain rfl := H1.out (by omega)
      go_wp2
      all_goals go_ret
      exact ⟨congrArg (fun z => Ending.returned (Value.int .i64 z)) (HY.out (by simp)).symm, rfl⟩
    · omega
end Go.Proofs.YtgiplahhalgbdaaGreat

/-
  The package rank: order, place, Hit, Spot. No condition.
-/
namespace Go.Proofs.YtgiplahhalgbdaaGreat
set_option linter.unusedSimpArgs false
set_option linter.unusedVariables false
open Go.RowKit Go.Lib Go.Sort

/-- two boxes, in a world that has grown -/
def OS (w : World) (t : TypeId) (g h : Nat) (x y : Array Value) (W : World) : Prop := Blk W g t x ∧ Blk W h t y ∧ Grown w W
section
variable {w W W' : World} {t : TypeId} {g h : Nat} {x y : Array Value}
theorem OS.l (H : OS w t g h x y W) (i : Nat) : W.cell? ⟨g, i, none⟩ = x[i]? := (show Blk W g t x from And.left H).cell i
theorem OS.r (H : OS w t g h x y W) (i : Nat) : W.cell? ⟨h, i, none⟩ = y[i]? := (show Blk W h t y from (And.right H).1).cell i
theorem OS.gr (H : OS w t g h x y W) : Grown w W := (And.right H).2
theorem OS.grown (H : OS w t g h x y W) (k : Grown W W') : OS w t g h x y W' :=
  ⟨(show Blk W g t x from And.left H).below k.below (show Blk W g t x from And.left H).lt, (show Blk W h t y from (And.right H).1).below k.below (show Blk W h t y from (And.right H).1).lt, H.gr.trans k⟩
theorem OS.alloc (H : OS w t g h x y W) (o : Obj) : OS w t g h x y (W.alloc o) := H.grown ((Grown.refl W).alloc o)
theorem OS.drew (H : OS w t g h x y W) : OS w t g h x y W.drew := H.grown (Grown.refl W).drew
theorem OS.start (w : World) (t : TypeId) (x y : Array Value) : OS w t w.heap.size (w.heap.size + 1) x y ((w.alloc (.cells x t)).alloc (.cells y t)) :=
  ⟨(Blk.new w t x).alloc _, by have := Blk.new (w.alloc (.cells x t)) t y; simpa using this, ((Grown.refl w).alloc _).alloc _⟩
end
set_option maxHeartbeats 4000000 in
set_option maxRecDepth 100000 in
theorem order_any (a b : Hit) (w : World) : Calls Tryz.prog 68 #[.agg #[.int .u64 a.1, .int .u64 a.2], .agg #[.int .u64 b.1, .int .u64 b.2]] w fun e w' => e = .returned (.int .i64 (hitO a b)) ∧ Grown w w' := by
  obtain ⟨a1, a2⟩ := a
  obtain ⟨b1, b2⟩ := b
  have h1 := fun W => cmpU_any a1 b1 W
  have h2 := fun W => cmpU_any a2 b2 W
  show Calls _ _ _ _ fun e w' => e = .returned (.int .i64 (orI (compareInt a1 b1) (compareInt a2 b2))) ∧ Grown w w'
  generalize compareInt a1 b1 = c1 at *
  generalize compareInt a2 b2 = c2 at *
  have H1 := hide h1
  have H2 := hide h2
  have HS := hide (OS.start w 42 #[.int .u64 a1, .int .u64 a2] #[.int .u64 b1, .int .u64 b2]).drew
  clear h1 h2
  go_enter Tryz.func68, Tryz.ntmps68
  go_upto_region 1 with fail
  refine wp_region_held_drew (S := OS w 42 w.heap.size (w.heap.size + 1) #[.int .u64 a1, .int .u64 a2] #[.int .u64 b1, .int .u64 b2]) (by kernel_rfl) HS.out (fun hHeld => ?_)
  clear HS
  generalize ((w.alloc (.cells #[.int .u64 a1, .int .u64 a2] 42)).alloc (.cells #[.int .u64 b1, .int .u64 b2] 42)).drew = wd at *
  generalize w.heap.size = g at *
  refine wpAnyH_take (i := 0) (v := .pointer (some ⟨g, 0, none⟩)) rfl (by kernel_rfl) (by kernel_rfl) (by kernel_rfl) (fun _ _ _ h => h) (Or.inl ⟨by rfl, fun W hS => by clear hS hHeld; go_simp⟩) hHeld ?_
  try simp only [Act.put, List.setIfInBounds_toArray, List.set_cons_zero, List.set_cons_succ, List.getElem_toArray, List.getElem_cons_zero, List.getElem_cons_succ]
  refine wpAnyH_take (i := 1) (v := .int .u64 a1) rfl (by kernel_rfl) (by kernel_rfl) (by kernel_rfl) (fun _ _ _ h => h) (Or.inl ⟨by rfl, fun W hS => by have zl0 : W.cell? ⟨g, 0, none⟩ = some (.int .u64 a1) := (OS.l hS 0); clear hS hHeld; go_simp⟩) hHeld ?_
  try simp only [Act.put, List.setIfInBounds_toArray, List.set_cons_zero, List.set_cons_succ, List.getElem_toArray, List.getElem_cons_zero, List.getElem_cons_succ]
  refine wpAnyH_take (i := 2) (v := .pointer (some ⟨g + 1, 0, none⟩)) rfl (by kernel_rfl) (by kernel_rfl) (by kernel_rfl) (fun _ _ _ h => h) (Or.inl ⟨by rfl, fun W hS => by clear hS hHeld; go_simp⟩) hHeld ?_
  try simp only [Act.put, List.setIfInBounds_toArray, List.set_cons_zero, List.set_cons_succ, List.getElem_toArray, List.getElem_cons_zero, List.getElem_cons_succ]
  refine wpAnyH_take (i := 3) (v := .int .u64 b1) rfl (by kernel_rfl) (by kernel_rfl) (by kernel_rfl) (fun _ _ _ h => h) (Or.inl ⟨by rfl, fun W hS => by have zr0 : W.cell? ⟨g + 1, 0, none⟩ = some (.int .u64 b1) := (OS.r hS 0); clear hS hHeld; go_simp⟩) hHeld ?_
  try simp only [Act.put, List.setIfInBounds_toArray, List.set_cons_zero, List.set_cons_succ, List.getElem_toArray, List.getElem_cons_zero, List.getElem_cons_succ]
  refine wpAnyH_take (i := 5) (v := .pointer (some ⟨g, 1, none⟩)) rfl (by kernel_rfl) (by kernel_rfl) (by kernel_rfl) (fun _ _ _ h => h) (Or.inl ⟨by rfl, fun W hS => by clear hS hHeld; go_simp⟩) hHeld ?_
  try simp only [Act.put, List.setIfInBounds_toArray, List.set_cons_zero, List.set_cons_succ, List.getElem_toArray, List.getElem_cons_zero, List.getElem_cons_succ]
  refine wpAnyH_take (i := 6) (v := .int .u64 a2) rfl (by kernel_rfl) (by kernel_rfl) (by kernel_rfl) (fun _ _ _ h => h) (Or.inl ⟨by rfl, fun W hS => by have zl1 : W.cell? ⟨g, 1, none⟩ = some (.int .u64 a2) := (OS.l hS 1); clear hS hHeld; go_simp⟩) hHeld ?_
  try simp only [Act.put, List.setIfInBounds_toArray, List.set_cons_zero, List.set_cons_succ, List.getElem_toArray, List.getElem_cons_zero, List.getElem_cons_succ]
  refine wpAnyH_take (i := 7) (v := .pointer (some ⟨g + 1, 1, none⟩)) rfl (by kernel_rfl) (by kernel_rfl) (by kernel_rfl) (fun _ _ _ h => h) (Or.inl ⟨by rfl, fun W hS => by clear hS hHeld; go_simp⟩) hHeld ?_
  try simp only [Act.put, List.setIfInBounds_toArray, List.set_cons_zero, List.set_cons_succ, List.getElem_toArray, List.getElem_cons_zero, List.getElem_cons_succ]
  refine wpAnyH_take (i := 8) (v := .int .u64 b2) rfl (by kernel_rfl) (by kernel_rfl) (by kernel_rfl) (fun _ _ _ h => h) (Or.inl ⟨by rfl, fun W hS => by have zr1 : W.cell? ⟨g + 1, 1, none⟩ = some (.int .u64 b2) := (OS.r hS 1); clear hS hHeld; go_simp⟩) hHeld ?_
  try simp only [Act.put, List.setIfInBounds_toArray, List.set_cons_zero, List.set_cons_succ, List.getElem_toArray, List.getElem_cons_zero, List.getElem_cons_succ]
  refine wpAnyH_ready (rs := [4]) (by kernel_rfl) (by simp) ?_
  refine AllReadyH.cons rfl (fun K hK => ?_) AllReadyH.nil
  try simp only [Act.put, List.setIfInBounds_toArray, List.set_cons_zero, List.set_cons_succ, List.getElem_toArray, List.getElem_cons_zero, List.getElem_cons_succ]
  go_simp
  go_at_call 89
  refine (H1.out _).mono ?_
  rintro e wq ⟨rfl, rfl⟩
  refine hK.out _ _ hHeld (fun hHeld2 => ?_)
  clear hK K hHeld
  have hHeld := hHeld2
  clear hHeld2
  try simp only [Act.put, List.setIfInBounds_toArray, List.set_cons_zero, List.set_cons_succ, List.getElem_toArray, List.getElem_cons_zero, List.getElem_cons_succ]
  refine wpAnyH_ready (rs := [9]) (by kernel_rfl) (by simp) ?_
  refine AllReadyH.cons rfl (fun K hK => ?_) AllReadyH.nil
  try simp only [Act.put, List.setIfInBounds_toArray, List.set_cons_zero, List.set_cons_succ, List.getElem_toArray, List.getElem_cons_zero, List.getElem_cons_succ]
  go_simp
  go_at_call 89
  refine (H2.out _).mono ?_
  rintro e wq ⟨rfl, rfl⟩
  refine hK.out _ _ hHeld (fun hHeld2 => ?_)
  clear hK K hHeld
  have hHeld := hHeld2
  clear hHeld2
  try simp only [Act.put, List.setIfInBounds_toArray, List.set_cons_zero, List.set_cons_succ, List.getElem_toArray, List.getElem_cons_zero, List.getElem_cons_succ]
  refine wpAnyH_ready (rs := [10]) (by kernel_rfl) (by simp) ?_
  refine AllReadyH.cons rfl (fun K hK => ?_) AllReadyH.nil
  try simp only [Act.put, List.setIfInBounds_toArray, List.set_cons_zero, List.set_cons_succ, List.getElem_toArray, List.getElem_cons_zero, List.getElem_cons_succ]
  go_simp
  refine hK.out _ _ (OS.alloc hHeld _) (fun hHeld2 => ?_)
  clear hK K hHeld
  have hHeld := hHeld2
  clear hHeld2
  try simp only [Act.put, List.setIfInBounds_toArray, List.set_cons_zero, List.set_cons_succ, List.getElem_toArray, List.getElem_cons_zero, List.getElem_cons_succ]
  have HN := hide (Blk.new wd 3 #[.int .i64 c1, .int .i64 c2])
  generalize wd.alloc (.cells #[.int .i64 c1, .int .i64 c2] 3) = wn at *
  generalize wd.heap.size = gn at *
  refine wpAnyH_ready (rs := [11]) (by kernel_rfl) (by simp) ?_
  refine AllReadyH.cons rfl (fun K hK => ?_) AllReadyH.nil
  try simp only [Act.put, List.setIfInBounds_toArray, List.set_cons_zero, List.set_cons_succ, List.getElem_toArray, List.getElem_cons_zero, List.getElem_cons_succ]
  go_simp
  go_at_call 67
  refine (or_any _ c1 c2 _ HN.out).mono ?_
  rintro e wq ⟨rfl, rfl⟩
  refine hK.out _ _ hHeld (fun hHeld2 => ?_)
  clear hK K hHeld
  have hHeld := hHeld2
  clear hHeld2
  try simp only [Act.put, List.setIfInBounds_toArray, List.set_cons_zero, List.set_cons_succ, List.getElem_toArray, List.getElem_cons_zero, List.getElem_cons_succ]
  refine wpAnyH_take (i := 12) (v := .int .i64 (orI c1 c2)) rfl (by kernel_rfl) (by kernel_rfl) (by kernel_rfl) (fun _ _ _ h => h) (Or.inl ⟨by rfl, fun W hS => by clear hS hHeld; go_simp⟩) hHeld ?_
  try simp only [Act.put, List.setIfInBounds_toArray, List.set_cons_zero, List.set_cons_succ, List.getElem_toArray, List.getElem_cons_zero, List.getElem_cons_succ]
  refine wpAnyH_done (by kernel_rfl) ?_ _
  go_wp2
  go_ret
  exact ⟨rfl, OS.gr hHeld⟩
set_option maxHeartbeats 4000000 in
set_option maxRecDepth 100000 in
theorem place_any (a b : Spt) (w : World) : Calls Tryz.prog 55 #[.agg #[.int .u64 a.1.1, .int .u64 a.1.2, .int .i64 a.2], .agg #[.int .u64 b.1.1, .int .u64 b.1.2, .int .i64 b.2]] w fun e w' => e = .returned (.int .i64 (sptO a b)) ∧ Grown w w' := by
  obtain ⟨⟨a1, a2⟩, a3⟩ := a
  obtain ⟨⟨b1, b2⟩, b3⟩ := b
  have h1 := fun W => order_any (a1, a2) (b1, b2) W
  have h2 := fun W => cmpI_any a3 b3 W
  show Calls _ _ _ _ fun e w' => e = .returned (.int .i64 (orI (hitO (a1, a2) (b1, b2)) (compareInt a3 b3))) ∧ Grown w w'
  generalize hitO (a1, a2) (b1, b2) = c1 at *
  generalize compareInt a3 b3 = c2 at *
  have H1 := hide h1
  have H2 := hide h2
  have HS := hide (OS.start w 60 #[.int .u64 a1, .int .u64 a2, .int .i64 a3] #[.int .u64 b1, .int .u64 b2, .int .i64 b3]).drew
  clear h1 h2
  go_enter Tryz.func55, Tryz.ntmps55
  go_upto_region 1 with fail
  refine wp_region_held_drew (S := OS w 60 w.heap.size (w.heap.size + 1) #[.int .u64 a1, .int .u64 a2, .int .i64 a3] #[.int .u64 b1, .int .u64 b2, .int .i64 b3]) (by kernel_rfl) HS.out (fun hHeld => ?_)
  clear HS
  generalize ((w.alloc (.cells #[.int .u64 a1, .int .u64 a2, .int .i64 a3] 60)).alloc (.cells #[.int .u64 b1, .int .u64 b2, .int .i64 b3] 60)).drew = wd at *
  generalize w.heap.size = g at *
  refine wpAnyH_take (i := 0) (v := .pointer (some ⟨g, 0, none⟩)) rfl (by kernel_rfl) (by kernel_rfl) (by kernel_rfl) (fun _ _ _ h => h) (Or.inl ⟨by rfl, fun W hS => by clear hS hHeld; go_simp⟩) hHeld ?_
  try simp only [Act.put, List.setIfInBounds_toArray, List.set_cons_zero, List.set_cons_succ, List.getElem_toArray, List.getElem_cons_zero, List.getElem_cons_succ]
  refine wpAnyH_take (i := 1) (v := .agg #[.int .u64 a1, .int .u64 a2]) rfl (by kernel_rfl) (by kernel_rfl) (by kernel_rfl) (fun _ _ _ h => h) (Or.inl ⟨by rfl, fun W hS => by have zl0 : W.cell? ⟨g, 0, none⟩ = some (.int .u64 a1) := (OS.l hS 0); have zl1 : W.cell? ⟨g, 1, none⟩ = some (.int .u64 a2) := (OS.l hS 1); clear hS hHeld; go_simp⟩) hHeld ?_
  try simp only [Act.put, List.setIfInBounds_toArray, List.set_cons_zero, List.set_cons_succ, List.getElem_toArray, List.getElem_cons_zero, List.getElem_cons_succ]
  refine wpAnyH_take (i := 2) (v := .pointer (some ⟨g + 1, 0, none⟩)) rfl (by kernel_rfl) (by kernel_rfl) (by kernel_rfl) (fun _ _ _ h => h) (Or.inl ⟨by rfl, fun W hS => by clear hS hHeld; go_simp⟩) hHeld ?_
  try simp only [Act.put, List.setIfInBounds_toArray, List.set_cons_zero, List.set_cons_succ, List.getElem_toArray, List.getElem_cons_zero, List.getElem_cons_succ]
  refine wpAnyH_take (i := 3) (v := .agg #[.int .u64 b1, .int .u64 b2]) rfl (by kernel_rfl) (by kernel_rfl) (by kernel_rfl) (fun _ _ _ h => h) (Or.inl ⟨by rfl, fun W hS => by have zr0 : W.cell? ⟨g + 1, 0, none⟩ = some (.int .u64 b1) := (OS.r hS 0); have zr1 : W.cell? ⟨g + 1, 1, none⟩ = some (.int .u64 b2) := (OS.r hS 1); clear hS hHeld; go_simp⟩) hHeld ?_
  try simp only [Act.put, List.setIfInBounds_toArray, List.set_cons_zero, List.set_cons_succ, List.getElem_toArray, List.getElem_cons_zero, List.getElem_cons_succ]
  refine wpAnyH_take (i := 5) (v := .pointer (some ⟨g, 2, none⟩)) rfl (by kernel_rfl) (by kernel_rfl) (by kernel_rfl) (fun _ _ _ h => h) (Or.inl ⟨by rfl, fun W hS => by clear hS hHeld; go_simp⟩) hHeld ?_
  try simp only [Act.put, List.setIfInBounds_toArray, List.set_cons_zero, List.set_cons_succ, List.getElem_toArray, List.getElem_cons_zero, List.getElem_cons_succ]
  refine wpAnyH_take (i := 6) (v := .int .i64 a3) rfl (by kernel_rfl) (by kernel_rfl) (by kernel_rfl) (fun _ _ _ h => h) (Or.inl ⟨by rfl, fun W hS => by have zl2 : W.cell? ⟨g, 2, none⟩ = some (.int .i64 a3) := (OS.l hS 2); clear hS hHeld; go_simp⟩) hHeld ?_
  try simp only [Act.put, List.setIfInBounds_toArray, List.set_cons_zero, List.set_cons_succ, List.getElem_toArray, List.getElem_cons_zero, List.getElem_cons_succ]
  refine wpAnyH_take (i := 7) (v := .pointer (some ⟨g + 1, 2, none⟩)) rfl (by kernel_rfl) (by kernel_rfl) (by kernel_rfl) (fun _ _ _ h => h) (Or.inl ⟨by rfl, fun W hS => by clear hS hHeld; go_simp⟩) hHeld ?_
  try simp only [Act.put, List.setIfInBounds_toArray, List.set_cons_zero, List.set_cons_succ, List.getElem_toArray, List.getElem_cons_zero, List.getElem_cons_succ]
  refine wpAnyH_take (i := 8) (v := .int .i64 b3) rfl (by kernel_rfl) (by kernel_rfl) (by kernel_rfl) (fun _ _ _ h => h) (Or.inl ⟨by rfl, fun W hS => by have zr2 : W.cell? ⟨g + 1, 2, none⟩ = some (.int .i64 b3) := (OS.r hS 2); clear hS hHeld; go_simp⟩) hHeld ?_
  try simp only [Act.put, List.setIfInBounds_toArray, List.set_cons_zero, List.set_cons_succ, List.getElem_toArray, List.getElem_cons_zero, List.getElem_cons_succ]
  refine wpAnyH_ready (rs := [4]) (by kernel_rfl) (by simp) ?_
  refine AllReadyH.cons rfl (fun K hK => ?_) AllReadyH.nil
  try simp only [Act.put, List.setIfInBounds_toArray, List.set_cons_zero, List.set_cons_succ, List.getElem_toArray, List.getElem_cons_zero, List.getElem_cons_succ]
  go_simp
  go_at_call 68
  refine (H1.out _).mono ?_
  rintro e wq ⟨rfl, hg⟩
  refine hK.out _ _ (OS.grown hHeld hg) (fun hHeld2 => ?_)
  clear hK K hHeld
  have hHeld := hHeld2
  clear hHeld2
  try simp only [Act.put, List.setIfInBounds_toArray, List.set_cons_zero, List.set_cons_succ, List.getElem_toArray, List.getElem_cons_zero, List.getElem_cons_succ]
  clear hg
  refine wpAnyH_ready (rs := [9]) (by kernel_rfl) (by simp) ?_
  refine AllReadyH.cons rfl (fun K hK => ?_) AllReadyH.nil
  try simp only [Act.put, List.setIfInBounds_toArray, List.set_cons_zero, List.set_cons_succ, List.getElem_toArray, List.getElem_cons_zero, List.getElem_cons_succ]
  go_simp
  go_at_call 69
  refine (H2.out _).mono ?_
  rintro e wz ⟨rfl, rfl⟩
  refine hK.out _ _ hHeld (fun hHeld2 => ?_)
  clear hK K hHeld
  have hHeld := hHeld2
  clear hHeld2
  try simp only [Act.put, List.setIfInBounds_toArray, List.set_cons_zero, List.set_cons_succ, List.getElem_toArray, List.getElem_cons_zero, List.getElem_cons_succ]
  refine wpAnyH_ready (rs := [10]) (by kernel_rfl) (by simp) ?_
  refine AllReadyH.cons rfl (fun K hK => ?_) AllReadyH.nil
  try simp only [Act.put, List.setIfInBounds_toArray, List.set_cons_zero, List.set_cons_succ, List.getElem_toArray, List.getElem_cons_zero, List.getElem_cons_succ]
  go_simp
  refine hK.out _ _ (OS.alloc hHeld _) (fun hHeld2 => ?_)
  clear hK K hHeld
  have hHeld := hHeld2
  clear hHeld2
  try simp only [Act.put, List.setIfInBounds_toArray, List.set_cons_zero, List.set_cons_succ, List.getElem_toArray, List.getElem_cons_zero, List.getElem_cons_succ]
  have HN := hide (Blk.new wq 3 #[.int .i64 c1, .int .i64 c2])
  generalize wq.alloc (.cells #[.int .i64 c1, .int .i64 c2] 3) = wn at *
  generalize wq.heap.size = gn at *
  refine wpAnyH_ready (rs := [11]) (by kernel_rfl) (by simp) ?_
  refine AllReadyH.cons rfl (fun K hK => ?_) AllReadyH.nil
  try simp only [Act.put, List.setIfInBounds_toArray, List.set_cons_zero, List.set_cons_succ, List.getElem_toArray, List.getElem_cons_zero, List.getElem_cons_succ]
  go_simp
  go_at_call 67
  refine (or_any _ c1 c2 _ HN.out).mono ?_
  rintro e wz ⟨rfl, rfl⟩
  refine hK.out _ _ hHeld (fun hHeld2 => ?_)
  clear hK K hHeld
  have hHeld := hHeld2
  clear hHeld2
  try simp only [Act.put, List.setIfInBounds_toArray, List.set_cons_zero, List.set_cons_succ, List.getElem_toArray, List.getElem_cons_zero, List.getElem_cons_succ]
  refine wpAnyH_take (i := 12) (v := .int .i64 (orI c1 c2)) rfl (by kernel_rfl) (by kernel_rfl) (by kernel_rfl) (fun _ _ _ h => h) (Or.inl ⟨by rfl, fun W hS => by clear hS hHeld; go_simp⟩) hHeld ?_
  try simp only [Act.put, List.setIfInBounds_toArray, List.set_cons_zero, List.set_cons_succ, List.getElem_toArray, List.getElem_cons_zero, List.getElem_cons_succ]
  refine wpAnyH_done (by kernel_rfl) ?_ _
  go_wp2
  go_ret
  exact ⟨rfl, OS.gr hHeld⟩
end Go.Proofs.YtgiplahhalgbdaaGreat

/-
  The package rank: Hit, Spot, and the reference's. No condition.
-/
namespace Go.Proofs.YtgiplahhalgbdaaGreat
set_option linter.unusedSimpArgs false
set_option linter.unusedVariables false
open Go.RowKit Go.Lib Go.Sort

set_option maxHeartbeats 1000000 in
theorem spot_any (a b : Spt) (w : World) : Calls Tryz.prog 91 #[.agg #[.int .u64 a.1.1, .int .u64 a.1.2, .int .i64 a.2], .agg #[.int .u64 b.1.1, .int .u64 b.1.2, .int .i64 b.2]] w fun e w' => e = .returned (.bool (sptLt a b)) ∧ Below w.heap.size w w' := by
  have H1 := hide fun W => place_any a b W
  have HR := hide (sptO_neg a b)
  generalize sptO a b = c at *
  generalize sptLt a b = r at *
  obtain ⟨⟨a1, a2⟩, a3⟩ := a
  obtain ⟨⟨b1, b2⟩, b3⟩ := b
  have HB := hide (((Grown.refl w).alloc (.cells #[.int .u64 a1, .int .u64 a2, .int .i64 a3] 60)).alloc (.cells #[.int .u64 b1, .int .u64 b2, .int .i64 b3] 60))
  go_enter Tryz.func91, Tryz.ntmps91
  go_wp2_with fail
  refine (H1.out _).mono ?_
  rintro e wq ⟨rfl, hg⟩
  have HG := hide (HB.out.trans hg)
  clear hg HB
  go_wp2
  go_ret
  exact ⟨congrArg (fun z => Ending.returned (Value.bool z)) HR.out, HG.out.below⟩
theorem hitLt_eq (a1 a2 b1 b2 : Int) : hitLt (a1, a2) (b1, b2) = if a1 = b1 then decide (a2 < b2) else decide (a1 < b1) := by
  unfold hitLt
  by_cases h : a1 = b1
  · simp [h]
  · simp [h]
theorem sptLt_eq (a b : Spt) : sptLt a b = if a.1 = b.1 then decide (a.2 < b.2) else hitLt a.1 b.1 := by
  unfold sptLt
  by_cases h : a.1 = b.1
  · have : hitLt b.1 b.1 = false := by simp [hitLt]
    simp [h, this]
  · simp [h]
end Go.Proofs.YtgiplahhalgbdaaGreat
