/-
  The law RankOrder. No condition.
-/
import Derived.Test.YtohccblecgmdbaaRnkQ
namespace Go.Proofs.Ytohccblecgmdbaa
open Go.RowKit

section
variable {P : Program} {ops : Array Oper} {Q : Exit → Act → World → Prop} {md : Region.Mode} {S : World → Prop}
theorem wpAnyH_mergeT {T : Type} {fuel : Nat} {listed : Array Bool} {a : Act} {w : World} (fuel' : Nat) (listed' : Array Bool) (F : T → Act → Act) (G : T → World → Prop)
    (h1 : ∀ (p : T) (W : World), S W → G p W → wpAnyH P md ops Q S fuel' listed' (F p a) W)
    (h2 : (∀ (p : T) (W : World), S W → G p W → wpAnyH P md ops Q S fuel' listed' (F p a) W) → wpAnyH P md ops Q S fuel listed a w) : wpAnyH P md ops Q S fuel listed a w := h2 h1
end
theorem lt_cases {α : Type} {lt : α → α → Bool} (hS : Go.Sort.SWO lt) (hT : ∀ x y, lt x y = false → lt y x = false → x = y) (a b c : α) :
    (lt a b = true ∧ lt b a = false ∧ a ≠ b ∧ lt b c = true ∧ lt a c = true) ∨ (lt a b = true ∧ lt b a = false ∧ a ≠ b ∧ lt b c = false) ∨ (lt a b = false ∧ lt b a = true ∧ a ≠ b) ∨ (lt a b = false ∧ lt b a = false ∧ a = b) := by
  cases h1 : lt a b with
  | true =>
    have h2 := lt_asymm hS h1
    have hne : a ≠ b := fun e => by subst e; rw [hS.irrefl] at h1; cases h1
    cases h3 : lt b c with
    | true => exact .inl ⟨rfl, h2, hne, rfl, hS.trans a b c h1 h3⟩
    | false => exact .inr (.inl ⟨rfl, h2, hne, rfl⟩)
  | false =>
    cases h2 : lt b a with
    | true => exact .inr (.inr (.inl ⟨rfl, rfl, fun e => by subst e; rw [hS.irrefl] at h2; cases h2⟩))
    | false => exact .inr (.inr (.inr ⟨rfl, rfl, hT a b h1 h2⟩))
theorem spot_of_hit {a b : Spt} (h : hitLt a.1 b.1 = true) : sptLt a b = true := by
  rw [sptLt_iff]; rw [hitLt_iff] at h; omega
theorem spotR {a1 a2 a3 b1 b2 b3 : Int} {r : Bool} (h : sptLt ((a1, a2), a3) ((b1, b2), b3) = r) (w : World) : Calls Try.prog 17 #[.agg #[.int .u64 a1, .int .u64 a2, .int .i64 a3], .agg #[.int .u64 b1, .int .u64 b2, .int .i64 b3]] w fun e w' => e = .returned (.bool r) ∧ Below w.heap.size w w' :=
  (spot_any ((a1, a2), a3) ((b1, b2), b3) w).mono fun _ _ ⟨x, hb⟩ => ⟨by rw [x, h], hb⟩
theorem hitR {a1 a2 b1 b2 : Int} {r : Bool} (h : hitLt (a1, a2) (b1, b2) = r) (w : World) : Calls Try.prog 18 #[.agg #[.int .u64 a1, .int .u64 a2], .agg #[.int .u64 b1, .int .u64 b2]] w fun e w' => e = .returned (.bool r) ∧ Below w.heap.size w w' :=
  (hit_any (a1, a2) (b1, b2) w).mono fun _ _ ⟨x, hb⟩ => ⟨by rw [x, h], hb⟩
set_option maxHeartbeats 16000000 in
set_option maxRecDepth 100000 in
theorem rorder_any (a1 a2 a3 b1 b2 b3 c1 c2 c3 : Int) (w : World) : Calls Try.prog 4 #[.agg #[.int .u64 a1, .int .u64 a2, .int .i64 a3], .agg #[.int .u64 b1, .int .u64 b2, .int .i64 b3], .agg #[.int .u64 c1, .int .u64 c2, .int .i64 c3]] w fun e w' => e = .returned (.bool true) ∧ Below w.heap.size w w' := by
  have HA := hide (((Blk.new w 36 #[.int .u64 a1, .int .u64 a2, .int .i64 a3]).alloc (.cells #[.int .u64 b1, .int .u64 b2, .int .i64 b3] 36)).alloc (.cells #[.int .u64 c1, .int .u64 c2, .int .i64 c3] 36))
  have HB := hide ((Blk.new (w.alloc (.cells #[.int .u64 a1, .int .u64 a2, .int .i64 a3] 36)) 36 #[.int .u64 b1, .int .u64 b2, .int .i64 b3]).alloc (.cells #[.int .u64 c1, .int .u64 c2, .int .i64 c3] 36))
  have HC := hide (Blk.new ((w.alloc (.cells #[.int .u64 a1, .int .u64 a2, .int .i64 a3] 36)).alloc (.cells #[.int .u64 b1, .int .u64 b2, .int .i64 b3] 36)) 36 #[.int .u64 c1, .int .u64 c2, .int .i64 c3])
  have HW := hide ((((Below.refl w.heap.size w).alloc (Nat.le_refl _) (.cells #[.int .u64 a1, .int .u64 a2, .int .i64 a3] 36)).alloc (by simp) (.cells #[.int .u64 b1, .int .u64 b2, .int .i64 b3] 36)).alloc (by simp; omega) (.cells #[.int .u64 c1, .int .u64 c2, .int .i64 c3] 36))
  rw [show (w.alloc (.cells #[.int .u64 a1, .int .u64 a2, .int .i64 a3] 36)).heap.size = w.heap.size + 1 by simp] at HB
  rw [show ((w.alloc (.cells #[.int .u64 a1, .int .u64 a2, .int .i64 a3] 36)).alloc (.cells #[.int .u64 b1, .int .u64 b2, .int .i64 b3] 36)).heap.size = w.heap.size + 1 + 1 by simp] at HC
  go_enter Try.func4, Try.ntmps4
  go_upto_region 1 with fail
  generalize ((w.alloc (.cells #[.int .u64 a1, .int .u64 a2, .int .i64 a3] 36)).alloc (.cells #[.int .u64 b1, .int .u64 b2, .int .i64 b3] 36)).alloc (.cells #[.int .u64 c1, .int .u64 c2, .int .i64 c3] 36) = w1 at *
  go_upto_region 3 with (go_at_call 6; refine (lives_any _).mono ?_; rintro e w2 ⟨rfl, hb⟩; replace HA := hide (HA.out.below hb HA.out.lt); replace HB := hide (HB.out.below hb HB.out.lt); replace HC := hide (HC.out.below hb HC.out.lt); replace HW := hide (Below.step HW.out hb); clear hb)
  generalize w.heap.size + 1 + 1 = gc at *
  generalize w.heap.size + 1 = gb at *
  refine wp_region_held_drew (S := Below w2.heap.size w2) (by kernel_rfl) (Below.refl _ _).drew (fun hHeld => ?_)
  generalize World.drew _ = W0 at *
  refine wpAnyH_mergeT (T := Value × Value × Value × Value × Value × Value × Value × Value × Value × Value × Value × Value × Value × Value × Value × Value × Value × Value × Value × Value × Value × Value × Value × Value × Value × Value × Value × Value × Value × Value × Value × Value × Value × Value × Value × Value × Value) 0 #[true, true, true, true, true, true, true, true, true, true, true, true, true, true, true, true, true, true, true, true, true, true, true, true, true, true, true, true, true, true, true, true, true, true, true, true, true, true] (fun p a => ⟨((((((((((((((((((((((((((((((((((((((a.tmps.setIfInBounds 12 p.1).setIfInBounds 13 p.2.1).setIfInBounds 14 p.2.2.1).setIfInBounds 15 p.2.2.2.1).setIfInBounds 16 p.2.2.2.2.1).setIfInBounds 17 p.2.2.2.2.2.1).setIfInBounds 18 p.2.2.2.2.2.2.1).setIfInBounds 19 p.2.2.2.2.2.2.2.1).setIfInBounds 20 p.2.2.2.2.2.2.2.2.1).setIfInBounds 21 p.2.2.2.2.2.2.2.2.2.1).setIfInBounds 22 p.2.2.2.2.2.2.2.2.2.2.1).setIfInBounds 23 p.2.2.2.2.2.2.2.2.2.2.2.1).setIfInBounds 24 p.2.2.2.2.2.2.2.2.2.2.2.2.1).setIfInBounds 25 p.2.2.2.2.2.2.2.2.2.2.2.2.2.1).setIfInBounds 26 p.2.2.2.2.2.2.2.2.2.2.2.2.2.2.1).setIfInBounds 27 p.2.2.2.2.2.2.2.2.2.2.2.2.2.2.2.1).setIfInBounds 28 p.2.2.2.2.2.2.2.2.2.2.2.2.2.2.2.2.1).setIfInBounds 29 p.2.2.2.2.2.2.2.2.2.2.2.2.2.2.2.2.2.1).setIfInBounds 30 p.2.2.2.2.2.2.2.2.2.2.2.2.2.2.2.2.2.2.1).setIfInBounds 31 p.2.2.2.2.2.2.2.2.2.2.2.2.2.2.2.2.2.2.2.1).setIfInBounds 32 p.2.2.2.2.2.2.2.2.2.2.2.2.2.2.2.2.2.2.2.2.1).setIfInBounds 33 p.2.2.2.2.2.2.2.2.2.2.2.2.2.2.2.2.2.2.2.2.2.1).setIfInBounds 34 p.2.2.2.2.2.2.2.2.2.2.2.2.2.2.2.2.2.2.2.2.2.2.1).setIfInBounds 35 p.2.2.2.2.2.2.2.2.2.2.2.2.2.2.2.2.2.2.2.2.2.2.2.1).setIfInBounds 36 p.2.2.2.2.2.2.2.2.2.2.2.2.2.2.2.2.2.2.2.2.2.2.2.2.1).setIfInBounds 37 p.2.2.2.2.2.2.2.2.2.2.2.2.2.2.2.2.2.2.2.2.2.2.2.2.2.1).setIfInBounds 38 p.2.2.2.2.2.2.2.2.2.2.2.2.2.2.2.2.2.2.2.2.2.2.2.2.2.2.1).setIfInBounds 39 p.2.2.2.2.2.2.2.2.2.2.2.2.2.2.2.2.2.2.2.2.2.2.2.2.2.2.2.1).setIfInBounds 40 p.2.2.2.2.2.2.2.2.2.2.2.2.2.2.2.2.2.2.2.2.2.2.2.2.2.2.2.2.1).setIfInBounds 41 p.2.2.2.2.2.2.2.2.2.2.2.2.2.2.2.2.2.2.2.2.2.2.2.2.2.2.2.2.2.1).setIfInBounds 42 p.2.2.2.2.2.2.2.2.2.2.2.2.2.2.2.2.2.2.2.2.2.2.2.2.2.2.2.2.2.2.1).setIfInBounds 43 p.2.2.2.2.2.2.2.2.2.2.2.2.2.2.2.2.2.2.2.2.2.2.2.2.2.2.2.2.2.2.2.1).setIfInBounds 44 p.2.2.2.2.2.2.2.2.2.2.2.2.2.2.2.2.2.2.2.2.2.2.2.2.2.2.2.2.2.2.2.2.1).setIfInBounds 45 p.2.2.2.2.2.2.2.2.2.2.2.2.2.2.2.2.2.2.2.2.2.2.2.2.2.2.2.2.2.2.2.2.2.1).setIfInBounds 46 p.2.2.2.2.2.2.2.2.2.2.2.2.2.2.2.2.2.2.2.2.2.2.2.2.2.2.2.2.2.2.2.2.2.2.1).setIfInBounds 47 p.2.2.2.2.2.2.2.2.2.2.2.2.2.2.2.2.2.2.2.2.2.2.2.2.2.2.2.2.2.2.2.2.2.2.2.1).setIfInBounds 48 p.2.2.2.2.2.2.2.2.2.2.2.2.2.2.2.2.2.2.2.2.2.2.2.2.2.2.2.2.2.2.2.2.2.2.2.2).setIfInBounds 49 (.bool false)), a.defers⟩) (fun _ _ => True) (fun p W hHeld hG => ?_) (fun htail => ?_)
  · try simp only [Act.put, List.setIfInBounds_toArray, List.set_cons_zero, List.set_cons_succ, List.getElem_toArray, List.getElem_cons_zero, List.getElem_cons_succ]
    clear hG
    generalize W = W1 at *
    replace HA := hide (HA.out.below hHeld HA.out.lt)
    replace HB := hide (HB.out.below hHeld HB.out.lt)
    replace HC := hide (HC.out.below hHeld HC.out.lt)
    replace HW := hide (Below.step HW.out hHeld)
    clear hHeld
    refine wpAnyH_done (by kernel_rfl) ?_ _
    go_upto_region 5 with fail
    refine wp_region_held_drew (S := Below W1.heap.size W1) (by kernel_rfl) (Below.refl _ _).drew (fun hHeld => ?_)
    generalize World.drew _ = V0 at *
    refine wpAnyH_take (i := 0) (v := .pointer (some ⟨w.heap.size, 0, none⟩)) rfl (by kernel_rfl) (by kernel_rfl) (by kernel_rfl) (fun _ _ _ h => h) (Or.inl ⟨by rfl, fun W hS => by clear hS hHeld; go_simp⟩) hHeld ?_
    try simp only [Act.put, List.setIfInBounds_toArray, List.set_cons_zero, List.set_cons_succ, List.getElem_toArray, List.getElem_cons_zero, List.getElem_cons_succ]
    refine wpAnyH_take (i := 1) (v := .agg #[.int .u64 a1, .int .u64 a2]) rfl (by kernel_rfl) (by kernel_rfl) (by kernel_rfl) (fun _ _ _ h => h) (Or.inl ⟨by rfl, fun W hS => by have hl := HA.out.lt; have hk : ∀ j, W.cell? ⟨w.heap.size, j, none⟩ = W1.cell? ⟨w.heap.size, j, none⟩ := fun j => Below.cell hS hl; have z0 : W.cell? ⟨w.heap.size, 0, none⟩ = some (.int .u64 a1) := (hk 0).trans (HA.out.cell 0); have z1 : W.cell? ⟨w.heap.size, 1, none⟩ = some (.int .u64 a2) := (hk 1).trans (HA.out.cell 1); clear hk hl; clear hS hHeld; go_simp⟩) hHeld ?_
    try simp only [Act.put, List.setIfInBounds_toArray, List.set_cons_zero, List.set_cons_succ, List.getElem_toArray, List.getElem_cons_zero, List.getElem_cons_succ]
    refine wpAnyH_take (i := 2) (v := .pointer (some ⟨gb, 0, none⟩)) rfl (by kernel_rfl) (by kernel_rfl) (by kernel_rfl) (fun _ _ _ h => h) (Or.inl ⟨by rfl, fun W hS => by clear hS hHeld; go_simp⟩) hHeld ?_
    try simp only [Act.put, List.setIfInBounds_toArray, List.set_cons_zero, List.set_cons_succ, List.getElem_toArray, List.getElem_cons_zero, List.getElem_cons_succ]
    refine wpAnyH_take (i := 3) (v := .agg #[.int .u64 b1, .int .u64 b2]) rfl (by kernel_rfl) (by kernel_rfl) (by kernel_rfl) (fun _ _ _ h => h) (Or.inl ⟨by rfl, fun W hS => by have hl := HB.out.lt; have hk : ∀ j, W.cell? ⟨gb, j, none⟩ = W1.cell? ⟨gb, j, none⟩ := fun j => Below.cell hS hl; have z0 : W.cell? ⟨gb, 0, none⟩ = some (.int .u64 b1) := (hk 0).trans (HB.out.cell 0); have z1 : W.cell? ⟨gb, 1, none⟩ = some (.int .u64 b2) := (hk 1).trans (HB.out.cell 1); clear hk hl; clear hS hHeld; go_simp⟩) hHeld ?_
    try simp only [Act.put, List.setIfInBounds_toArray, List.set_cons_zero, List.set_cons_succ, List.getElem_toArray, List.getElem_cons_zero, List.getElem_cons_succ]
    refine wpAnyH_take (i := 4) (v := .pointer (some ⟨gc, 0, none⟩)) rfl (by kernel_rfl) (by kernel_rfl) (by kernel_rfl) (fun _ _ _ h => h) (Or.inl ⟨by rfl, fun W hS => by clear hS hHeld; go_simp⟩) hHeld ?_
    try simp only [Act.put, List.setIfInBounds_toArray, List.set_cons_zero, List.set_cons_succ, List.getElem_toArray, List.getElem_cons_zero, List.getElem_cons_succ]
    refine wpAnyH_take (i := 5) (v := .agg #[.int .u64 c1, .int .u64 c2]) rfl (by kernel_rfl) (by kernel_rfl) (by kernel_rfl) (fun _ _ _ h => h) (Or.inl ⟨by rfl, fun W hS => by have hl := HC.out.lt; have hk : ∀ j, W.cell? ⟨gc, j, none⟩ = W1.cell? ⟨gc, j, none⟩ := fun j => Below.cell hS hl; have z0 : W.cell? ⟨gc, 0, none⟩ = some (.int .u64 c1) := (hk 0).trans (HC.out.cell 0); have z1 : W.cell? ⟨gc, 1, none⟩ = some (.int .u64 c2) := (hk 1).trans (HC.out.cell 1); clear hk hl; clear hS hHeld; go_simp⟩) hHeld ?_
    try simp only [Act.put, List.setIfInBounds_toArray, List.set_cons_zero, List.set_cons_succ, List.getElem_toArray, List.getElem_cons_zero, List.getElem_cons_succ]
    refine wpAnyH_mergeT (T := Value × Value × Value) 0 #[true, true, true, true, true, true, true, true, true, true, true, true] (fun p a => ⟨(((a.tmps.setIfInBounds 7 p.1).setIfInBounds 8 p.2.1).setIfInBounds 9 p.2.2), a.defers⟩) (fun p W => ∃ g7 g8 g9, p = (.pointer (some ⟨g7, 0, none⟩), .pointer (some ⟨g8, 0, none⟩), .pointer (some ⟨g9, 0, none⟩)) ∧ Hid (Blk W g7 34 #[.int .u64 a1, .int .u64 a2]) ∧ Hid (Blk W g8 34 #[.int .u64 b1, .int .u64 b2]) ∧ Hid (Blk W g9 34 #[.int .u64 c1, .int .u64 c2])) (fun p W hHeld hG => ?_) (fun htail => ?_)
    · obtain ⟨ga, gd, ge, rfl, KA, KB, KC⟩ := hG
      try simp only [Act.put, List.setIfInBounds_toArray, List.set_cons_zero, List.set_cons_succ, List.getElem_toArray, List.getElem_cons_zero, List.getElem_cons_succ]
      replace HA := hide (HA.out.below hHeld HA.out.lt)
      replace HB := hide (HB.out.below hHeld HB.out.lt)
      replace HC := hide (HC.out.below hHeld HC.out.lt)
      replace HW := hide (Below.step HW.out hHeld)
      clear hHeld
      generalize W = w4 at *
      refine wpAnyH_done (by kernel_rfl) ?_ _
      go_upto_region 6 with fail
      rcases lt_cases swoH totH (a1, a2) (b1, b2) (c1, c2) with ⟨h1, h2, hne, h3, h4⟩ | ⟨h1, h2, hne, h3⟩ | ⟨h1, h2, hne⟩ | ⟨h1, h2, heq⟩
      · have he := run_eql_hit a1 a2 b1 b2 (hit_other hne)
        clear hne
        refine wp_region_held_drew (S := Below w4.heap.size w4) (by kernel_rfl) (Below.refl _ _).drew (fun hHeld => ?_)
        generalize World.drew _ = W2 at *
        refine wpAnyH_take (i := 0) (v := .agg #[.int .u64 a1, .int .u64 a2]) rfl (by kernel_rfl) (by kernel_rfl) (by kernel_rfl) (fun _ _ _ h => h) (Or.inl ⟨by rfl, fun W hS => by have hl := KA.out.lt; have hk : ∀ j, W.cell? ⟨ga, j, none⟩ = w4.cell? ⟨ga, j, none⟩ := fun j => Below.cell hS hl; have z0 : W.cell? ⟨ga, 0, none⟩ = some (.int .u64 a1) := (hk 0).trans (KA.out.cell 0); have z1 : W.cell? ⟨ga, 1, none⟩ = some (.int .u64 a2) := (hk 1).trans (KA.out.cell 1); clear hk hl; clear hS hHeld; go_simp⟩) hHeld ?_
        try simp only [Act.put, List.setIfInBounds_toArray, List.set_cons_zero, List.set_cons_succ, List.getElem_toArray, List.getElem_cons_zero, List.getElem_cons_succ]
        refine wpAnyH_take (i := 1) (v := .agg #[.int .u64 b1, .int .u64 b2]) rfl (by kernel_rfl) (by kernel_rfl) (by kernel_rfl) (fun _ _ _ h => h) (Or.inl ⟨by rfl, fun W hS => by have hl := KB.out.lt; have hk : ∀ j, W.cell? ⟨gd, j, none⟩ = w4.cell? ⟨gd, j, none⟩ := fun j => Below.cell hS hl; have z0 : W.cell? ⟨gd, 0, none⟩ = some (.int .u64 b1) := (hk 0).trans (KB.out.cell 0); have z1 : W.cell? ⟨gd, 1, none⟩ = some (.int .u64 b2) := (hk 1).trans (KB.out.cell 1); clear hk hl; clear hS hHeld; go_simp⟩) hHeld ?_
        try simp only [Act.put, List.setIfInBounds_toArray, List.set_cons_zero, List.set_cons_succ, List.getElem_toArray, List.getElem_cons_zero, List.getElem_cons_succ]
        refine wpAnyH_take (i := 8) (v := .agg #[.int .u64 a1, .int .u64 a2]) rfl (by kernel_rfl) (by kernel_rfl) (by kernel_rfl) (fun _ _ _ h => h) (Or.inl ⟨by rfl, fun W hS => by have hl := KA.out.lt; have hk : ∀ j, W.cell? ⟨ga, j, none⟩ = w4.cell? ⟨ga, j, none⟩ := fun j => Below.cell hS hl; have z0 : W.cell? ⟨ga, 0, none⟩ = some (.int .u64 a1) := (hk 0).trans (KA.out.cell 0); have z1 : W.cell? ⟨ga, 1, none⟩ = some (.int .u64 a2) := (hk 1).trans (KA.out.cell 1); clear hk hl; clear hS hHeld; go_simp⟩) hHeld ?_
        try simp only [Act.put, List.setIfInBounds_toArray, List.set_cons_zero, List.set_cons_succ, List.getElem_toArray, List.getElem_cons_zero, List.getElem_cons_succ]
        refine wpAnyH_take (i := 9) (v := .agg #[.int .u64 b1, .int .u64 b2]) rfl (by kernel_rfl) (by kernel_rfl) (by kernel_rfl) (fun _ _ _ h => h) (Or.inl ⟨by rfl, fun W hS => by have hl := KB.out.lt; have hk : ∀ j, W.cell? ⟨gd, j, none⟩ = w4.cell? ⟨gd, j, none⟩ := fun j => Below.cell hS hl; have z0 : W.cell? ⟨gd, 0, none⟩ = some (.int .u64 b1) := (hk 0).trans (KB.out.cell 0); have z1 : W.cell? ⟨gd, 1, none⟩ = some (.int .u64 b2) := (hk 1).trans (KB.out.cell 1); clear hk hl; clear hS hHeld; go_simp⟩) hHeld ?_
        try simp only [Act.put, List.setIfInBounds_toArray, List.set_cons_zero, List.set_cons_succ, List.getElem_toArray, List.getElem_cons_zero, List.getElem_cons_succ]
        refine wpAnyH_take (i := 10) (v := .bool false) rfl (by kernel_rfl) (by kernel_rfl) (by kernel_rfl) (fun _ _ _ h => h) (Or.inl ⟨by rfl, fun W hS => by clear hS hHeld; go_simp⟩) hHeld ?_
        try simp only [Act.put, List.setIfInBounds_toArray, List.set_cons_zero, List.set_cons_succ, List.getElem_toArray, List.getElem_cons_zero, List.getElem_cons_succ]
        refine wpAnyH_ready (rs := [2]) (by kernel_rfl) (by simp) ?_
        refine AllReadyH.cons rfl (fun K hK => ?_) AllReadyH.nil
        try simp only [Act.put, List.setIfInBounds_toArray, List.set_cons_zero, List.set_cons_succ, List.getElem_toArray, List.getElem_cons_zero, List.getElem_cons_succ]
        go_simp
        go_at_call 18
        refine (hitR h1 _).mono ?_
        rintro e W3 ⟨rfl, hb⟩
        refine hK.out _ _ (Below.step hHeld hb) (fun hHeld2 => ?_)
        clear hK K hHeld
        have hHeld := hHeld2
        clear hHeld2
        try simp only [Act.put, List.setIfInBounds_toArray, List.set_cons_zero, List.set_cons_succ, List.getElem_toArray, List.getElem_cons_zero, List.getElem_cons_succ]
        clear hb
        refine wpAnyH_take (i := 3) (v := .bool true) rfl (by kernel_rfl) (by kernel_rfl) (by kernel_rfl) (fun _ _ _ h => h) (Or.inl ⟨by rfl, fun W hS => by clear hS hHeld; go_simp⟩) hHeld ?_
        try simp only [Act.put, List.setIfInBounds_toArray, List.set_cons_zero, List.set_cons_succ, List.getElem_toArray, List.getElem_cons_zero, List.getElem_cons_succ]
        refine wpAnyH_take (i := 4) (v := undef) rfl (by kernel_rfl) (by kernel_rfl) (by kernel_rfl) (fun _ _ _ h => h) (Or.inr ⟨by rfl, rfl⟩) hHeld ?_
        try simp only [Act.put, List.setIfInBounds_toArray, List.set_cons_zero, List.set_cons_succ, List.getElem_toArray, List.getElem_cons_zero, List.getElem_cons_succ]
        refine wpAnyH_take (i := 5) (v := undef) rfl (by kernel_rfl) (by kernel_rfl) (by kernel_rfl) (fun _ _ _ h => h) (Or.inr ⟨by rfl, rfl⟩) hHeld ?_
        try simp only [Act.put, List.setIfInBounds_toArray, List.set_cons_zero, List.set_cons_succ, List.getElem_toArray, List.getElem_cons_zero, List.getElem_cons_succ]
        refine wpAnyH_take (i := 6) (v := undef) rfl (by kernel_rfl) (by kernel_rfl) (by kernel_rfl) (fun _ _ _ h => h) (Or.inr ⟨by rfl, rfl⟩) hHeld ?_
        try simp only [Act.put, List.setIfInBounds_toArray, List.set_cons_zero, List.set_cons_succ, List.getElem_toArray, List.getElem_cons_zero, List.getElem_cons_succ]
        refine wpAnyH_take (i := 7) (v := .bool true) rfl (by kernel_rfl) (by kernel_rfl) (by kernel_rfl) (fun _ _ _ h => h) (Or.inl ⟨by rfl, fun W hS => by clear hS hHeld; go_simp⟩) hHeld ?_
        try simp only [Act.put, List.setIfInBounds_toArray, List.set_cons_zero, List.set_cons_succ, List.getElem_toArray, List.getElem_cons_zero, List.getElem_cons_succ]
        refine wpAnyH_take (i := 11) (v := .bool true) rfl (by kernel_rfl) (by kernel_rfl) (by kernel_rfl) (fun _ _ _ h => h) (Or.inl ⟨by rfl, fun W hS => by clear hS hHeld; go_simp⟩) hHeld ?_
        try simp only [Act.put, List.setIfInBounds_toArray, List.set_cons_zero, List.set_cons_succ, List.getElem_toArray, List.getElem_cons_zero, List.getElem_cons_succ]
        refine wpAnyH_take (i := 12) (v := .bool true) rfl (by kernel_rfl) (by kernel_rfl) (by kernel_rfl) (fun _ _ _ h => h) (Or.inl ⟨by rfl, fun W hS => by clear hS hHeld; go_simp⟩) hHeld ?_
        try simp only [Act.put, List.setIfInBounds_toArray, List.set_cons_zero, List.set_cons_succ, List.getElem_toArray, List.getElem_cons_zero, List.getElem_cons_succ]
        refine wpAnyH_take (i := 13) (v := .agg #[.int .u64 a1, .int .u64 a2]) rfl (by kernel_rfl) (by kernel_rfl) (by kernel_rfl) (fun _ _ _ h => h) (Or.inl ⟨by rfl, fun W hS => by have hl := KA.out.lt; have hk : ∀ j, W.cell? ⟨ga, j, none⟩ = w4.cell? ⟨ga, j, none⟩ := fun j => Below.cell hS hl; have z0 : W.cell? ⟨ga, 0, none⟩ = some (.int .u64 a1) := (hk 0).trans (KA.out.cell 0); have z1 : W.cell? ⟨ga, 1, none⟩ = some (.int .u64 a2) := (hk 1).trans (KA.out.cell 1); clear hk hl; clear hS hHeld; go_simp⟩) hHeld ?_
        try simp only [Act.put, List.setIfInBounds_toArray, List.set_cons_zero, List.set_cons_succ, List.getElem_toArray, List.getElem_cons_zero, List.getElem_cons_succ]
        refine wpAnyH_take (i := 14) (v := .agg #[.int .u64 b1, .int .u64 b2]) rfl (by kernel_rfl) (by kernel_rfl) (by kernel_rfl) (fun _ _ _ h => h) (Or.inl ⟨by rfl, fun W hS => by have hl := KB.out.lt; have hk : ∀ j, W.cell? ⟨gd, j, none⟩ = w4.cell? ⟨gd, j, none⟩ := fun j => Below.cell hS hl; have z0 : W.cell? ⟨gd, 0, none⟩ = some (.int .u64 b1) := (hk 0).trans (KB.out.cell 0); have z1 : W.cell? ⟨gd, 1, none⟩ = some (.int .u64 b2) := (hk 1).trans (KB.out.cell 1); clear hk hl; clear hS hHeld; go_simp⟩) hHeld ?_
        try simp only [Act.put, List.setIfInBounds_toArray, List.set_cons_zero, List.set_cons_succ, List.getElem_toArray, List.getElem_cons_zero, List.getElem_cons_succ]
        refine wpAnyH_ready (rs := [15]) (by kernel_rfl) (by simp) ?_
        refine AllReadyH.cons rfl (fun K hK => ?_) AllReadyH.nil
        try simp only [Act.put, List.setIfInBounds_toArray, List.set_cons_zero, List.set_cons_succ, List.getElem_toArray, List.getElem_cons_zero, List.getElem_cons_succ]
        go_simp
        go_at_call 18
        refine (hitR h1 _).mono ?_
        rintro e W4 ⟨rfl, hb⟩
        refine hK.out _ _ (Below.step hHeld hb) (fun hHeld2 => ?_)
        clear hK K hHeld
        have hHeld := hHeld2
        clear hHeld2
        try simp only [Act.put, List.setIfInBounds_toArray, List.set_cons_zero, List.set_cons_succ, List.getElem_toArray, List.getElem_cons_zero, List.getElem_cons_succ]
        clear hb
        refine wpAnyH_take (i := 16) (v := .bool false) rfl (by kernel_rfl) (by kernel_rfl) (by kernel_rfl) (fun _ _ _ h => h) (Or.inl ⟨by rfl, fun W hS => by clear hS hHeld; go_simp⟩) hHeld ?_
        try simp only [Act.put, List.setIfInBounds_toArray, List.set_cons_zero, List.set_cons_succ, List.getElem_toArray, List.getElem_cons_zero, List.getElem_cons_succ]
        refine wpAnyH_take (i := 17) (v := .bool false) rfl (by kernel_rfl) (by kernel_rfl) (by kernel_rfl) (fun _ _ _ h => h) (Or.inl ⟨by rfl, fun W hS => by clear hS hHeld; go_simp⟩) hHeld ?_
        try simp only [Act.put, List.setIfInBounds_toArray, List.set_cons_zero, List.set_cons_succ, List.getElem_toArray, List.getElem_cons_zero, List.getElem_cons_succ]
        refine wpAnyH_take (i := 18) (v := .agg #[.int .u64 a1, .int .u64 a2, .int .i64 a3]) rfl (by kernel_rfl) (by kernel_rfl) (by kernel_rfl) (fun _ _ _ h => h) (Or.inl ⟨by rfl, fun W hS => by have hl := HA.out.lt; have hk : ∀ j, W.cell? ⟨w.heap.size, j, none⟩ = w4.cell? ⟨w.heap.size, j, none⟩ := fun j => Below.cell hS hl; have z0 : W.cell? ⟨w.heap.size, 0, none⟩ = some (.int .u64 a1) := (hk 0).trans (HA.out.cell 0); have z1 : W.cell? ⟨w.heap.size, 1, none⟩ = some (.int .u64 a2) := (hk 1).trans (HA.out.cell 1); have z2 : W.cell? ⟨w.heap.size, 2, none⟩ = some (.int .i64 a3) := (hk 2).trans (HA.out.cell 2); clear hk hl; clear hS hHeld; go_simp⟩) hHeld ?_
        try simp only [Act.put, List.setIfInBounds_toArray, List.set_cons_zero, List.set_cons_succ, List.getElem_toArray, List.getElem_cons_zero, List.getElem_cons_succ]
        refine wpAnyH_take (i := 19) (v := .agg #[.int .u64 b1, .int .u64 b2, .int .i64 b3]) rfl (by kernel_rfl) (by kernel_rfl) (by kernel_rfl) (fun _ _ _ h => h) (Or.inl ⟨by rfl, fun W hS => by have hl := HB.out.lt; have hk : ∀ j, W.cell? ⟨gb, j, none⟩ = w4.cell? ⟨gb, j, none⟩ := fun j => Below.cell hS hl; have z0 : W.cell? ⟨gb, 0, none⟩ = some (.int .u64 b1) := (hk 0).trans (HB.out.cell 0); have z1 : W.cell? ⟨gb, 1, none⟩ = some (.int .u64 b2) := (hk 1).trans (HB.out.cell 1); have z2 : W.cell? ⟨gb, 2, none⟩ = some (.int .i64 b3) := (hk 2).trans (HB.out.cell 2); clear hk hl; clear hS hHeld; go_simp⟩) hHeld ?_
        try simp only [Act.put, List.setIfInBounds_toArray, List.set_cons_zero, List.set_cons_succ, List.getElem_toArray, List.getElem_cons_zero, List.getElem_cons_succ]
        refine wpAnyH_ready (rs := [20]) (by kernel_rfl) (by simp) ?_
        refine AllReadyH.cons rfl (fun K hK => ?_) AllReadyH.nil
        try simp only [Act.put, List.setIfInBounds_toArray, List.set_cons_zero, List.set_cons_succ, List.getElem_toArray, List.getElem_cons_zero, List.getElem_cons_succ]
        go_simp
        go_at_call 17
        refine (spotR (spot_of_hit h1) _).mono ?_
        rintro e W5 ⟨rfl, hb⟩
        refine hK.out _ _ (Below.step hHeld hb) (fun hHeld2 => ?_)
        clear hK K hHeld
        have hHeld := hHeld2
        clear hHeld2
        try simp only [Act.put, List.setIfInBounds_toArray, List.set_cons_zero, List.set_cons_succ, List.getElem_toArray, List.getElem_cons_zero, List.getElem_cons_succ]
        clear hb
        refine wpAnyH_take (i := 21) (v := .bool true) rfl (by kernel_rfl) (by kernel_rfl) (by kernel_rfl) (fun _ _ _ h => h) (Or.inl ⟨by rfl, fun W hS => by clear hS hHeld; go_simp⟩) hHeld ?_
        try simp only [Act.put, List.setIfInBounds_toArray, List.set_cons_zero, List.set_cons_succ, List.getElem_toArray, List.getElem_cons_zero, List.getElem_cons_succ]
        refine wpAnyH_take (i := 22) (v := .bool true) rfl (by kernel_rfl) (by kernel_rfl) (by kernel_rfl) (fun _ _ _ h => h) (Or.inl ⟨by rfl, fun W hS => by clear hS hHeld; go_simp⟩) hHeld ?_
        try simp only [Act.put, List.setIfInBounds_toArray, List.set_cons_zero, List.set_cons_succ, List.getElem_toArray, List.getElem_cons_zero, List.getElem_cons_succ]
        refine wpAnyH_take (i := 23) (v := .bool true) rfl (by kernel_rfl) (by kernel_rfl) (by kernel_rfl) (fun _ _ _ h => h) (Or.inl ⟨by rfl, fun W hS => by clear hS hHeld; go_simp⟩) hHeld ?_
        try simp only [Act.put, List.setIfInBounds_toArray, List.set_cons_zero, List.set_cons_succ, List.getElem_toArray, List.getElem_cons_zero, List.getElem_cons_succ]
        refine wpAnyH_take (i := 24) (v := .agg #[.int .u64 a1, .int .u64 a2]) rfl (by kernel_rfl) (by kernel_rfl) (by kernel_rfl) (fun _ _ _ h => h) (Or.inl ⟨by rfl, fun W hS => by have hl := KA.out.lt; have hk : ∀ j, W.cell? ⟨ga, j, none⟩ = w4.cell? ⟨ga, j, none⟩ := fun j => Below.cell hS hl; have z0 : W.cell? ⟨ga, 0, none⟩ = some (.int .u64 a1) := (hk 0).trans (KA.out.cell 0); have z1 : W.cell? ⟨ga, 1, none⟩ = some (.int .u64 a2) := (hk 1).trans (KA.out.cell 1); clear hk hl; clear hS hHeld; go_simp⟩) hHeld ?_
        try simp only [Act.put, List.setIfInBounds_toArray, List.set_cons_zero, List.set_cons_succ, List.getElem_toArray, List.getElem_cons_zero, List.getElem_cons_succ]
        refine wpAnyH_take (i := 25) (v := .agg #[.int .u64 b1, .int .u64 b2]) rfl (by kernel_rfl) (by kernel_rfl) (by kernel_rfl) (fun _ _ _ h => h) (Or.inl ⟨by rfl, fun W hS => by have hl := KB.out.lt; have hk : ∀ j, W.cell? ⟨gd, j, none⟩ = w4.cell? ⟨gd, j, none⟩ := fun j => Below.cell hS hl; have z0 : W.cell? ⟨gd, 0, none⟩ = some (.int .u64 b1) := (hk 0).trans (KB.out.cell 0); have z1 : W.cell? ⟨gd, 1, none⟩ = some (.int .u64 b2) := (hk 1).trans (KB.out.cell 1); clear hk hl; clear hS hHeld; go_simp⟩) hHeld ?_
        try simp only [Act.put, List.setIfInBounds_toArray, List.set_cons_zero, List.set_cons_succ, List.getElem_toArray, List.getElem_cons_zero, List.getElem_cons_succ]
        refine wpAnyH_ready (rs := [26]) (by kernel_rfl) (by simp) ?_
        refine AllReadyH.cons rfl (fun K hK => ?_) AllReadyH.nil
        try simp only [Act.put, List.setIfInBounds_toArray, List.set_cons_zero, List.set_cons_succ, List.getElem_toArray, List.getElem_cons_zero, List.getElem_cons_succ]
        go_simp
        go_at_call 18
        refine (hitR h1 _).mono ?_
        rintro e W6 ⟨rfl, hb⟩
        refine hK.out _ _ (Below.step hHeld hb) (fun hHeld2 => ?_)
        clear hK K hHeld
        have hHeld := hHeld2
        clear hHeld2
        try simp only [Act.put, List.setIfInBounds_toArray, List.set_cons_zero, List.set_cons_succ, List.getElem_toArray, List.getElem_cons_zero, List.getElem_cons_succ]
        clear hb
        refine wpAnyH_take (i := 27) (v := .bool false) rfl (by kernel_rfl) (by kernel_rfl) (by kernel_rfl) (fun _ _ _ h => h) (Or.inl ⟨by rfl, fun W hS => by clear hS hHeld; go_simp⟩) hHeld ?_
        try simp only [Act.put, List.setIfInBounds_toArray, List.set_cons_zero, List.set_cons_succ, List.getElem_toArray, List.getElem_cons_zero, List.getElem_cons_succ]
        refine wpAnyH_take (i := 28) (v := .bool false) rfl (by kernel_rfl) (by kernel_rfl) (by kernel_rfl) (fun _ _ _ h => h) (Or.inl ⟨by rfl, fun W hS => by clear hS hHeld; go_simp⟩) hHeld ?_
        try simp only [Act.put, List.setIfInBounds_toArray, List.set_cons_zero, List.set_cons_succ, List.getElem_toArray, List.getElem_cons_zero, List.getElem_cons_succ]
        refine wpAnyH_take (i := 29) (v := .agg #[.int .u64 b1, .int .u64 b2]) rfl (by kernel_rfl) (by kernel_rfl) (by kernel_rfl) (fun _ _ _ h => h) (Or.inl ⟨by rfl, fun W hS => by have hl := KB.out.lt; have hk : ∀ j, W.cell? ⟨gd, j, none⟩ = w4.cell? ⟨gd, j, none⟩ := fun j => Below.cell hS hl; have z0 : W.cell? ⟨gd, 0, none⟩ = some (.int .u64 b1) := (hk 0).trans (KB.out.cell 0); have z1 : W.cell? ⟨gd, 1, none⟩ = some (.int .u64 b2) := (hk 1).trans (KB.out.cell 1); clear hk hl; clear hS hHeld; go_simp⟩) hHeld ?_
        try simp only [Act.put, List.setIfInBounds_toArray, List.set_cons_zero, List.set_cons_succ, List.getElem_toArray, List.getElem_cons_zero, List.getElem_cons_succ]
        refine wpAnyH_take (i := 30) (v := .agg #[.int .u64 c1, .int .u64 c2]) rfl (by kernel_rfl) (by kernel_rfl) (by kernel_rfl) (fun _ _ _ h => h) (Or.inl ⟨by rfl, fun W hS => by have hl := KC.out.lt; have hk : ∀ j, W.cell? ⟨ge, j, none⟩ = w4.cell? ⟨ge, j, none⟩ := fun j => Below.cell hS hl; have z0 : W.cell? ⟨ge, 0, none⟩ = some (.int .u64 c1) := (hk 0).trans (KC.out.cell 0); have z1 : W.cell? ⟨ge, 1, none⟩ = some (.int .u64 c2) := (hk 1).trans (KC.out.cell 1); clear hk hl; clear hS hHeld; go_simp⟩) hHeld ?_
        try simp only [Act.put, List.setIfInBounds_toArray, List.set_cons_zero, List.set_cons_succ, List.getElem_toArray, List.getElem_cons_zero, List.getElem_cons_succ]
        refine wpAnyH_ready (rs := [31]) (by kernel_rfl) (by simp) ?_
        refine AllReadyH.cons rfl (fun K hK => ?_) AllReadyH.nil
        try simp only [Act.put, List.setIfInBounds_toArray, List.set_cons_zero, List.set_cons_succ, List.getElem_toArray, List.getElem_cons_zero, List.getElem_cons_succ]
        go_simp
        go_at_call 18
        refine (hitR h3 _).mono ?_
        rintro e W7 ⟨rfl, hb⟩
        refine hK.out _ _ (Below.step hHeld hb) (fun hHeld2 => ?_)
        clear hK K hHeld
        have hHeld := hHeld2
        clear hHeld2
        try simp only [Act.put, List.setIfInBounds_toArray, List.set_cons_zero, List.set_cons_succ, List.getElem_toArray, List.getElem_cons_zero, List.getElem_cons_succ]
        clear hb
        refine wpAnyH_take (i := 32) (v := .bool false) rfl (by kernel_rfl) (by kernel_rfl) (by kernel_rfl) (fun _ _ _ h => h) (Or.inl ⟨by rfl, fun W hS => by clear hS hHeld; go_simp⟩) hHeld ?_
        try simp only [Act.put, List.setIfInBounds_toArray, List.set_cons_zero, List.set_cons_succ, List.getElem_toArray, List.getElem_cons_zero, List.getElem_cons_succ]
        refine wpAnyH_take (i := 33) (v := .bool false) rfl (by kernel_rfl) (by kernel_rfl) (by kernel_rfl) (fun _ _ _ h => h) (Or.inl ⟨by rfl, fun W hS => by clear hS hHeld; go_simp⟩) hHeld ?_
        try simp only [Act.put, List.setIfInBounds_toArray, List.set_cons_zero, List.set_cons_succ, List.getElem_toArray, List.getElem_cons_zero, List.getElem_cons_succ]
        refine wpAnyH_take (i := 34) (v := .bool false) rfl (by kernel_rfl) (by kernel_rfl) (by kernel_rfl) (fun _ _ _ h => h) (Or.inl ⟨by rfl, fun W hS => by clear hS hHeld; go_simp⟩) hHeld ?_
        try simp only [Act.put, List.setIfInBounds_toArray, List.set_cons_zero, List.set_cons_succ, List.getElem_toArray, List.getElem_cons_zero, List.getElem_cons_succ]
        refine wpAnyH_take (i := 35) (v := .agg #[.int .u64 a1, .int .u64 a2]) rfl (by kernel_rfl) (by kernel_rfl) (by kernel_rfl) (fun _ _ _ h => h) (Or.inl ⟨by rfl, fun W hS => by have hl := KA.out.lt; have hk : ∀ j, W.cell? ⟨ga, j, none⟩ = w4.cell? ⟨ga, j, none⟩ := fun j => Below.cell hS hl; have z0 : W.cell? ⟨ga, 0, none⟩ = some (.int .u64 a1) := (hk 0).trans (KA.out.cell 0); have z1 : W.cell? ⟨ga, 1, none⟩ = some (.int .u64 a2) := (hk 1).trans (KA.out.cell 1); clear hk hl; clear hS hHeld; go_simp⟩) hHeld ?_
        try simp only [Act.put, List.setIfInBounds_toArray, List.set_cons_zero, List.set_cons_succ, List.getElem_toArray, List.getElem_cons_zero, List.getElem_cons_succ]
        refine wpAnyH_take (i := 36) (v := .agg #[.int .u64 c1, .int .u64 c2]) rfl (by kernel_rfl) (by kernel_rfl) (by kernel_rfl) (fun _ _ _ h => h) (Or.inl ⟨by rfl, fun W hS => by have hl := KC.out.lt; have hk : ∀ j, W.cell? ⟨ge, j, none⟩ = w4.cell? ⟨ge, j, none⟩ := fun j => Below.cell hS hl; have z0 : W.cell? ⟨ge, 0, none⟩ = some (.int .u64 c1) := (hk 0).trans (KC.out.cell 0); have z1 : W.cell? ⟨ge, 1, none⟩ = some (.int .u64 c2) := (hk 1).trans (KC.out.cell 1); clear hk hl; clear hS hHeld; go_simp⟩) hHeld ?_
        try simp only [Act.put, List.setIfInBounds_toArray, List.set_cons_zero, List.set_cons_succ, List.getElem_toArray, List.getElem_cons_zero, List.getElem_cons_succ]
        refine wpAnyH_ready (rs := [37]) (by kernel_rfl) (by simp) ?_
        refine AllReadyH.cons rfl (fun K hK => ?_) AllReadyH.nil
        try simp only [Act.put, List.setIfInBounds_toArray, List.set_cons_zero, List.set_cons_succ, List.getElem_toArray, List.getElem_cons_zero, List.getElem_cons_succ]
        go_simp
        go_at_call 18
        refine (hitR h4 _).mono ?_
        rintro e W8 ⟨rfl, hb⟩
        refine hK.out _ _ (Below.step hHeld hb) (fun hHeld2 => ?_)
        clear hK K hHeld
        have hHeld := hHeld2
        clear hHeld2
        try simp only [Act.put, List.setIfInBounds_toArray, List.set_cons_zero, List.set_cons_succ, List.getElem_toArray, List.getElem_cons_zero, List.getElem_cons_succ]
        clear hb
        refine wpAnyH_take (i := 38) (v := .bool true) rfl (by kernel_rfl) (by kernel_rfl) (by kernel_rfl) (fun _ _ _ h => h) (Or.inl ⟨by rfl, fun W hS => by clear hS hHeld; go_simp⟩) hHeld ?_
        try simp only [Act.put, List.setIfInBounds_toArray, List.set_cons_zero, List.set_cons_succ, List.getElem_toArray, List.getElem_cons_zero, List.getElem_cons_succ]
        refine wpAnyH_take (i := 39) (v := .bool true) rfl (by kernel_rfl) (by kernel_rfl) (by kernel_rfl) (fun _ _ _ h => h) (Or.inl ⟨by rfl, fun W hS => by clear hS hHeld; go_simp⟩) hHeld ?_
        try simp only [Act.put, List.setIfInBounds_toArray, List.set_cons_zero, List.set_cons_succ, List.getElem_toArray, List.getElem_cons_zero, List.getElem_cons_succ]
        refine wpAnyH_take (i := 40) (v := .bool true) rfl (by kernel_rfl) (by kernel_rfl) (by kernel_rfl) (fun _ _ _ h => h) (Or.inl ⟨by rfl, fun W hS => by clear hS hHeld; go_simp⟩) hHeld ?_
        try simp only [Act.put, List.setIfInBounds_toArray, List.set_cons_zero, List.set_cons_succ, List.getElem_toArray, List.getElem_cons_zero, List.getElem_cons_succ]
        refine wpAnyH_done (by kernel_rfl) ?_ _
        go_wp2
        go_ret
        exact ⟨rfl, Below.step HW.out hHeld⟩
      · have he := run_eql_hit a1 a2 b1 b2 (hit_other hne)
        clear hne
        refine wp_region_held_drew (S := Below w4.heap.size w4) (by kernel_rfl) (Below.refl _ _).drew (fun hHeld => ?_)
        generalize World.drew _ = W2 at *
        refine wpAnyH_take (i := 0) (v := .agg #[.int .u64 a1, .int .u64 a2]) rfl (by kernel_rfl) (by kernel_rfl) (by kernel_rfl) (fun _ _ _ h => h) (Or.inl ⟨by rfl, fun W hS => by have hl := KA.out.lt; have hk : ∀ j, W.cell? ⟨ga, j, none⟩ = w4.cell? ⟨ga, j, none⟩ := fun j => Below.cell hS hl; have z0 : W.cell? ⟨ga, 0, none⟩ = some (.int .u64 a1) := (hk 0).trans (KA.out.cell 0); have z1 : W.cell? ⟨ga, 1, none⟩ = some (.int .u64 a2) := (hk 1).trans (KA.out.cell 1); clear hk hl; clear hS hHeld; go_simp⟩) hHeld ?_
        try simp only [Act.put, List.setIfInBounds_toArray, List.set_cons_zero, List.set_cons_succ, List.getElem_toArray, List.getElem_cons_zero, List.getElem_cons_succ]
        refine wpAnyH_take (i := 1) (v := .agg #[.int .u64 b1, .int .u64 b2]) rfl (by kernel_rfl) (by kernel_rfl) (by kernel_rfl) (fun _ _ _ h => h) (Or.inl ⟨by rfl, fun W hS => by have hl := KB.out.lt; have hk : ∀ j, W.cell? ⟨gd, j, none⟩ = w4.cell? ⟨gd, j, none⟩ := fun j => Below.cell hS hl; have z0 : W.cell? ⟨gd, 0, none⟩ = some (.int .u64 b1) := (hk 0).trans (KB.out.cell 0); have z1 : W.cell? ⟨gd, 1, none⟩ = some (.int .u64 b2) := (hk 1).trans (KB.out.cell 1); clear hk hl; clear hS hHeld; go_simp⟩) hHeld ?_
        try simp only [Act.put, List.setIfInBounds_toArray, List.set_cons_zero, List.set_cons_succ, List.getElem_toArray, List.getElem_cons_zero, List.getElem_cons_succ]
        refine wpAnyH_take (i := 8) (v := .agg #[.int .u64 a1, .int .u64 a2]) rfl (by kernel_rfl) (by kernel_rfl) (by kernel_rfl) (fun _ _ _ h => h) (Or.inl ⟨by rfl, fun W hS => by have hl := KA.out.lt; have hk : ∀ j, W.cell? ⟨ga, j, none⟩ = w4.cell? ⟨ga, j, none⟩ := fun j => Below.cell hS hl; have z0 : W.cell? ⟨ga, 0, none⟩ = some (.int .u64 a1) := (hk 0).trans (KA.out.cell 0); have z1 : W.cell? ⟨ga, 1, none⟩ = some (.int .u64 a2) := (hk 1).trans (KA.out.cell 1); clear hk hl; clear hS hHeld; go_simp⟩) hHeld ?_
        try simp only [Act.put, List.setIfInBounds_toArray, List.set_cons_zero, List.set_cons_succ, List.getElem_toArray, List.getElem_cons_zero, List.getElem_cons_succ]
        refine wpAnyH_take (i := 9) (v := .agg #[.int .u64 b1, .int .u64 b2]) rfl (by kernel_rfl) (by kernel_rfl) (by kernel_rfl) (fun _ _ _ h => h) (Or.inl ⟨by rfl, fun W hS => by have hl := KB.out.lt; have hk : ∀ j, W.cell? ⟨gd, j, none⟩ = w4.cell? ⟨gd, j, none⟩ := fun j => Below.cell hS hl; have z0 : W.cell? ⟨gd, 0, none⟩ = some (.int .u64 b1) := (hk 0).trans (KB.out.cell 0); have z1 : W.cell? ⟨gd, 1, none⟩ = some (.int .u64 b2) := (hk 1).trans (KB.out.cell 1); clear hk hl; clear hS hHeld; go_simp⟩) hHeld ?_
        try simp only [Act.put, List.setIfInBounds_toArray, List.set_cons_zero, List.set_cons_succ, List.getElem_toArray, List.getElem_cons_zero, List.getElem_cons_succ]
        refine wpAnyH_take (i := 10) (v := .bool false) rfl (by kernel_rfl) (by kernel_rfl) (by kernel_rfl) (fun _ _ _ h => h) (Or.inl ⟨by rfl, fun W hS => by clear hS hHeld; go_simp⟩) hHeld ?_
        try simp only [Act.put, List.setIfInBounds_toArray, List.set_cons_zero, List.set_cons_succ, List.getElem_toArray, List.getElem_cons_zero, List.getElem_cons_succ]
        refine wpAnyH_ready (rs := [2]) (by kernel_rfl) (by simp) ?_
        refine AllReadyH.cons rfl (fun K hK => ?_) AllReadyH.nil
        try simp only [Act.put, List.setIfInBounds_toArray, List.set_cons_zero, List.set_cons_succ, List.getElem_toArray, List.getElem_cons_zero, List.getElem_cons_succ]
        go_simp
        go_at_call 18
        refine (hitR h1 _).mono ?_
        rintro e W3 ⟨rfl, hb⟩
        refine hK.out _ _ (Below.step hHeld hb) (fun hHeld2 => ?_)
        clear hK K hHeld
        have hHeld := hHeld2
        clear hHeld2
        try simp only [Act.put, List.setIfInBounds_toArray, List.set_cons_zero, List.set_cons_succ, List.getElem_toArray, List.getElem_cons_zero, List.getElem_cons_succ]
        clear hb
        refine wpAnyH_take (i := 3) (v := .bool true) rfl (by kernel_rfl) (by kernel_rfl) (by kernel_rfl) (fun _ _ _ h => h) (Or.inl ⟨by rfl, fun W hS => by clear hS hHeld; go_simp⟩) hHeld ?_
        try simp only [Act.put, List.setIfInBounds_toArray, List.set_cons_zero, List.set_cons_succ, List.getElem_toArray, List.getElem_cons_zero, List.getElem_cons_succ]
        refine wpAnyH_take (i := 4) (v := undef) rfl (by kernel_rfl) (by kernel_rfl) (by kernel_rfl) (fun _ _ _ h => h) (Or.inr ⟨by rfl, rfl⟩) hHeld ?_
        try simp only [Act.put, List.setIfInBounds_toArray, List.set_cons_zero, List.set_cons_succ, List.getElem_toArray, List.getElem_cons_zero, List.getElem_cons_succ]
        refine wpAnyH_take (i := 5) (v := undef) rfl (by kernel_rfl) (by kernel_rfl) (by kernel_rfl) (fun _ _ _ h => h) (Or.inr ⟨by rfl, rfl⟩) hHeld ?_
        try simp only [Act.put, List.setIfInBounds_toArray, List.set_cons_zero, List.set_cons_succ, List.getElem_toArray, List.getElem_cons_zero, List.getElem_cons_succ]
        refine wpAnyH_take (i := 6) (v := undef) rfl (by kernel_rfl) (by kernel_rfl) (by kernel_rfl) (fun _ _ _ h => h) (Or.inr ⟨by rfl, rfl⟩) hHeld ?_
        try simp only [Act.put, List.setIfInBounds_toArray, List.set_cons_zero, List.set_cons_succ, List.getElem_toArray, List.getElem_cons_zero, List.getElem_cons_succ]
        refine wpAnyH_take (i := 7) (v := .bool true) rfl (by kernel_rfl) (by kernel_rfl) (by kernel_rfl) (fun _ _ _ h => h) (Or.inl ⟨by rfl, fun W hS => by clear hS hHeld; go_simp⟩) hHeld ?_
        try simp only [Act.put, List.setIfInBounds_toArray, List.set_cons_zero, List.set_cons_succ, List.getElem_toArray, List.getElem_cons_zero, List.getElem_cons_succ]
        refine wpAnyH_take (i := 11) (v := .bool true) rfl (by kernel_rfl) (by kernel_rfl) (by kernel_rfl) (fun _ _ _ h => h) (Or.inl ⟨by rfl, fun W hS => by clear hS hHeld; go_simp⟩) hHeld ?_
        try simp only [Act.put, List.setIfInBounds_toArray, List.set_cons_zero, List.set_cons_succ, List.getElem_toArray, List.getElem_cons_zero, List.getElem_cons_succ]
        refine wpAnyH_take (i := 12) (v := .bool true) rfl (by kernel_rfl) (by kernel_rfl) (by kernel_rfl) (fun _ _ _ h => h) (Or.inl ⟨by rfl, fun W hS => by clear hS hHeld; go_simp⟩) hHeld ?_
        try simp only [Act.put, List.setIfInBounds_toArray, List.set_cons_zero, List.set_cons_succ, List.getElem_toArray, List.getElem_cons_zero, List.getElem_cons_succ]
        refine wpAnyH_take (i := 13) (v := .agg #[.int .u64 a1, .int .u64 a2]) rfl (by kernel_rfl) (by kernel_rfl) (by kernel_rfl) (fun _ _ _ h => h) (Or.inl ⟨by rfl, fun W hS => by have hl := KA.out.lt; have hk : ∀ j, W.cell? ⟨ga, j, none⟩ = w4.cell? ⟨ga, j, none⟩ := fun j => Below.cell hS hl; have z0 : W.cell? ⟨ga, 0, none⟩ = some (.int .u64 a1) := (hk 0).trans (KA.out.cell 0); have z1 : W.cell? ⟨ga, 1, none⟩ = some (.int .u64 a2) := (hk 1).trans (KA.out.cell 1); clear hk hl; clear hS hHeld; go_simp⟩) hHeld ?_
        try simp only [Act.put, List.setIfInBounds_toArray, List.set_cons_zero, List.set_cons_succ, List.getElem_toArray, List.getElem_cons_zero, List.getElem_cons_succ]
        refine wpAnyH_take (i := 14) (v := .agg #[.int .u64 b1, .int .u64 b2]) rfl (by kernel_rfl) (by kernel_rfl) (by kernel_rfl) (fun _ _ _ h => h) (Or.inl ⟨by rfl, fun W hS => by have hl := KB.out.lt; have hk : ∀ j, W.cell? ⟨gd, j, none⟩ = w4.cell? ⟨gd, j, none⟩ := fun j => Below.cell hS hl; have z0 : W.cell? ⟨gd, 0, none⟩ = some (.int .u64 b1) := (hk 0).trans (KB.out.cell 0); have z1 : W.cell? ⟨gd, 1, none⟩ = some (.int .u64 b2) := (hk 1).trans (KB.out.cell 1); clear hk hl; clear hS hHeld; go_simp⟩) hHeld ?_
        try simp only [Act.put, List.setIfInBounds_toArray, List.set_cons_zero, List.set_cons_succ, List.getElem_toArray, List.getElem_cons_zero, List.getElem_cons_succ]
        refine wpAnyH_ready (rs := [15]) (by kernel_rfl) (by simp) ?_
        refine AllReadyH.cons rfl (fun K hK => ?_) AllReadyH.nil
        try simp only [Act.put, List.setIfInBounds_toArray, List.set_cons_zero, List.set_cons_succ, List.getElem_toArray, List.getElem_cons_zero, List.getElem_cons_succ]
        go_simp
        go_at_call 18
        refine (hitR h1 _).mono ?_
        rintro e W4 ⟨rfl, hb⟩
        refine hK.out _ _ (Below.step hHeld hb) (fun hHeld2 => ?_)
        clear hK K hHeld
        have hHeld := hHeld2
        clear hHeld2
        try simp only [Act.put, List.setIfInBounds_toArray, List.set_cons_zero, List.set_cons_succ, List.getElem_toArray, List.getElem_cons_zero, List.getElem_cons_succ]
        clear hb
        refine wpAnyH_take (i := 16) (v := .bool false) rfl (by kernel_rfl) (by kernel_rfl) (by kernel_rfl) (fun _ _ _ h => h) (Or.inl ⟨by rfl, fun W hS => by clear hS hHeld; go_simp⟩) hHeld ?_
        try simp only [Act.put, List.setIfInBounds_toArray, List.set_cons_zero, List.set_cons_succ, List.getElem_toArray, List.getElem_cons_zero, List.getElem_cons_succ]
        refine wpAnyH_take (i := 17) (v := .bool false) rfl (by kernel_rfl) (by kernel_rfl) (by kernel_rfl) (fun _ _ _ h => h) (Or.inl ⟨by rfl, fun W hS => by clear hS hHeld; go_simp⟩) hHeld ?_
        try simp only [Act.put, List.setIfInBounds_toArray, List.set_cons_zero, List.set_cons_succ, List.getElem_toArray, List.getElem_cons_zero, List.getElem_cons_succ]
        refine wpAnyH_take (i := 18) (v := .agg #[.int .u64 a1, .int .u64 a2, .int .i64 a3]) rfl (by kernel_rfl) (by kernel_rfl) (by kernel_rfl) (fun _ _ _ h => h) (Or.inl ⟨by rfl, fun W hS => by have hl := HA.out.lt; have hk : ∀ j, W.cell? ⟨w.heap.size, j, none⟩ = w4.cell? ⟨w.heap.size, j, none⟩ := fun j => Below.cell hS hl; have z0 : W.cell? ⟨w.heap.size, 0, none⟩ = some (.int .u64 a1) := (hk 0).trans (HA.out.cell 0); have z1 : W.cell? ⟨w.heap.size, 1, none⟩ = some (.int .u64 a2) := (hk 1).trans (HA.out.cell 1); have z2 : W.cell? ⟨w.heap.size, 2, none⟩ = some (.int .i64 a3) := (hk 2).trans (HA.out.cell 2); clear hk hl; clear hS hHeld; go_simp⟩) hHeld ?_
        try simp only [Act.put, List.setIfInBounds_toArray, List.set_cons_zero, List.set_cons_succ, List.getElem_toArray, List.getElem_cons_zero, List.getElem_cons_succ]
        refine wpAnyH_take (i := 19) (v := .agg #[.int .u64 b1, .int .u64 b2, .int .i64 b3]) rfl (by kernel_rfl) (by kernel_rfl) (by kernel_rfl) (fun _ _ _ h => h) (Or.inl ⟨by rfl, fun W hS => by have hl := HB.out.lt; have hk : ∀ j, W.cell? ⟨gb, j, none⟩ = w4.cell? ⟨gb, j, none⟩ := fun j => Below.cell hS hl; have z0 : W.cell? ⟨gb, 0, none⟩ = some (.int .u64 b1) := (hk 0).trans (HB.out.cell 0); have z1 : W.cell? ⟨gb, 1, none⟩ = some (.int .u64 b2) := (hk 1).trans (HB.out.cell 1); have z2 : W.cell? ⟨gb, 2, none⟩ = some (.int .i64 b3) := (hk 2).trans (HB.out.cell 2); clear hk hl; clear hS hHeld; go_simp⟩) hHeld ?_
        try simp only [Act.put, List.setIfInBounds_toArray, List.set_cons_zero, List.set_cons_succ, List.getElem_toArray, List.getElem_cons_zero, List.getElem_cons_succ]
        refine wpAnyH_ready (rs := [20]) (by kernel_rfl) (by simp) ?_
        refine AllReadyH.cons rfl (fun K hK => ?_) AllReadyH.nil
        try simp only [Act.put, List.setIfInBounds_toArray, List.set_cons_zero, List.set_cons_succ, List.getElem_toArray, List.getElem_cons_zero, List.getElem_cons_succ]
        go_simp
        go_at_call 17
        refine (spotR (spot_of_hit h1) _).mono ?_
        rintro e W5 ⟨rfl, hb⟩
        refine hK.out _ _ (Below.step hHeld hb) (fun hHeld2 => ?_)
        clear hK K hHeld
        have hHeld := hHeld2
        clear hHeld2
        try simp only [Act.put, List.setIfInBounds_toArray, List.set_cons_zero, List.set_cons_succ, List.getElem_toArray, List.getElem_cons_zero, List.getElem_cons_succ]
        clear hb
        refine wpAnyH_take (i := 21) (v := .bool true) rfl (by kernel_rfl) (by kernel_rfl) (by kernel_rfl) (fun _ _ _ h => h) (Or.inl ⟨by rfl, fun W hS => by clear hS hHeld; go_simp⟩) hHeld ?_
        try simp only [Act.put, List.setIfInBounds_toArray, List.set_cons_zero, List.set_cons_succ, List.getElem_toArray, List.getElem_cons_zero, List.getElem_cons_succ]
        refine wpAnyH_take (i := 22) (v := .bool true) rfl (by kernel_rfl) (by kernel_rfl) (by kernel_rfl) (fun _ _ _ h => h) (Or.inl ⟨by rfl, fun W hS => by clear hS hHeld; go_simp⟩) hHeld ?_
        try simp only [Act.put, List.setIfInBounds_toArray, List.set_cons_zero, List.set_cons_succ, List.getElem_toArray, List.getElem_cons_zero, List.getElem_cons_succ]
        refine wpAnyH_take (i := 23) (v := .bool true) rfl (by kernel_rfl) (by kernel_rfl) (by kernel_rfl) (fun _ _ _ h => h) (Or.inl ⟨by rfl, fun W hS => by clear hS hHeld; go_simp⟩) hHeld ?_
        try simp only [Act.put, List.setIfInBounds_toArray, List.set_cons_zero, List.set_cons_succ, List.getElem_toArray, List.getElem_cons_zero, List.getElem_cons_succ]
        refine wpAnyH_take (i := 24) (v := .agg #[.int .u64 a1, .int .u64 a2]) rfl (by kernel_rfl) (by kernel_rfl) (by kernel_rfl) (fun _ _ _ h => h) (Or.inl ⟨by rfl, fun W hS => by have hl := KA.out.lt; have hk : ∀ j, W.cell? ⟨ga, j, none⟩ = w4.cell? ⟨ga, j, none⟩ := fun j => Below.cell hS hl; have z0 : W.cell? ⟨ga, 0, none⟩ = some (.int .u64 a1) := (hk 0).trans (KA.out.cell 0); have z1 : W.cell? ⟨ga, 1, none⟩ = some (.int .u64 a2) := (hk 1).trans (KA.out.cell 1); clear hk hl; clear hS hHeld; go_simp⟩) hHeld ?_
        try simp only [Act.put, List.setIfInBounds_toArray, List.set_cons_zero, List.set_cons_succ, List.getElem_toArray, List.getElem_cons_zero, List.getElem_cons_succ]
        refine wpAnyH_take (i := 25) (v := .agg #[.int .u64 b1, .int .u64 b2]) rfl (by kernel_rfl) (by kernel_rfl) (by kernel_rfl) (fun _ _ _ h => h) (Or.inl ⟨by rfl, fun W hS => by have hl := KB.out.lt; have hk : ∀ j, W.cell? ⟨gd, j, none⟩ = w4.cell? ⟨gd, j, none⟩ := fun j => Below.cell hS hl; have z0 : W.cell? ⟨gd, 0, none⟩ = some (.int .u64 b1) := (hk 0).trans (KB.out.cell 0); have z1 : W.cell? ⟨gd, 1, none⟩ = some (.int .u64 b2) := (hk 1).trans (KB.out.cell 1); clear hk hl; clear hS hHeld; go_simp⟩) hHeld ?_
        try simp only [Act.put, List.setIfInBounds_toArray, List.set_cons_zero, List.set_cons_succ, List.getElem_toArray, List.getElem_cons_zero, List.getElem_cons_succ]
        refine wpAnyH_ready (rs := [26]) (by kernel_rfl) (by simp) ?_
        refine AllReadyH.cons rfl (fun K hK => ?_) AllReadyH.nil
        try simp only [Act.put, List.setIfInBounds_toArray, List.set_cons_zero, List.set_cons_succ, List.getElem_toArray, List.getElem_cons_zero, List.getElem_cons_succ]
        go_simp
        go_at_call 18
        refine (hitR h1 _).mono ?_
        rintro e W6 ⟨rfl, hb⟩
        refine hK.out _ _ (Below.step hHeld hb) (fun hHeld2 => ?_)
        clear hK K hHeld
        have hHeld := hHeld2
        clear hHeld2
        try simp only [Act.put, List.setIfInBounds_toArray, List.set_cons_zero, List.set_cons_succ, List.getElem_toArray, List.getElem_cons_zero, List.getElem_cons_succ]
        clear hb
        refine wpAnyH_take (i := 27) (v := .bool false) rfl (by kernel_rfl) (by kernel_rfl) (by kernel_rfl) (fun _ _ _ h => h) (Or.inl ⟨by rfl, fun W hS => by clear hS hHeld; go_simp⟩) hHeld ?_
        try simp only [Act.put, List.setIfInBounds_toArray, List.set_cons_zero, List.set_cons_succ, List.getElem_toArray, List.getElem_cons_zero, List.getElem_cons_succ]
        refine wpAnyH_take (i := 28) (v := .bool false) rfl (by kernel_rfl) (by kernel_rfl) (by kernel_rfl) (fun _ _ _ h => h) (Or.inl ⟨by rfl, fun W hS => by clear hS hHeld; go_simp⟩) hHeld ?_
        try simp only [Act.put, List.setIfInBounds_toArray, List.set_cons_zero, List.set_cons_succ, List.getElem_toArray, List.getElem_cons_zero, List.getElem_cons_succ]
        refine wpAnyH_take (i := 29) (v := .agg #[.int .u64 b1, .int .u64 b2]) rfl (by kernel_rfl) (by kernel_rfl) (by kernel_rfl) (fun _ _ _ h => h) (Or.inl ⟨by rfl, fun W hS => by have hl := KB.out.lt; have hk : ∀ j, W.cell? ⟨gd, j, none⟩ = w4.cell? ⟨gd, j, none⟩ := fun j => Below.cell hS hl; have z0 : W.cell? ⟨gd, 0, none⟩ = some (.int .u64 b1) := (hk 0).trans (KB.out.cell 0); have z1 : W.cell? ⟨gd, 1, none⟩ = some (.int .u64 b2) := (hk 1).trans (KB.out.cell 1); clear hk hl; clear hS hHeld; go_simp⟩) hHeld ?_
        try simp only [Act.put, List.setIfInBounds_toArray, List.set_cons_zero, List.set_cons_succ, List.getElem_toArray, List.getElem_cons_zero, List.getElem_cons_succ]
        refine wpAnyH_take (i := 30) (v := .agg #[.int .u64 c1, .int .u64 c2]) rfl (by kernel_rfl) (by kernel_rfl) (by kernel_rfl) (fun _ _ _ h => h) (Or.inl ⟨by rfl, fun W hS => by have hl := KC.out.lt; have hk : ∀ j, W.cell? ⟨ge, j, none⟩ = w4.cell? ⟨ge, j, none⟩ := fun j => Below.cell hS hl; have z0 : W.cell? ⟨ge, 0, none⟩ = some (.int .u64 c1) := (hk 0).trans (KC.out.cell 0); have z1 : W.cell? ⟨ge, 1, none⟩ = some (.int .u64 c2) := (hk 1).trans (KC.out.cell 1); clear hk hl; clear hS hHeld; go_simp⟩) hHeld ?_
        try simp only [Act.put, List.setIfInBounds_toArray, List.set_cons_zero, List.set_cons_succ, List.getElem_toArray, List.getElem_cons_zero, List.getElem_cons_succ]
        refine wpAnyH_ready (rs := [31]) (by kernel_rfl) (by simp) ?_
        refine AllReadyH.cons rfl (fun K hK => ?_) AllReadyH.nil
        try simp only [Act.put, List.setIfInBounds_toArray, List.set_cons_zero, List.set_cons_succ, List.getElem_toArray, List.getElem_cons_zero, List.getElem_cons_succ]
        go_simp
        go_at_call 18
        refine (hitR h3 _).mono ?_
        rintro e W7 ⟨rfl, hb⟩
        refine hK.out _ _ (Below.step hHeld hb) (fun hHeld2 => ?_)
        clear hK K hHeld
        have hHeld := hHeld2
        clear hHeld2
        try simp only [Act.put, List.setIfInBounds_toArray, List.set_cons_zero, List.set_cons_succ, List.getElem_toArray, List.getElem_cons_zero, List.getElem_cons_succ]
        clear hb
        refine wpAnyH_take (i := 32) (v := .bool true) rfl (by kernel_rfl) (by kernel_rfl) (by kernel_rfl) (fun _ _ _ h => h) (Or.inl ⟨by rfl, fun W hS => by clear hS hHeld; go_simp⟩) hHeld ?_
        try simp only [Act.put, List.setIfInBounds_toArray, List.set_cons_zero, List.set_cons_succ, List.getElem_toArray, List.getElem_cons_zero, List.getElem_cons_succ]
        refine wpAnyH_take (i := 33) (v := .bool true) rfl (by kernel_rfl) (by kernel_rfl) (by kernel_rfl) (fun _ _ _ h => h) (Or.inl ⟨by rfl, fun W hS => by clear hS hHeld; go_simp⟩) hHeld ?_
        try simp only [Act.put, List.setIfInBounds_toArray, List.set_cons_zero, List.set_cons_succ, List.getElem_toArray, List.getElem_cons_zero, List.getElem_cons_succ]
        refine wpAnyH_take (i := 34) (v := .bool true) rfl (by kernel_rfl) (by kernel_rfl) (by kernel_rfl) (fun _ _ _ h => h) (Or.inl ⟨by rfl, fun W hS => by clear hS hHeld; go_simp⟩) hHeld ?_
        try simp only [Act.put, List.setIfInBounds_toArray, List.set_cons_zero, List.set_cons_succ, List.getElem_toArray, List.getElem_cons_zero, List.getElem_cons_succ]
        refine wpAnyH_take (i := 35) (v := undef) rfl (by kernel_rfl) (by kernel_rfl) (by kernel_rfl) (fun _ _ _ h => h) (Or.inr ⟨by rfl, rfl⟩) hHeld ?_
        try simp only [Act.put, List.setIfInBounds_toArray, List.set_cons_zero, List.set_cons_succ, List.getElem_toArray, List.getElem_cons_zero, List.getElem_cons_succ]
        refine wpAnyH_take (i := 36) (v := undef) rfl (by kernel_rfl) (by kernel_rfl) (by kernel_rfl) (fun _ _ _ h => h) (Or.inr ⟨by rfl, rfl⟩) hHeld ?_
        try simp only [Act.put, List.setIfInBounds_toArray, List.set_cons_zero, List.set_cons_succ, List.getElem_toArray, List.getElem_cons_zero, List.getElem_cons_succ]
        refine wpAnyH_take (i := 37) (v := undef) rfl (by kernel_rfl) (by kernel_rfl) (by kernel_rfl) (fun _ _ _ h => h) (Or.inr ⟨by rfl, rfl⟩) hHeld ?_
        try simp only [Act.put, List.setIfInBounds_toArray, List.set_cons_zero, List.set_cons_succ, List.getElem_toArray, List.getElem_cons_zero, List.getElem_cons_succ]
        refine wpAnyH_take (i := 38) (v := .bool true) rfl (by kernel_rfl) (by kernel_rfl) (by kernel_rfl) (fun _ _ _ h => h) (Or.inl ⟨by rfl, fun W hS => by clear hS hHeld; go_simp⟩) hHeld ?_
        try simp only [Act.put, List.setIfInBounds_toArray, List.set_cons_zero, List.set_cons_succ, List.getElem_toArray, List.getElem_cons_zero, List.getElem_cons_succ]
        refine wpAnyH_take (i := 39) (v := .bool true) rfl (by kernel_rfl) (by kernel_rfl) (by kernel_rfl) (fun _ _ _ h => h) (Or.inl ⟨by rfl, fun W hS => by clear hS hHeld; go_simp⟩) hHeld ?_
        try simp only [Act.put, List.setIfInBounds_toArray, List.set_cons_zero, List.set_cons_succ, List.getElem_toArray, List.getElem_cons_zero, List.getElem_cons_succ]
        refine wpAnyH_take (i := 40) (v := .bool true) rfl (by kernel_rfl) (by kernel_rfl) (by kernel_rfl) (fun _ _ _ h => h) (Or.inl ⟨by rfl, fun W hS => by clear hS hHeld; go_simp⟩) hHeld ?_
        try simp only [Act.put, List.setIfInBounds_toArray, List.set_cons_zero, List.set_cons_succ, List.getElem_toArray, List.getElem_cons_zero, List.getElem_cons_succ]
        refine wpAnyH_done (by kernel_rfl) ?_ _
        go_wp2
        go_ret
        exact ⟨rfl, Below.step HW.out hHeld⟩
      · have he := run_eql_hit a1 a2 b1 b2 (hit_other hne)
        clear hne
        refine wp_region_held_drew (S := Below w4.heap.size w4) (by kernel_rfl) (Below.refl _ _).drew (fun hHeld => ?_)
        generalize World.drew _ = W2 at *
        refine wpAnyH_take (i := 0) (v := .agg #[.int .u64 a1, .int .u64 a2]) rfl (by kernel_rfl) (by kernel_rfl) (by kernel_rfl) (fun _ _ _ h => h) (Or.inl ⟨by rfl, fun W hS => by have hl := KA.out.lt; have hk : ∀ j, W.cell? ⟨ga, j, none⟩ = w4.cell? ⟨ga, j, none⟩ := fun j => Below.cell hS hl; have z0 : W.cell? ⟨ga, 0, none⟩ = some (.int .u64 a1) := (hk 0).trans (KA.out.cell 0); have z1 : W.cell? ⟨ga, 1, none⟩ = some (.int .u64 a2) := (hk 1).trans (KA.out.cell 1); clear hk hl; clear hS hHeld; go_simp⟩) hHeld ?_
        try simp only [Act.put, List.setIfInBounds_toArray, List.set_cons_zero, List.set_cons_succ, List.getElem_toArray, List.getElem_cons_zero, List.getElem_cons_succ]
        refine wpAnyH_take (i := 1) (v := .agg #[.int .u64 b1, .int .u64 b2]) rfl (by kernel_rfl) (by kernel_rfl) (by kernel_rfl) (fun _ _ _ h => h) (Or.inl ⟨by rfl, fun W hS => by have hl := KB.out.lt; have hk : ∀ j, W.cell? ⟨gd, j, none⟩ = w4.cell? ⟨gd, j, none⟩ := fun j => Below.cell hS hl; have z0 : W.cell? ⟨gd, 0, none⟩ = some (.int .u64 b1) := (hk 0).trans (KB.out.cell 0); have z1 : W.cell? ⟨gd, 1, none⟩ = some (.int .u64 b2) := (hk 1).trans (KB.out.cell 1); clear hk hl; clear hS hHeld; go_simp⟩) hHeld ?_
        try simp only [Act.put, List.setIfInBounds_toArray, List.set_cons_zero, List.set_cons_succ, List.getElem_toArray, List.getElem_cons_zero, List.getElem_cons_succ]
        refine wpAnyH_take (i := 8) (v := .agg #[.int .u64 a1, .int .u64 a2]) rfl (by kernel_rfl) (by kernel_rfl) (by kernel_rfl) (fun _ _ _ h => h) (Or.inl ⟨by rfl, fun W hS => by have hl := KA.out.lt; have hk : ∀ j, W.cell? ⟨ga, j, none⟩ = w4.cell? ⟨ga, j, none⟩ := fun j => Below.cell hS hl; have z0 : W.cell? ⟨ga, 0, none⟩ = some (.int .u64 a1) := (hk 0).trans (KA.out.cell 0); have z1 : W.cell? ⟨ga, 1, none⟩ = some (.int .u64 a2) := (hk 1).trans (KA.out.cell 1); clear hk hl; clear hS hHeld; go_simp⟩) hHeld ?_
        try simp only [Act.put, List.setIfInBounds_toArray, List.set_cons_zero, List.set_cons_succ, List.getElem_toArray, List.getElem_cons_zero, List.getElem_cons_succ]
        refine wpAnyH_take (i := 9) (v := .agg #[.int .u64 b1, .int .u64 b2]) rfl (by kernel_rfl) (by kernel_rfl) (by kernel_rfl) (fun _ _ _ h => h) (Or.inl ⟨by rfl, fun W hS => by have hl := KB.out.lt; have hk : ∀ j, W.cell? ⟨gd, j, none⟩ = w4.cell? ⟨gd, j, none⟩ := fun j => Below.cell hS hl; have z0 : W.cell? ⟨gd, 0, none⟩ = some (.int .u64 b1) := (hk 0).trans (KB.out.cell 0); have z1 : W.cell? ⟨gd, 1, none⟩ = some (.int .u64 b2) := (hk 1).trans (KB.out.cell 1); clear hk hl; clear hS hHeld; go_simp⟩) hHeld ?_
        try simp only [Act.put, List.setIfInBounds_toArray, List.set_cons_zero, List.set_cons_succ, List.getElem_toArray, List.getElem_cons_zero, List.getElem_cons_succ]
        refine wpAnyH_take (i := 10) (v := .bool false) rfl (by kernel_rfl) (by kernel_rfl) (by kernel_rfl) (fun _ _ _ h => h) (Or.inl ⟨by rfl, fun W hS => by clear hS hHeld; go_simp⟩) hHeld ?_
        try simp only [Act.put, List.setIfInBounds_toArray, List.set_cons_zero, List.set_cons_succ, List.getElem_toArray, List.getElem_cons_zero, List.getElem_cons_succ]
        refine wpAnyH_ready (rs := [2]) (by kernel_rfl) (by simp) ?_
        refine AllReadyH.cons rfl (fun K hK => ?_) AllReadyH.nil
        try simp only [Act.put, List.setIfInBounds_toArray, List.set_cons_zero, List.set_cons_succ, List.getElem_toArray, List.getElem_cons_zero, List.getElem_cons_succ]
        go_simp
        go_at_call 18
        refine (hitR h1 _).mono ?_
        rintro e W3 ⟨rfl, hb⟩
        refine hK.out _ _ (Below.step hHeld hb) (fun hHeld2 => ?_)
        clear hK K hHeld
        have hHeld := hHeld2
        clear hHeld2
        try simp only [Act.put, List.setIfInBounds_toArray, List.set_cons_zero, List.set_cons_succ, List.getElem_toArray, List.getElem_cons_zero, List.getElem_cons_succ]
        clear hb
        refine wpAnyH_take (i := 3) (v := .bool false) rfl (by kernel_rfl) (by kernel_rfl) (by kernel_rfl) (fun _ _ _ h => h) (Or.inl ⟨by rfl, fun W hS => by clear hS hHeld; go_simp⟩) hHeld ?_
        try simp only [Act.put, List.setIfInBounds_toArray, List.set_cons_zero, List.set_cons_succ, List.getElem_toArray, List.getElem_cons_zero, List.getElem_cons_succ]
        refine wpAnyH_take (i := 4) (v := .agg #[.int .u64 b1, .int .u64 b2]) rfl (by kernel_rfl) (by kernel_rfl) (by kernel_rfl) (fun _ _ _ h => h) (Or.inl ⟨by rfl, fun W hS => by have hl := KB.out.lt; have hk : ∀ j, W.cell? ⟨gd, j, none⟩ = w4.cell? ⟨gd, j, none⟩ := fun j => Below.cell hS hl; have z0 : W.cell? ⟨gd, 0, none⟩ = some (.int .u64 b1) := (hk 0).trans (KB.out.cell 0); have z1 : W.cell? ⟨gd, 1, none⟩ = some (.int .u64 b2) := (hk 1).trans (KB.out.cell 1); clear hk hl; clear hS hHeld; go_simp⟩) hHeld ?_
        try simp only [Act.put, List.setIfInBounds_toArray, List.set_cons_zero, List.set_cons_succ, List.getElem_toArray, List.getElem_cons_zero, List.getElem_cons_succ]
        refine wpAnyH_take (i := 5) (v := .agg #[.int .u64 a1, .int .u64 a2]) rfl (by kernel_rfl) (by kernel_rfl) (by kernel_rfl) (fun _ _ _ h => h) (Or.inl ⟨by rfl, fun W hS => by have hl := KA.out.lt; have hk : ∀ j, W.cell? ⟨ga, j, none⟩ = w4.cell? ⟨ga, j, none⟩ := fun j => Below.cell hS hl; have z0 : W.cell? ⟨ga, 0, none⟩ = some (.int .u64 a1) := (hk 0).trans (KA.out.cell 0); have z1 : W.cell? ⟨ga, 1, none⟩ = some (.int .u64 a2) := (hk 1).trans (KA.out.cell 1); clear hk hl; clear hS hHeld; go_simp⟩) hHeld ?_
        try simp only [Act.put, List.setIfInBounds_toArray, List.set_cons_zero, List.set_cons_succ, List.getElem_toArray, List.getElem_cons_zero, List.getElem_cons_succ]
        refine wpAnyH_ready (rs := [6]) (by kernel_rfl) (by simp) ?_
        refine AllReadyH.cons rfl (fun K hK => ?_) AllReadyH.nil
        try simp only [Act.put, List.setIfInBounds_toArray, List.set_cons_zero, List.set_cons_succ, List.getElem_toArray, List.getElem_cons_zero, List.getElem_cons_succ]
        go_simp
        go_at_call 18
        refine (hitR h2 _).mono ?_
        rintro e W4 ⟨rfl, hb⟩
        refine hK.out _ _ (Below.step hHeld hb) (fun hHeld2 => ?_)
        clear hK K hHeld
        have hHeld := hHeld2
        clear hHeld2
        try simp only [Act.put, List.setIfInBounds_toArray, List.set_cons_zero, List.set_cons_succ, List.getElem_toArray, List.getElem_cons_zero, List.getElem_cons_succ]
        clear hb
        refine wpAnyH_take (i := 7) (v := .bool true) rfl (by kernel_rfl) (by kernel_rfl) (by kernel_rfl) (fun _ _ _ h => h) (Or.inl ⟨by rfl, fun W hS => by clear hS hHeld; go_simp⟩) hHeld ?_
        try simp only [Act.put, List.setIfInBounds_toArray, List.set_cons_zero, List.set_cons_succ, List.getElem_toArray, List.getElem_cons_zero, List.getElem_cons_succ]
        refine wpAnyH_take (i := 11) (v := .bool true) rfl (by kernel_rfl) (by kernel_rfl) (by kernel_rfl) (fun _ _ _ h => h) (Or.inl ⟨by rfl, fun W hS => by clear hS hHeld; go_simp⟩) hHeld ?_
        try simp only [Act.put, List.setIfInBounds_toArray, List.set_cons_zero, List.set_cons_succ, List.getElem_toArray, List.getElem_cons_zero, List.getElem_cons_succ]
        refine wpAnyH_take (i := 12) (v := .bool true) rfl (by kernel_rfl) (by kernel_rfl) (by kernel_rfl) (fun _ _ _ h => h) (Or.inl ⟨by rfl, fun W hS => by clear hS hHeld; go_simp⟩) hHeld ?_
        try simp only [Act.put, List.setIfInBounds_toArray, List.set_cons_zero, List.set_cons_succ, List.getElem_toArray, List.getElem_cons_zero, List.getElem_cons_succ]
        refine wpAnyH_take (i := 13) (v := .agg #[.int .u64 a1, .int .u64 a2]) rfl (by kernel_rfl) (by kernel_rfl) (by kernel_rfl) (fun _ _ _ h => h) (Or.inl ⟨by rfl, fun W hS => by have hl := KA.out.lt; have hk : ∀ j, W.cell? ⟨ga, j, none⟩ = w4.cell? ⟨ga, j, none⟩ := fun j => Below.cell hS hl; have z0 : W.cell? ⟨ga, 0, none⟩ = some (.int .u64 a1) := (hk 0).trans (KA.out.cell 0); have z1 : W.cell? ⟨ga, 1, none⟩ = some (.int .u64 a2) := (hk 1).trans (KA.out.cell 1); clear hk hl; clear hS hHeld; go_simp⟩) hHeld ?_
        try simp only [Act.put, List.setIfInBounds_toArray, List.set_cons_zero, List.set_cons_succ, List.getElem_toArray, List.getElem_cons_zero, List.getElem_cons_succ]
        refine wpAnyH_take (i := 14) (v := .agg #[.int .u64 b1, .int .u64 b2]) rfl (by kernel_rfl) (by kernel_rfl) (by kernel_rfl) (fun _ _ _ h => h) (Or.inl ⟨by rfl, fun W hS => by have hl := KB.out.lt; have hk : ∀ j, W.cell? ⟨gd, j, none⟩ = w4.cell? ⟨gd, j, none⟩ := fun j => Below.cell hS hl; have z0 : W.cell? ⟨gd, 0, none⟩ = some (.int .u64 b1) := (hk 0).trans (KB.out.cell 0); have z1 : W.cell? ⟨gd, 1, none⟩ = some (.int .u64 b2) := (hk 1).trans (KB.out.cell 1); clear hk hl; clear hS hHeld; go_simp⟩) hHeld ?_
        try simp only [Act.put, List.setIfInBounds_toArray, List.set_cons_zero, List.set_cons_succ, List.getElem_toArray, List.getElem_cons_zero, List.getElem_cons_succ]
        refine wpAnyH_ready (rs := [15]) (by kernel_rfl) (by simp) ?_
        refine AllReadyH.cons rfl (fun K hK => ?_) AllReadyH.nil
        try simp only [Act.put, List.setIfInBounds_toArray, List.set_cons_zero, List.set_cons_succ, List.getElem_toArray, List.getElem_cons_zero, List.getElem_cons_succ]
        go_simp
        go_at_call 18
        refine (hitR h1 _).mono ?_
        rintro e W5 ⟨rfl, hb⟩
        refine hK.out _ _ (Below.step hHeld hb) (fun hHeld2 => ?_)
        clear hK K hHeld
        have hHeld := hHeld2
        clear hHeld2
        try simp only [Act.put, List.setIfInBounds_toArray, List.set_cons_zero, List.set_cons_succ, List.getElem_toArray, List.getElem_cons_zero, List.getElem_cons_succ]
        clear hb
        refine wpAnyH_take (i := 16) (v := .bool true) rfl (by kernel_rfl) (by kernel_rfl) (by kernel_rfl) (fun _ _ _ h => h) (Or.inl ⟨by rfl, fun W hS => by clear hS hHeld; go_simp⟩) hHeld ?_
        try simp only [Act.put, List.setIfInBounds_toArray, List.set_cons_zero, List.set_cons_succ, List.getElem_toArray, List.getElem_cons_zero, List.getElem_cons_succ]
        refine wpAnyH_take (i := 17) (v := .bool true) rfl (by kernel_rfl) (by kernel_rfl) (by kernel_rfl) (fun _ _ _ h => h) (Or.inl ⟨by rfl, fun W hS => by clear hS hHeld; go_simp⟩) hHeld ?_
        try simp only [Act.put, List.setIfInBounds_toArray, List.set_cons_zero, List.set_cons_succ, List.getElem_toArray, List.getElem_cons_zero, List.getElem_cons_succ]
        refine wpAnyH_take (i := 18) (v := undef) rfl (by kernel_rfl) (by kernel_rfl) (by kernel_rfl) (fun _ _ _ h => h) (Or.inr ⟨by rfl, rfl⟩) hHeld ?_
        try simp only [Act.put, List.setIfInBounds_toArray, List.set_cons_zero, List.set_cons_succ, List.getElem_toArray, List.getElem_cons_zero, List.getElem_cons_succ]
        refine wpAnyH_take (i := 19) (v := undef) rfl (by kernel_rfl) (by kernel_rfl) (by kernel_rfl) (fun _ _ _ h => h) (Or.inr ⟨by rfl, rfl⟩) hHeld ?_
        try simp only [Act.put, List.setIfInBounds_toArray, List.set_cons_zero, List.set_cons_succ, List.getElem_toArray, List.getElem_cons_zero, List.getElem_cons_succ]
        refine wpAnyH_take (i := 20) (v := undef) rfl (by kernel_rfl) (by kernel_rfl) (by kernel_rfl) (fun _ _ _ h => h) (Or.inr ⟨by rfl, rfl⟩) hHeld ?_
        try simp only [Act.put, List.setIfInBounds_toArray, List.set_cons_zero, List.set_cons_succ, List.getElem_toArray, List.getElem_cons_zero, List.getElem_cons_succ]
        refine wpAnyH_take (i := 21) (v := .bool true) rfl (by kernel_rfl) (by kernel_rfl) (by kernel_rfl) (fun _ _ _ h => h) (Or.inl ⟨by rfl, fun W hS => by clear hS hHeld; go_simp⟩) hHeld ?_
        try simp only [Act.put, List.setIfInBounds_toArray, List.set_cons_zero, List.set_cons_succ, List.getElem_toArray, List.getElem_cons_zero, List.getElem_cons_succ]
        refine wpAnyH_take (i := 22) (v := .bool true) rfl (by kernel_rfl) (by kernel_rfl) (by kernel_rfl) (fun _ _ _ h => h) (Or.inl ⟨by rfl, fun W hS => by clear hS hHeld; go_simp⟩) hHeld ?_
        try simp only [Act.put, List.setIfInBounds_toArray, List.set_cons_zero, List.set_cons_succ, List.getElem_toArray, List.getElem_cons_zero, List.getElem_cons_succ]
        refine wpAnyH_take (i := 23) (v := .bool true) rfl (by kernel_rfl) (by kernel_rfl) (by kernel_rfl) (fun _ _ _ h => h) (Or.inl ⟨by rfl, fun W hS => by clear hS hHeld; go_simp⟩) hHeld ?_
        try simp only [Act.put, List.setIfInBounds_toArray, List.set_cons_zero, List.set_cons_succ, List.getElem_toArray, List.getElem_cons_zero, List.getElem_cons_succ]
        refine wpAnyH_take (i := 24) (v := .agg #[.int .u64 a1, .int .u64 a2]) rfl (by kernel_rfl) (by kernel_rfl) (by kernel_rfl) (fun _ _ _ h => h) (Or.inl ⟨by rfl, fun W hS => by have hl := KA.out.lt; have hk : ∀ j, W.cell? ⟨ga, j, none⟩ = w4.cell? ⟨ga, j, none⟩ := fun j => Below.cell hS hl; have z0 : W.cell? ⟨ga, 0, none⟩ = some (.int .u64 a1) := (hk 0).trans (KA.out.cell 0); have z1 : W.cell? ⟨ga, 1, none⟩ = some (.int .u64 a2) := (hk 1).trans (KA.out.cell 1); clear hk hl; clear hS hHeld; go_simp⟩) hHeld ?_
        try simp only [Act.put, List.setIfInBounds_toArray, List.set_cons_zero, List.set_cons_succ, List.getElem_toArray, List.getElem_cons_zero, List.getElem_cons_succ]
        refine wpAnyH_take (i := 25) (v := .agg #[.int .u64 b1, .int .u64 b2]) rfl (by kernel_rfl) (by kernel_rfl) (by kernel_rfl) (fun _ _ _ h => h) (Or.inl ⟨by rfl, fun W hS => by have hl := KB.out.lt; have hk : ∀ j, W.cell? ⟨gd, j, none⟩ = w4.cell? ⟨gd, j, none⟩ := fun j => Below.cell hS hl; have z0 : W.cell? ⟨gd, 0, none⟩ = some (.int .u64 b1) := (hk 0).trans (KB.out.cell 0); have z1 : W.cell? ⟨gd, 1, none⟩ = some (.int .u64 b2) := (hk 1).trans (KB.out.cell 1); clear hk hl; clear hS hHeld; go_simp⟩) hHeld ?_
        try simp only [Act.put, List.setIfInBounds_toArray, List.set_cons_zero, List.set_cons_succ, List.getElem_toArray, List.getElem_cons_zero, List.getElem_cons_succ]
        refine wpAnyH_ready (rs := [26]) (by kernel_rfl) (by simp) ?_
        refine AllReadyH.cons rfl (fun K hK => ?_) AllReadyH.nil
        try simp only [Act.put, List.setIfInBounds_toArray, List.set_cons_zero, List.set_cons_succ, List.getElem_toArray, List.getElem_cons_zero, List.getElem_cons_succ]
        go_simp
        go_at_call 18
        refine (hitR h1 _).mono ?_
        rintro e W6 ⟨rfl, hb⟩
        refine hK.out _ _ (Below.step hHeld hb) (fun hHeld2 => ?_)
        clear hK K hHeld
        have hHeld := hHeld2
        clear hHeld2
        try simp only [Act.put, List.setIfInBounds_toArray, List.set_cons_zero, List.set_cons_succ, List.getElem_toArray, List.getElem_cons_zero, List.getElem_cons_succ]
        clear hb
        refine wpAnyH_take (i := 27) (v := .bool true) rfl (by kernel_rfl) (by kernel_rfl) (by kernel_rfl) (fun _ _ _ h => h) (Or.inl ⟨by rfl, fun W hS => by clear hS hHeld; go_simp⟩) hHeld ?_
        try simp only [Act.put, List.setIfInBounds_toArray, List.set_cons_zero, List.set_cons_succ, List.getElem_toArray, List.getElem_cons_zero, List.getElem_cons_succ]
        refine wpAnyH_take (i := 28) (v := .bool true) rfl (by kernel_rfl) (by kernel_rfl) (by kernel_rfl) (fun _ _ _ h => h) (Or.inl ⟨by rfl, fun W hS => by clear hS hHeld; go_simp⟩) hHeld ?_
        try simp only [Act.put, List.setIfInBounds_toArray, List.set_cons_zero, List.set_cons_succ, List.getElem_toArray, List.getElem_cons_zero, List.getElem_cons_succ]
        refine wpAnyH_take (i := 29) (v := undef) rfl (by kernel_rfl) (by kernel_rfl) (by kernel_rfl) (fun _ _ _ h => h) (Or.inr ⟨by rfl, rfl⟩) hHeld ?_
        try simp only [Act.put, List.setIfInBounds_toArray, List.set_cons_zero, List.set_cons_succ, List.getElem_toArray, List.getElem_cons_zero, List.getElem_cons_succ]
        refine wpAnyH_take (i := 30) (v := undef) rfl (by kernel_rfl) (by kernel_rfl) (by kernel_rfl) (fun _ _ _ h => h) (Or.inr ⟨by rfl, rfl⟩) hHeld ?_
        try simp only [Act.put, List.setIfInBounds_toArray, List.set_cons_zero, List.set_cons_succ, List.getElem_toArray, List.getElem_cons_zero, List.getElem_cons_succ]
        refine wpAnyH_take (i := 31) (v := undef) rfl (by kernel_rfl) (by kernel_rfl) (by kernel_rfl) (fun _ _ _ h => h) (Or.inr ⟨by rfl, rfl⟩) hHeld ?_
        try simp only [Act.put, List.setIfInBounds_toArray, List.set_cons_zero, List.set_cons_succ, List.getElem_toArray, List.getElem_cons_zero, List.getElem_cons_succ]
        refine wpAnyH_take (i := 32) (v := undef) rfl (by kernel_rfl) (by kernel_rfl) (by kernel_rfl) (fun _ _ _ h => h) (Or.inr ⟨by rfl, rfl⟩) hHeld ?_
        try simp only [Act.put, List.setIfInBounds_toArray, List.set_cons_zero, List.set_cons_succ, List.getElem_toArray, List.getElem_cons_zero, List.getElem_cons_succ]
        refine wpAnyH_take (i := 33) (v := .bool true) rfl (by kernel_rfl) (by kernel_rfl) (by kernel_rfl) (fun _ _ _ h => h) (Or.inl ⟨by rfl, fun W hS => by clear hS hHeld; go_simp⟩) hHeld ?_
        try simp only [Act.put, List.setIfInBounds_toArray, List.set_cons_zero, List.set_cons_succ, List.getElem_toArray, List.getElem_cons_zero, List.getElem_cons_succ]
        refine wpAnyH_take (i := 34) (v := .bool true) rfl (by kernel_rfl) (by kernel_rfl) (by kernel_rfl) (fun _ _ _ h => h) (Or.inl ⟨by rfl, fun W hS => by clear hS hHeld; go_simp⟩) hHeld ?_
        try simp only [Act.put, List.setIfInBounds_toArray, List.set_cons_zero, List.set_cons_succ, List.getElem_toArray, List.getElem_cons_zero, List.getElem_cons_succ]
        refine wpAnyH_take (i := 35) (v := undef) rfl (by kernel_rfl) (by kernel_rfl) (by kernel_rfl) (fun _ _ _ h => h) (Or.inr ⟨by rfl, rfl⟩) hHeld ?_
        try simp only [Act.put, List.setIfInBounds_toArray, List.set_cons_zero, List.set_cons_succ, List.getElem_toArray, List.getElem_cons_zero, List.getElem_cons_succ]
        refine wpAnyH_take (i := 36) (v := undef) rfl (by kernel_rfl) (by kernel_rfl) (by kernel_rfl) (fun _ _ _ h => h) (Or.inr ⟨by rfl, rfl⟩) hHeld ?_
        try simp only [Act.put, List.setIfInBounds_toArray, List.set_cons_zero, List.set_cons_succ, List.getElem_toArray, List.getElem_cons_zero, List.getElem_cons_succ]
        refine wpAnyH_take (i := 37) (v := undef) rfl (by kernel_rfl) (by kernel_rfl) (by kernel_rfl) (fun _ _ _ h => h) (Or.inr ⟨by rfl, rfl⟩) hHeld ?_
        try simp only [Act.put, List.setIfInBounds_toArray, List.set_cons_zero, List.set_cons_succ, List.getElem_toArray, List.getElem_cons_zero, List.getElem_cons_succ]
        refine wpAnyH_take (i := 38) (v := .bool true) rfl (by kernel_rfl) (by kernel_rfl) (by kernel_rfl) (fun _ _ _ h => h) (Or.inl ⟨by rfl, fun W hS => by clear hS hHeld; go_simp⟩) hHeld ?_
        try simp only [Act.put, List.setIfInBounds_toArray, List.set_cons_zero, List.set_cons_succ, List.getElem_toArray, List.getElem_cons_zero, List.getElem_cons_succ]
        refine wpAnyH_take (i := 39) (v := .bool true) rfl (by kernel_rfl) (by kernel_rfl) (by kernel_rfl) (fun _ _ _ h => h) (Or.inl ⟨by rfl, fun W hS => by clear hS hHeld; go_simp⟩) hHeld ?_
        try simp only [Act.put, List.setIfInBounds_toArray, List.set_cons_zero, List.set_cons_succ, List.getElem_toArray, List.getElem_cons_zero, List.getElem_cons_succ]
        refine wpAnyH_take (i := 40) (v := .bool true) rfl (by kernel_rfl) (by kernel_rfl) (by kernel_rfl) (fun _ _ _ h => h) (Or.inl ⟨by rfl, fun W hS => by clear hS hHeld; go_simp⟩) hHeld ?_
        try simp only [Act.put, List.setIfInBounds_toArray, List.set_cons_zero, List.set_cons_succ, List.getElem_toArray, List.getElem_cons_zero, List.getElem_cons_succ]
        refine wpAnyH_done (by kernel_rfl) ?_ _
        go_wp2
        go_ret
        exact ⟨rfl, Below.step HW.out hHeld⟩
      · have he := run_eql_hit a1 a2 b1 b2 (hit_same heq)
        clear heq
        refine wp_region_held_drew (S := Below w4.heap.size w4) (by kernel_rfl) (Below.refl _ _).drew (fun hHeld => ?_)
        generalize World.drew _ = W2 at *
        refine wpAnyH_take (i := 0) (v := .agg #[.int .u64 a1, .int .u64 a2]) rfl (by kernel_rfl) (by kernel_rfl) (by kernel_rfl) (fun _ _ _ h => h) (Or.inl ⟨by rfl, fun W hS => by have hl := KA.out.lt; have hk : ∀ j, W.cell? ⟨ga, j, none⟩ = w4.cell? ⟨ga, j, none⟩ := fun j => Below.cell hS hl; have z0 : W.cell? ⟨ga, 0, none⟩ = some (.int .u64 a1) := (hk 0).trans (KA.out.cell 0); have z1 : W.cell? ⟨ga, 1, none⟩ = some (.int .u64 a2) := (hk 1).trans (KA.out.cell 1); clear hk hl; clear hS hHeld; go_simp⟩) hHeld ?_
        try simp only [Act.put, List.setIfInBounds_toArray, List.set_cons_zero, List.set_cons_succ, List.getElem_toArray, List.getElem_cons_zero, List.getElem_cons_succ]
        refine wpAnyH_take (i := 1) (v := .agg #[.int .u64 b1, .int .u64 b2]) rfl (by kernel_rfl) (by kernel_rfl) (by kernel_rfl) (fun _ _ _ h => h) (Or.inl ⟨by rfl, fun W hS => by have hl := KB.out.lt; have hk : ∀ j, W.cell? ⟨gd, j, none⟩ = w4.cell? ⟨gd, j, none⟩ := fun j => Below.cell hS hl; have z0 : W.cell? ⟨gd, 0, none⟩ = some (.int .u64 b1) := (hk 0).trans (KB.out.cell 0); have z1 : W.cell? ⟨gd, 1, none⟩ = some (.int .u64 b2) := (hk 1).trans (KB.out.cell 1); clear hk hl; clear hS hHeld; go_simp⟩) hHeld ?_
        try simp only [Act.put, List.setIfInBounds_toArray, List.set_cons_zero, List.set_cons_succ, List.getElem_toArray, List.getElem_cons_zero, List.getElem_cons_succ]
        refine wpAnyH_take (i := 8) (v := .agg #[.int .u64 a1, .int .u64 a2]) rfl (by kernel_rfl) (by kernel_rfl) (by kernel_rfl) (fun _ _ _ h => h) (Or.inl ⟨by rfl, fun W hS => by have hl := KA.out.lt; have hk : ∀ j, W.cell? ⟨ga, j, none⟩ = w4.cell? ⟨ga, j, none⟩ := fun j => Below.cell hS hl; have z0 : W.cell? ⟨ga, 0, none⟩ = some (.int .u64 a1) := (hk 0).trans (KA.out.cell 0); have z1 : W.cell? ⟨ga, 1, none⟩ = some (.int .u64 a2) := (hk 1).trans (KA.out.cell 1); clear hk hl; clear hS hHeld; go_simp⟩) hHeld ?_
        try simp only [Act.put, List.setIfInBounds_toArray, List.set_cons_zero, List.set_cons_succ, List.getElem_toArray, List.getElem_cons_zero, List.getElem_cons_succ]
        refine wpAnyH_take (i := 9) (v := .agg #[.int .u64 b1, .int .u64 b2]) rfl (by kernel_rfl) (by kernel_rfl) (by kernel_rfl) (fun _ _ _ h => h) (Or.inl ⟨by rfl, fun W hS => by have hl := KB.out.lt; have hk : ∀ j, W.cell? ⟨gd, j, none⟩ = w4.cell? ⟨gd, j, none⟩ := fun j => Below.cell hS hl; have z0 : W.cell? ⟨gd, 0, none⟩ = some (.int .u64 b1) := (hk 0).trans (KB.out.cell 0); have z1 : W.cell? ⟨gd, 1, none⟩ = some (.int .u64 b2) := (hk 1).trans (KB.out.cell 1); clear hk hl; clear hS hHeld; go_simp⟩) hHeld ?_
        try simp only [Act.put, List.setIfInBounds_toArray, List.set_cons_zero, List.set_cons_succ, List.getElem_toArray, List.getElem_cons_zero, List.getElem_cons_succ]
        refine wpAnyH_take (i := 10) (v := .bool true) rfl (by kernel_rfl) (by kernel_rfl) (by kernel_rfl) (fun _ _ _ h => h) (Or.inl ⟨by rfl, fun W hS => by clear hS hHeld; go_simp⟩) hHeld ?_
        try simp only [Act.put, List.setIfInBounds_toArray, List.set_cons_zero, List.set_cons_succ, List.getElem_toArray, List.getElem_cons_zero, List.getElem_cons_succ]
        refine wpAnyH_ready (rs := [2]) (by kernel_rfl) (by simp) ?_
        refine AllReadyH.cons rfl (fun K hK => ?_) AllReadyH.nil
        try simp only [Act.put, List.setIfInBounds_toArray, List.set_cons_zero, List.set_cons_succ, List.getElem_toArray, List.getElem_cons_zero, List.getElem_cons_succ]
        go_simp
        go_at_call 18
        refine (hitR h1 _).mono ?_
        rintro e W3 ⟨rfl, hb⟩
        refine hK.out _ _ (Below.step hHeld hb) (fun hHeld2 => ?_)
        clear hK K hHeld
        have hHeld := hHeld2
        clear hHeld2
        try simp only [Act.put, List.setIfInBounds_toArray, List.set_cons_zero, List.set_cons_succ, List.getElem_toArray, List.getElem_cons_zero, List.getElem_cons_succ]
        clear hb
        refine wpAnyH_take (i := 3) (v := .bool false) rfl (by kernel_rfl) (by kernel_rfl) (by kernel_rfl) (fun _ _ _ h => h) (Or.inl ⟨by rfl, fun W hS => by clear hS hHeld; go_simp⟩) hHeld ?_
        try simp only [Act.put, List.setIfInBounds_toArray, List.set_cons_zero, List.set_cons_succ, List.getElem_toArray, List.getElem_cons_zero, List.getElem_cons_succ]
        refine wpAnyH_take (i := 4) (v := .agg #[.int .u64 b1, .int .u64 b2]) rfl (by kernel_rfl) (by kernel_rfl) (by kernel_rfl) (fun _ _ _ h => h) (Or.inl ⟨by rfl, fun W hS => by have hl := KB.out.lt; have hk : ∀ j, W.cell? ⟨gd, j, none⟩ = w4.cell? ⟨gd, j, none⟩ := fun j => Below.cell hS hl; have z0 : W.cell? ⟨gd, 0, none⟩ = some (.int .u64 b1) := (hk 0).trans (KB.out.cell 0); have z1 : W.cell? ⟨gd, 1, none⟩ = some (.int .u64 b2) := (hk 1).trans (KB.out.cell 1); clear hk hl; clear hS hHeld; go_simp⟩) hHeld ?_
        try simp only [Act.put, List.setIfInBounds_toArray, List.set_cons_zero, List.set_cons_succ, List.getElem_toArray, List.getElem_cons_zero, List.getElem_cons_succ]
        refine wpAnyH_take (i := 5) (v := .agg #[.int .u64 a1, .int .u64 a2]) rfl (by kernel_rfl) (by kernel_rfl) (by kernel_rfl) (fun _ _ _ h => h) (Or.inl ⟨by rfl, fun W hS => by have hl := KA.out.lt; have hk : ∀ j, W.cell? ⟨ga, j, none⟩ = w4.cell? ⟨ga, j, none⟩ := fun j => Below.cell hS hl; have z0 : W.cell? ⟨ga, 0, none⟩ = some (.int .u64 a1) := (hk 0).trans (KA.out.cell 0); have z1 : W.cell? ⟨ga, 1, none⟩ = some (.int .u64 a2) := (hk 1).trans (KA.out.cell 1); clear hk hl; clear hS hHeld; go_simp⟩) hHeld ?_
        try simp only [Act.put, List.setIfInBounds_toArray, List.set_cons_zero, List.set_cons_succ, List.getElem_toArray, List.getElem_cons_zero, List.getElem_cons_succ]
        refine wpAnyH_ready (rs := [6]) (by kernel_rfl) (by simp) ?_
        refine AllReadyH.cons rfl (fun K hK => ?_) AllReadyH.nil
        try simp only [Act.put, List.setIfInBounds_toArray, List.set_cons_zero, List.set_cons_succ, List.getElem_toArray, List.getElem_cons_zero, List.getElem_cons_succ]
        go_simp
        go_at_call 18
        refine (hitR h2 _).mono ?_
        rintro e W4 ⟨rfl, hb⟩
        refine hK.out _ _ (Below.step hHeld hb) (fun hHeld2 => ?_)
        clear hK K hHeld
        have hHeld := hHeld2
        clear hHeld2
        try simp only [Act.put, List.setIfInBounds_toArray, List.set_cons_zero, List.set_cons_succ, List.getElem_toArray, List.getElem_cons_zero, List.getElem_cons_succ]
        clear hb
        refine wpAnyH_take (i := 7) (v := .bool false) rfl (by kernel_rfl) (by kernel_rfl) (by kernel_rfl) (fun _ _ _ h => h) (Or.inl ⟨by rfl, fun W hS => by clear hS hHeld; go_simp⟩) hHeld ?_
        try simp only [Act.put, List.setIfInBounds_toArray, List.set_cons_zero, List.set_cons_succ, List.getElem_toArray, List.getElem_cons_zero, List.getElem_cons_succ]
        refine wpAnyH_take (i := 11) (v := .bool true) rfl (by kernel_rfl) (by kernel_rfl) (by kernel_rfl) (fun _ _ _ h => h) (Or.inl ⟨by rfl, fun W hS => by clear hS hHeld; go_simp⟩) hHeld ?_
        try simp only [Act.put, List.setIfInBounds_toArray, List.set_cons_zero, List.set_cons_succ, List.getElem_toArray, List.getElem_cons_zero, List.getElem_cons_succ]
        refine wpAnyH_take (i := 12) (v := .bool true) rfl (by kernel_rfl) (by kernel_rfl) (by kernel_rfl) (fun _ _ _ h => h) (Or.inl ⟨by rfl, fun W hS => by clear hS hHeld; go_simp⟩) hHeld ?_
        try simp only [Act.put, List.setIfInBounds_toArray, List.set_cons_zero, List.set_cons_succ, List.getElem_toArray, List.getElem_cons_zero, List.getElem_cons_succ]
        refine wpAnyH_take (i := 13) (v := .agg #[.int .u64 a1, .int .u64 a2]) rfl (by kernel_rfl) (by kernel_rfl) (by kernel_rfl) (fun _ _ _ h => h) (Or.inl ⟨by rfl, fun W hS => by have hl := KA.out.lt; have hk : ∀ j, W.cell? ⟨ga, j, none⟩ = w4.cell? ⟨ga, j, none⟩ := fun j => Below.cell hS hl; have z0 : W.cell? ⟨ga, 0, none⟩ = some (.int .u64 a1) := (hk 0).trans (KA.out.cell 0); have z1 : W.cell? ⟨ga, 1, none⟩ = some (.int .u64 a2) := (hk 1).trans (KA.out.cell 1); clear hk hl; clear hS hHeld; go_simp⟩) hHeld ?_
        try simp only [Act.put, List.setIfInBounds_toArray, List.set_cons_zero, List.set_cons_succ, List.getElem_toArray, List.getElem_cons_zero, List.getElem_cons_succ]
        refine wpAnyH_take (i := 14) (v := .agg #[.int .u64 b1, .int .u64 b2]) rfl (by kernel_rfl) (by kernel_rfl) (by kernel_rfl) (fun _ _ _ h => h) (Or.inl ⟨by rfl, fun W hS => by have hl := KB.out.lt; have hk : ∀ j, W.cell? ⟨gd, j, none⟩ = w4.cell? ⟨gd, j, none⟩ := fun j => Below.cell hS hl; have z0 : W.cell? ⟨gd, 0, none⟩ = some (.int .u64 b1) := (hk 0).trans (KB.out.cell 0); have z1 : W.cell? ⟨gd, 1, none⟩ = some (.int .u64 b2) := (hk 1).trans (KB.out.cell 1); clear hk hl; clear hS hHeld; go_simp⟩) hHeld ?_
        try simp only [Act.put, List.setIfInBounds_toArray, List.set_cons_zero, List.set_cons_succ, List.getElem_toArray, List.getElem_cons_zero, List.getElem_cons_succ]
        refine wpAnyH_ready (rs := [15]) (by kernel_rfl) (by simp) ?_
        refine AllReadyH.cons rfl (fun K hK => ?_) AllReadyH.nil
        try simp only [Act.put, List.setIfInBounds_toArray, List.set_cons_zero, List.set_cons_succ, List.getElem_toArray, List.getElem_cons_zero, List.getElem_cons_succ]
        go_simp
        go_at_call 18
        refine (hitR h1 _).mono ?_
        rintro e W5 ⟨rfl, hb⟩
        refine hK.out _ _ (Below.step hHeld hb) (fun hHeld2 => ?_)
        clear hK K hHeld
        have hHeld := hHeld2
        clear hHeld2
        try simp only [Act.put, List.setIfInBounds_toArray, List.set_cons_zero, List.set_cons_succ, List.getElem_toArray, List.getElem_cons_zero, List.getElem_cons_succ]
        clear hb
        refine wpAnyH_take (i := 16) (v := .bool true) rfl (by kernel_rfl) (by kernel_rfl) (by kernel_rfl) (fun _ _ _ h => h) (Or.inl ⟨by rfl, fun W hS => by clear hS hHeld; go_simp⟩) hHeld ?_
        try simp only [Act.put, List.setIfInBounds_toArray, List.set_cons_zero, List.set_cons_succ, List.getElem_toArray, List.getElem_cons_zero, List.getElem_cons_succ]
        refine wpAnyH_take (i := 17) (v := .bool true) rfl (by kernel_rfl) (by kernel_rfl) (by kernel_rfl) (fun _ _ _ h => h) (Or.inl ⟨by rfl, fun W hS => by clear hS hHeld; go_simp⟩) hHeld ?_
        try simp only [Act.put, List.setIfInBounds_toArray, List.set_cons_zero, List.set_cons_succ, List.getElem_toArray, List.getElem_cons_zero, List.getElem_cons_succ]
        refine wpAnyH_take (i := 18) (v := undef) rfl (by kernel_rfl) (by kernel_rfl) (by kernel_rfl) (fun _ _ _ h => h) (Or.inr ⟨by rfl, rfl⟩) hHeld ?_
        try simp only [Act.put, List.setIfInBounds_toArray, List.set_cons_zero, List.set_cons_succ, List.getElem_toArray, List.getElem_cons_zero, List.getElem_cons_succ]
        refine wpAnyH_take (i := 19) (v := undef) rfl (by kernel_rfl) (by kernel_rfl) (by kernel_rfl) (fun _ _ _ h => h) (Or.inr ⟨by rfl, rfl⟩) hHeld ?_
        try simp only [Act.put, List.setIfInBounds_toArray, List.set_cons_zero, List.set_cons_succ, List.getElem_toArray, List.getElem_cons_zero, List.getElem_cons_succ]
        refine wpAnyH_take (i := 20) (v := undef) rfl (by kernel_rfl) (by kernel_rfl) (by kernel_rfl) (fun _ _ _ h => h) (Or.inr ⟨by rfl, rfl⟩) hHeld ?_
        try simp only [Act.put, List.setIfInBounds_toArray, List.set_cons_zero, List.set_cons_succ, List.getElem_toArray, List.getElem_cons_zero, List.getElem_cons_succ]
        refine wpAnyH_take (i := 21) (v := .bool true) rfl (by kernel_rfl) (by kernel_rfl) (by kernel_rfl) (fun _ _ _ h => h) (Or.inl ⟨by rfl, fun W hS => by clear hS hHeld; go_simp⟩) hHeld ?_
        try simp only [Act.put, List.setIfInBounds_toArray, List.set_cons_zero, List.set_cons_succ, List.getElem_toArray, List.getElem_cons_zero, List.getElem_cons_succ]
        refine wpAnyH_take (i := 22) (v := .bool true) rfl (by kernel_rfl) (by kernel_rfl) (by kernel_rfl) (fun _ _ _ h => h) (Or.inl ⟨by rfl, fun W hS => by clear hS hHeld; go_simp⟩) hHeld ?_
        try simp only [Act.put, List.setIfInBounds_toArray, List.set_cons_zero, List.set_cons_succ, List.getElem_toArray, List.getElem_cons_zero, List.getElem_cons_succ]
        refine wpAnyH_take (i := 23) (v := .bool true) rfl (by kernel_rfl) (by kernel_rfl) (by kernel_rfl) (fun _ _ _ h => h) (Or.inl ⟨by rfl, fun W hS => by clear hS hHeld; go_simp⟩) hHeld ?_
        try simp only [Act.put, List.setIfInBounds_toArray, List.set_cons_zero, List.set_cons_succ, List.getElem_toArray, List.getElem_cons_zero, List.getElem_cons_succ]
        refine wpAnyH_take (i := 24) (v := .agg #[.int .u64 a1, .int .u64 a2]) rfl (by kernel_rfl) (by kernel_rfl) (by kernel_rfl) (fun _ _ _ h => h) (Or.inl ⟨by rfl, fun W hS => by have hl := KA.out.lt; have hk : ∀ j, W.cell? ⟨ga, j, none⟩ = w4.cell? ⟨ga, j, none⟩ := fun j => Below.cell hS hl; have z0 : W.cell? ⟨ga, 0, none⟩ = some (.int .u64 a1) := (hk 0).trans (KA.out.cell 0); have z1 : W.cell? ⟨ga, 1, none⟩ = some (.int .u64 a2) := (hk 1).trans (KA.out.cell 1); clear hk hl; clear hS hHeld; go_simp⟩) hHeld ?_
        try simp only [Act.put, List.setIfInBounds_toArray, List.set_cons_zero, List.set_cons_succ, List.getElem_toArray, List.getElem_cons_zero, List.getElem_cons_succ]
        refine wpAnyH_take (i := 25) (v := .agg #[.int .u64 b1, .int .u64 b2]) rfl (by kernel_rfl) (by kernel_rfl) (by kernel_rfl) (fun _ _ _ h => h) (Or.inl ⟨by rfl, fun W hS => by have hl := KB.out.lt; have hk : ∀ j, W.cell? ⟨gd, j, none⟩ = w4.cell? ⟨gd, j, none⟩ := fun j => Below.cell hS hl; have z0 : W.cell? ⟨gd, 0, none⟩ = some (.int .u64 b1) := (hk 0).trans (KB.out.cell 0); have z1 : W.cell? ⟨gd, 1, none⟩ = some (.int .u64 b2) := (hk 1).trans (KB.out.cell 1); clear hk hl; clear hS hHeld; go_simp⟩) hHeld ?_
        try simp only [Act.put, List.setIfInBounds_toArray, List.set_cons_zero, List.set_cons_succ, List.getElem_toArray, List.getElem_cons_zero, List.getElem_cons_succ]
        refine wpAnyH_ready (rs := [26]) (by kernel_rfl) (by simp) ?_
        refine AllReadyH.cons rfl (fun K hK => ?_) AllReadyH.nil
        try simp only [Act.put, List.setIfInBounds_toArray, List.set_cons_zero, List.set_cons_succ, List.getElem_toArray, List.getElem_cons_zero, List.getElem_cons_succ]
        go_simp
        go_at_call 18
        refine (hitR h1 _).mono ?_
        rintro e W6 ⟨rfl, hb⟩
        refine hK.out _ _ (Below.step hHeld hb) (fun hHeld2 => ?_)
        clear hK K hHeld
        have hHeld := hHeld2
        clear hHeld2
        try simp only [Act.put, List.setIfInBounds_toArray, List.set_cons_zero, List.set_cons_succ, List.getElem_toArray, List.getElem_cons_zero, List.getElem_cons_succ]
        clear hb
        refine wpAnyH_take (i := 27) (v := .bool true) rfl (by kernel_rfl) (by kernel_rfl) (by kernel_rfl) (fun _ _ _ h => h) (Or.inl ⟨by rfl, fun W hS => by clear hS hHeld; go_simp⟩) hHeld ?_
        try simp only [Act.put, List.setIfInBounds_toArray, List.set_cons_zero, List.set_cons_succ, List.getElem_toArray, List.getElem_cons_zero, List.getElem_cons_succ]
        refine wpAnyH_take (i := 28) (v := .bool true) rfl (by kernel_rfl) (by kernel_rfl) (by kernel_rfl) (fun _ _ _ h => h) (Or.inl ⟨by rfl, fun W hS => by clear hS hHeld; go_simp⟩) hHeld ?_
        try simp only [Act.put, List.setIfInBounds_toArray, List.set_cons_zero, List.set_cons_succ, List.getElem_toArray, List.getElem_cons_zero, List.getElem_cons_succ]
        refine wpAnyH_take (i := 29) (v := undef) rfl (by kernel_rfl) (by kernel_rfl) (by kernel_rfl) (fun _ _ _ h => h) (Or.inr ⟨by rfl, rfl⟩) hHeld ?_
        try simp only [Act.put, List.setIfInBounds_toArray, List.set_cons_zero, List.set_cons_succ, List.getElem_toArray, List.getElem_cons_zero, List.getElem_cons_succ]
        refine wpAnyH_take (i := 30) (v := undef) rfl (by kernel_rfl) (by kernel_rfl) (by kernel_rfl) (fun _ _ _ h => h) (Or.inr ⟨by rfl, rfl⟩) hHeld ?_
        try simp only [Act.put, List.setIfInBounds_toArray, List.set_cons_zero, List.set_cons_succ, List.getElem_toArray, List.getElem_cons_zero, List.getElem_cons_succ]
        refine wpAnyH_take (i := 31) (v := undef) rfl (by kernel_rfl) (by kernel_rfl) (by kernel_rfl) (fun _ _ _ h => h) (Or.inr ⟨by rfl, rfl⟩) hHeld ?_
        try simp only [Act.put, List.setIfInBounds_toArray, List.set_cons_zero, List.set_cons_succ, List.getElem_toArray, List.getElem_cons_zero, List.getElem_cons_succ]
        refine wpAnyH_take (i := 32) (v := undef) rfl (by kernel_rfl) (by kernel_rfl) (by kernel_rfl) (fun _ _ _ h => h) (Or.inr ⟨by rfl, rfl⟩) hHeld ?_
        try simp only [Act.put, List.setIfInBounds_toArray, List.set_cons_zero, List.set_cons_succ, List.getElem_toArray, List.getElem_cons_zero, List.getElem_cons_succ]
        refine wpAnyH_take (i := 33) (v := .bool true) rfl (by kernel_rfl) (by kernel_rfl) (by kernel_rfl) (fun _ _ _ h => h) (Or.inl ⟨by rfl, fun W hS => by clear hS hHeld; go_simp⟩) hHeld ?_
        try simp only [Act.put, List.setIfInBounds_toArray, List.set_cons_zero, List.set_cons_succ, List.getElem_toArray, List.getElem_cons_zero, List.getElem_cons_succ]
        refine wpAnyH_take (i := 34) (v := .bool true) rfl (by kernel_rfl) (by kernel_rfl) (by kernel_rfl) (fun _ _ _ h => h) (Or.inl ⟨by rfl, fun W hS => by clear hS hHeld; go_simp⟩) hHeld ?_
        try simp only [Act.put, List.setIfInBounds_toArray, List.set_cons_zero, List.set_cons_succ, List.getElem_toArray, List.getElem_cons_zero, List.getElem_cons_succ]
        refine wpAnyH_take (i := 35) (v := undef) rfl (by kernel_rfl) (by kernel_rfl) (by kernel_rfl) (fun _ _ _ h => h) (Or.inr ⟨by rfl, rfl⟩) hHeld ?_
        try simp only [Act.put, List.setIfInBounds_toArray, List.set_cons_zero, List.set_cons_succ, List.getElem_toArray, List.getElem_cons_zero, List.getElem_cons_succ]
        refine wpAnyH_take (i := 36) (v := undef) rfl (by kernel_rfl) (by kernel_rfl) (by kernel_rfl) (fun _ _ _ h => h) (Or.inr ⟨by rfl, rfl⟩) hHeld ?_
        try simp only [Act.put, List.setIfInBounds_toArray, List.set_cons_zero, List.set_cons_succ, List.getElem_toArray, List.getElem_cons_zero, List.getElem_cons_succ]
        refine wpAnyH_take (i := 37) (v := undef) rfl (by kernel_rfl) (by kernel_rfl) (by kernel_rfl) (fun _ _ _ h => h) (Or.inr ⟨by rfl, rfl⟩) hHeld ?_
        try simp only [Act.put, List.setIfInBounds_toArray, List.set_cons_zero, List.set_cons_succ, List.getElem_toArray, List.getElem_cons_zero, List.getElem_cons_succ]
        refine wpAnyH_take (i := 38) (v := .bool true) rfl (by kernel_rfl) (by kernel_rfl) (by kernel_rfl) (fun _ _ _ h => h) (Or.inl ⟨by rfl, fun W hS => by clear hS hHeld; go_simp⟩) hHeld ?_
        try simp only [Act.put, List.setIfInBounds_toArray, List.set_cons_zero, List.set_cons_succ, List.getElem_toArray, List.getElem_cons_zero, List.getElem_cons_succ]
        refine wpAnyH_take (i := 39) (v := .bool true) rfl (by kernel_rfl) (by kernel_rfl) (by kernel_rfl) (fun _ _ _ h => h) (Or.inl ⟨by rfl, fun W hS => by clear hS hHeld; go_simp⟩) hHeld ?_
        try simp only [Act.put, List.setIfInBounds_toArray, List.set_cons_zero, List.set_cons_succ, List.getElem_toArray, List.getElem_cons_zero, List.getElem_cons_succ]
        refine wpAnyH_take (i := 40) (v := .bool true) rfl (by kernel_rfl) (by kernel_rfl) (by kernel_rfl) (fun _ _ _ h => h) (Or.inl ⟨by rfl, fun W hS => by clear hS hHeld; go_simp⟩) hHeld ?_
        try simp only [Act.put, List.setIfInBounds_toArray, List.set_cons_zero, List.set_cons_succ, List.getElem_toArray, List.getElem_cons_zero, List.getElem_cons_succ]
        refine wpAnyH_done (by kernel_rfl) ?_ _
        go_wp2
        go_ret
        exact ⟨rfl, Below.step HW.out hHeld⟩
    try simp only [Act.put, List.setIfInBounds_toArray, List.set_cons_zero, List.set_cons_succ, List.getElem_toArray, List.getElem_cons_zero, List.getElem_cons_succ] at htail
    refine wpAnyH_ready (rs := [6, 7, 8]) (by kernel_rfl) (by simp) ?_
    refine AllReadyH.cons rfl (fun K hK => ?_) ?_
    · have hle6 := Below.size hHeld
      try simp only [Act.put, List.setIfInBounds_toArray, List.set_cons_zero, List.set_cons_succ, List.getElem_toArray, List.getElem_cons_zero, List.getElem_cons_succ]
      go_simp
      refine hK.out _ _ (Below.alloc hHeld (Below.size hHeld) _) (fun hHeld2 => ?_)
      clear hK K hHeld
      have hHeld := hHeld2
      clear hHeld2
      try simp only [Act.put, List.setIfInBounds_toArray, List.set_cons_zero, List.set_cons_succ, List.getElem_toArray, List.getElem_cons_zero, List.getElem_cons_succ]
      have HN6 := hide (Blk.new V0 34 #[.int .u64 0, .int .u64 0])
      generalize V0.alloc (.cells #[.int .u64 0, .int .u64 0] 34) = V1 at *
      generalize V0.heap.size = ga7 at *
      refine wpAnyH_ready (rs := [7, 8]) (by kernel_rfl) (by simp) ?_
      refine AllReadyH.cons rfl (fun K hK => ?_) ?_
      · have hle7 := Below.size hHeld
        try simp only [Act.put, List.setIfInBounds_toArray, List.set_cons_zero, List.set_cons_succ, List.getElem_toArray, List.getElem_cons_zero, List.getElem_cons_succ]
        go_simp
        refine hK.out _ _ (Below.alloc hHeld (Below.size hHeld) _) (fun hHeld2 => ?_)
        clear hK K hHeld
        have hHeld := hHeld2
        clear hHeld2
        try simp only [Act.put, List.setIfInBounds_toArray, List.set_cons_zero, List.set_cons_succ, List.getElem_toArray, List.getElem_cons_zero, List.getElem_cons_succ]
        have HN7 := hide (Blk.new V1 34 #[.int .u64 0, .int .u64 0])
        have ne7_6 : V1.heap.size ≠ ga7 := Nat.ne_of_gt HN6.out.lt
        have ne6_7 := Ne.symm ne7_6
        replace HN6 := hide (HN6.out.alloc (.cells #[.int .u64 0, .int .u64 0] 34))
        generalize V1.alloc (.cells #[.int .u64 0, .int .u64 0] 34) = V2 at *
        generalize V1.heap.size = ga8 at *
        refine wpAnyH_ready (rs := [8]) (by kernel_rfl) (by simp) ?_
        refine AllReadyH.cons rfl (fun K hK => ?_) AllReadyH.nil
        have hle8 := Below.size hHeld
        try simp only [Act.put, List.setIfInBounds_toArray, List.set_cons_zero, List.set_cons_succ, List.getElem_toArray, List.getElem_cons_zero, List.getElem_cons_succ]
        go_simp
        refine hK.out _ _ (Below.alloc hHeld (Below.size hHeld) _) (fun hHeld2 => ?_)
        clear hK K hHeld
        have hHeld := hHeld2
        clear hHeld2
        try simp only [Act.put, List.setIfInBounds_toArray, List.set_cons_zero, List.set_cons_succ, List.getElem_toArray, List.getElem_cons_zero, List.getElem_cons_succ]
        have HN8 := hide (Blk.new V2 34 #[.int .u64 0, .int .u64 0])
        have ne8_6 : V2.heap.size ≠ ga7 := Nat.ne_of_gt HN6.out.lt
        have ne6_8 := Ne.symm ne8_6
        have ne8_7 : V2.heap.size ≠ ga8 := Nat.ne_of_gt HN7.out.lt
        have ne7_8 := Ne.symm ne8_7
        replace HN6 := hide (HN6.out.alloc (.cells #[.int .u64 0, .int .u64 0] 34))
        replace HN7 := hide (HN7.out.alloc (.cells #[.int .u64 0, .int .u64 0] 34))
        generalize V2.alloc (.cells #[.int .u64 0, .int .u64 0] 34) = V3 at *
        generalize V2.heap.size = ga9 at *
        refine wpAnyH_ready (rs := [9]) (by kernel_rfl) (by simp) ?_
        refine AllReadyH.cons rfl (fun K hK => ?_) AllReadyH.nil
        have y0 : V3.cell? ⟨ga7, 0, none⟩ = some (.int .u64 0) := HN6.out.cell 0
        have y1 : V3.cell? ⟨ga7, 1, none⟩ = some (.int .u64 0) := HN6.out.cell 1
        have f0 := HN6.out.frozen 0
        have f1 := HN6.out.frozen 1
        try simp only [Act.put, List.setIfInBounds_toArray, List.set_cons_zero, List.set_cons_succ, List.getElem_toArray, List.getElem_cons_zero, List.getElem_cons_succ]
        go_simp
        clear y0 y1 f0 f1
        refine hK.out _ _ ((Below.setCell hHeld (p := ⟨ga7, 0, none⟩) hle6 _).setCell (p := ⟨ga7, 1, none⟩) hle6 _) (fun hHeld2 => ?_)
        clear hK K hHeld
        have hHeld := hHeld2
        clear hHeld2
        try simp only [Act.put, List.setIfInBounds_toArray, List.set_cons_zero, List.set_cons_succ, List.getElem_toArray, List.getElem_cons_zero, List.getElem_cons_succ]
        replace HN6 := hide ((HN6.out.set_ 0 (.int .u64 a1)).set_ 1 (.int .u64 a2))
        replace HN7 := hide ((HN7.out.far (p := ⟨ga7, 0, none⟩) ne7_6 (.int .u64 a1)).far (p := ⟨ga7, 1, none⟩) ne7_6 (.int .u64 a2))
        replace HN8 := hide ((HN8.out.far (p := ⟨ga7, 0, none⟩) ne8_6 (.int .u64 a1)).far (p := ⟨ga7, 1, none⟩) ne8_6 (.int .u64 a2))
        generalize (V3.setCell ⟨ga7, 0, none⟩ (.int .u64 a1)).setCell ⟨ga7, 1, none⟩ (.int .u64 a2) = V4 at *
        refine wpAnyH_ready (rs := [10]) (by kernel_rfl) (by simp) ?_
        refine AllReadyH.cons rfl (fun K hK => ?_) AllReadyH.nil
        have y0 : V4.cell? ⟨ga8, 0, none⟩ = some (.int .u64 0) := HN7.out.cell 0
        have y1 : V4.cell? ⟨ga8, 1, none⟩ = some (.int .u64 0) := HN7.out.cell 1
        have f0 := HN7.out.frozen 0
        have f1 := HN7.out.frozen 1
        try simp only [Act.put, List.setIfInBounds_toArray, List.set_cons_zero, List.set_cons_succ, List.getElem_toArray, List.getElem_cons_zero, List.getElem_cons_succ]
        go_simp
        clear y0 y1 f0 f1
        refine hK.out _ _ ((Below.setCell hHeld (p := ⟨ga8, 0, none⟩) hle7 _).setCell (p := ⟨ga8, 1, none⟩) hle7 _) (fun hHeld2 => ?_)
        clear hK K hHeld
        have hHeld := hHeld2
        clear hHeld2
        try simp only [Act.put, List.setIfInBounds_toArray, List.set_cons_zero, List.set_cons_succ, List.getElem_toArray, List.getElem_cons_zero, List.getElem_cons_succ]
        replace HN7 := hide ((HN7.out.set_ 0 (.int .u64 b1)).set_ 1 (.int .u64 b2))
        replace HN6 := hide ((HN6.out.far (p := ⟨ga8, 0, none⟩) ne6_7 (.int .u64 b1)).far (p := ⟨ga8, 1, none⟩) ne6_7 (.int .u64 b2))
        replace HN8 := hide ((HN8.out.far (p := ⟨ga8, 0, none⟩) ne8_7 (.int .u64 b1)).far (p := ⟨ga8, 1, none⟩) ne8_7 (.int .u64 b2))
        generalize (V4.setCell ⟨ga8, 0, none⟩ (.int .u64 b1)).setCell ⟨ga8, 1, none⟩ (.int .u64 b2) = V5 at *
        refine wpAnyH_ready (rs := [11]) (by kernel_rfl) (by simp) ?_
        refine AllReadyH.cons rfl (fun K hK => ?_) AllReadyH.nil
        have y0 : V5.cell? ⟨ga9, 0, none⟩ = some (.int .u64 0) := HN8.out.cell 0
        have y1 : V5.cell? ⟨ga9, 1, none⟩ = some (.int .u64 0) := HN8.out.cell 1
        have f0 := HN8.out.frozen 0
        have f1 := HN8.out.frozen 1
        try simp only [Act.put, List.setIfInBounds_toArray, List.set_cons_zero, List.set_cons_succ, List.getElem_toArray, List.getElem_cons_zero, List.getElem_cons_succ]
        go_simp
        clear y0 y1 f0 f1
        refine hK.out _ _ ((Below.setCell hHeld (p := ⟨ga9, 0, none⟩) hle8 _).setCell (p := ⟨ga9, 1, none⟩) hle8 _) (fun hHeld2 => ?_)
        clear hK K hHeld
        have hHeld := hHeld2
        clear hHeld2
        try simp only [Act.put, List.setIfInBounds_toArray, List.set_cons_zero, List.set_cons_succ, List.getElem_toArray, List.getElem_cons_zero, List.getElem_cons_succ]
        replace HN8 := hide ((HN8.out.set_ 0 (.int .u64 c1)).set_ 1 (.int .u64 c2))
        replace HN6 := hide ((HN6.out.far (p := ⟨ga9, 0, none⟩) ne6_8 (.int .u64 c1)).far (p := ⟨ga9, 1, none⟩) ne6_8 (.int .u64 c2))
        replace HN7 := hide ((HN7.out.far (p := ⟨ga9, 0, none⟩) ne7_8 (.int .u64 c1)).far (p := ⟨ga9, 1, none⟩) ne7_8 (.int .u64 c2))
        generalize (V5.setCell ⟨ga9, 0, none⟩ (.int .u64 c1)).setCell ⟨ga9, 1, none⟩ (.int .u64 c2) = V6 at *
        exact wpAnyH_listed (by kernel_rfl) (htail (_, _, _) _ hHeld ⟨ga7, ga8, ga9, rfl, HN6, HN7, HN8⟩)
      refine AllReadyH.cons rfl (fun K hK => ?_) AllReadyH.nil
      have hle8 := Below.size hHeld
      try simp only [Act.put, List.setIfInBounds_toArray, List.set_cons_zero, List.set_cons_succ, List.getElem_toArray, List.getElem_cons_zero, List.getElem_cons_succ]
      go_simp
      refine hK.out _ _ (Below.alloc hHeld (Below.size hHeld) _) (fun hHeld2 => ?_)
      clear hK K hHeld
      have hHeld := hHeld2
      clear hHeld2
      try simp only [Act.put, List.setIfInBounds_toArray, List.set_cons_zero, List.set_cons_succ, List.getElem_toArray, List.getElem_cons_zero, List.getElem_cons_succ]
      have HN8 := hide (Blk.new V1 34 #[.int .u64 0, .int .u64 0])
      have ne8_6 : V1.heap.size ≠ ga7 := Nat.ne_of_gt HN6.out.lt
      have ne6_8 := Ne.symm ne8_6
      replace HN6 := hide (HN6.out.alloc (.cells #[.int .u64 0, .int .u64 0] 34))
      generalize V1.alloc (.cells #[.int .u64 0, .int .u64 0] 34) = V2 at *
      generalize V1.heap.size = ga9 at *
      refine wpAnyH_ready (rs := [7]) (by kernel_rfl) (by simp) ?_
      refine AllReadyH.cons rfl (fun K hK => ?_) AllReadyH.nil
      have hle7 := Below.size hHeld
      try simp only [Act.put, List.setIfInBounds_toArray, List.set_cons_zero, List.set_cons_succ, List.getElem_toArray, List.getElem_cons_zero, List.getElem_cons_succ]
      go_simp
      refine hK.out _ _ (Below.alloc hHeld (Below.size hHeld) _) (fun hHeld2 => ?_)
      clear hK K hHeld
      have hHeld := hHeld2
      clear hHeld2
      try simp only [Act.put, List.setIfInBounds_toArray, List.set_cons_zero, List.set_cons_succ, List.getElem_toArray, List.getElem_cons_zero, List.getElem_cons_succ]
      have HN7 := hide (Blk.new V2 34 #[.int .u64 0, .int .u64 0])
      have ne7_6 : V2.heap.size ≠ ga7 := Nat.ne_of_gt HN6.out.lt
      have ne6_7 := Ne.symm ne7_6
      have ne7_8 : V2.heap.size ≠ ga9 := Nat.ne_of_gt HN8.out.lt
      have ne8_7 := Ne.symm ne7_8
      replace HN6 := hide (HN6.out.alloc (.cells #[.int .u64 0, .int .u64 0] 34))
      replace HN8 := hide (HN8.out.alloc (.cells #[.int .u64 0, .int .u64 0] 34))
      generalize V2.alloc (.cells #[.int .u64 0, .int .u64 0] 34) = V3 at *
      generalize V2.heap.size = ga8 at *
      refine wpAnyH_ready (rs := [9]) (by kernel_rfl) (by simp) ?_
      refine AllReadyH.cons rfl (fun K hK => ?_) AllReadyH.nil
      have y0 : V3.cell? ⟨ga7, 0, none⟩ = some (.int .u64 0) := HN6.out.cell 0
      have y1 : V3.cell? ⟨ga7, 1, none⟩ = some (.int .u64 0) := HN6.out.cell 1
      have f0 := HN6.out.frozen 0
      have f1 := HN6.out.frozen 1
      try simp only [Act.put, List.setIfInBounds_toArray, List.set_cons_zero, List.set_cons_succ, List.getElem_toArray, List.getElem_cons_zero, List.getElem_cons_succ]
      go_simp
      clear y0 y1 f0 f1
      refine hK.out _ _ ((Below.setCell hHeld (p := ⟨ga7, 0, none⟩) hle6 _).setCell (p := ⟨ga7, 1, none⟩) hle6 _) (fun hHeld2 => ?_)
      clear hK K hHeld
      have hHeld := hHeld2
      clear hHeld2
      try simp only [Act.put, List.setIfInBounds_toArray, List.set_cons_zero, List.set_cons_succ, List.getElem_toArray, List.getElem_cons_zero, List.getElem_cons_succ]
      replace HN6 := hide ((HN6.out.set_ 0 (.int .u64 a1)).set_ 1 (.int .u64 a2))
      replace HN8 := hide ((HN8.out.far (p := ⟨ga7, 0, none⟩) ne8_6 (.int .u64 a1)).far (p := ⟨ga7, 1, none⟩) ne8_6 (.int .u64 a2))
      replace HN7 := hide ((HN7.out.far (p := ⟨ga7, 0, none⟩) ne7_6 (.int .u64 a1)).far (p := ⟨ga7, 1, none⟩) ne7_6 (.int .u64 a2))
      generalize (V3.setCell ⟨ga7, 0, none⟩ (.int .u64 a1)).setCell ⟨ga7, 1, none⟩ (.int .u64 a2) = V4 at *
      refine wpAnyH_ready (rs := [10]) (by kernel_rfl) (by simp) ?_
      refine AllReadyH.cons rfl (fun K hK => ?_) AllReadyH.nil
      have y0 : V4.cell? ⟨ga8, 0, none⟩ = some (.int .u64 0) := HN7.out.cell 0
      have y1 : V4.cell? ⟨ga8, 1, none⟩ = some (.int .u64 0) := HN7.out.cell 1
      have f0 := HN7.out.frozen 0
      have f1 := HN7.out.frozen 1
      try simp only [Act.put, List.setIfInBounds_toArray, List.set_cons_zero, List.set_cons_succ, List.getElem_toArray, List.getElem_cons_zero, List.getElem_cons_succ]
      go_simp
      clear y0 y1 f0 f1
      refine hK.out _ _ ((Below.setCell hHeld (p := ⟨ga8, 0, none⟩) hle7 _).setCell (p := ⟨ga8, 1, none⟩) hle7 _) (fun hHeld2 => ?_)
      clear hK K hHeld
      have hHeld := hHeld2
      clear hHeld2
      try simp only [Act.put, List.setIfInBounds_toArray, List.set_cons_zero, List.set_cons_succ, List.getElem_toArray, List.getElem_cons_zero, List.getElem_cons_succ]
      replace HN7 := hide ((HN7.out.set_ 0 (.int .u64 b1)).set_ 1 (.int .u64 b2))
      replace HN6 := hide ((HN6.out.far (p := ⟨ga8, 0, none⟩) ne6_7 (.int .u64 b1)).far (p := ⟨ga8, 1, none⟩) ne6_7 (.int .u64 b2))
      replace HN8 := hide ((HN8.out.far (p := ⟨ga8, 0, none⟩) ne8_7 (.int .u64 b1)).far (p := ⟨ga8, 1, none⟩) ne8_7 (.int .u64 b2))
      generalize (V4.setCell ⟨ga8, 0, none⟩ (.int .u64 b1)).setCell ⟨ga8, 1, none⟩ (.int .u64 b2) = V5 at *
      refine wpAnyH_ready (rs := [11]) (by kernel_rfl) (by simp) ?_
      refine AllReadyH.cons rfl (fun K hK => ?_) AllReadyH.nil
      have y0 : V5.cell? ⟨ga9, 0, none⟩ = some (.int .u64 0) := HN8.out.cell 0
      have y1 : V5.cell? ⟨ga9, 1, none⟩ = some (.int .u64 0) := HN8.out.cell 1
      have f0 := HN8.out.frozen 0
      have f1 := HN8.out.frozen 1
      try simp only [Act.put, List.setIfInBounds_toArray, List.set_cons_zero, List.set_cons_succ, List.getElem_toArray, List.getElem_cons_zero, List.getElem_cons_succ]
      go_simp
      clear y0 y1 f0 f1
      refine hK.out _ _ ((Below.setCell hHeld (p := ⟨ga9, 0, none⟩) hle8 _).setCell (p := ⟨ga9, 1, none⟩) hle8 _) (fun hHeld2 => ?_)
      clear hK K hHeld
      have hHeld := hHeld2
      clear hHeld2
      try simp only [Act.put, List.setIfInBounds_toArray, List.set_cons_zero, List.set_cons_succ, List.getElem_toArray, List.getElem_cons_zero, List.getElem_cons_succ]
      replace HN8 := hide ((HN8.out.set_ 0 (.int .u64 c1)).set_ 1 (.int .u64 c2))
      replace HN6 := hide ((HN6.out.far (p := ⟨ga9, 0, none⟩) ne6_8 (.int .u64 c1)).far (p := ⟨ga9, 1, none⟩) ne6_8 (.int .u64 c2))
      replace HN7 := hide ((HN7.out.far (p := ⟨ga9, 0, none⟩) ne7_8 (.int .u64 c1)).far (p := ⟨ga9, 1, none⟩) ne7_8 (.int .u64 c2))
      generalize (V5.setCell ⟨ga9, 0, none⟩ (.int .u64 c1)).setCell ⟨ga9, 1, none⟩ (.int .u64 c2) = V6 at *
      exact wpAnyH_listed (by kernel_rfl) (htail (_, _, _) _ hHeld ⟨ga7, ga8, ga9, rfl, HN6, HN7, HN8⟩)
    refine AllReadyH.cons rfl (fun K hK => ?_) ?_
    · have hle7 := Below.size hHeld
      try simp only [Act.put, List.setIfInBounds_toArray, List.set_cons_zero, List.set_cons_succ, List.getElem_toArray, List.getElem_cons_zero, List.getElem_cons_succ]
      go_simp
      refine hK.out _ _ (Below.alloc hHeld (Below.size hHeld) _) (fun hHeld2 => ?_)
      clear hK K hHeld
      have hHeld := hHeld2
      clear hHeld2
      try simp only [Act.put, List.setIfInBounds_toArray, List.set_cons_zero, List.set_cons_succ, List.getElem_toArray, List.getElem_cons_zero, List.getElem_cons_succ]
      have HN7 := hide (Blk.new V0 34 #[.int .u64 0, .int .u64 0])
      generalize V0.alloc (.cells #[.int .u64 0, .int .u64 0] 34) = V1 at *
      generalize V0.heap.size = ga8 at *
      refine wpAnyH_ready (rs := [6, 8]) (by kernel_rfl) (by simp) ?_
      refine AllReadyH.cons rfl (fun K hK => ?_) ?_
      · have hle6 := Below.size hHeld
        try simp only [Act.put, List.setIfInBounds_toArray, List.set_cons_zero, List.set_cons_succ, List.getElem_toArray, List.getElem_cons_zero, List.getElem_cons_succ]
        go_simp
        refine hK.out _ _ (Below.alloc hHeld (Below.size hHeld) _) (fun hHeld2 => ?_)
        clear hK K hHeld
        have hHeld := hHeld2
        clear hHeld2
        try simp only [Act.put, List.setIfInBounds_toArray, List.set_cons_zero, List.set_cons_succ, List.getElem_toArray, List.getElem_cons_zero, List.getElem_cons_succ]
        have HN6 := hide (Blk.new V1 34 #[.int .u64 0, .int .u64 0])
        have ne6_7 : V1.heap.size ≠ ga8 := Nat.ne_of_gt HN7.out.lt
        have ne7_6 := Ne.symm ne6_7
        replace HN7 := hide (HN7.out.alloc (.cells #[.int .u64 0, .int .u64 0] 34))
        generalize V1.alloc (.cells #[.int .u64 0, .int .u64 0] 34) = V2 at *
        generalize V1.heap.size = ga7 at *
        refine wpAnyH_ready (rs := [8]) (by kernel_rfl) (by simp) ?_
        refine AllReadyH.cons rfl (fun K hK => ?_) AllReadyH.nil
        have hle8 := Below.size hHeld
        try simp only [Act.put, List.setIfInBounds_toArray, List.set_cons_zero, List.set_cons_succ, List.getElem_toArray, List.getElem_cons_zero, List.getElem_cons_succ]
        go_simp
        refine hK.out _ _ (Below.alloc hHeld (Below.size hHeld) _) (fun hHeld2 => ?_)
        clear hK K hHeld
        have hHeld := hHeld2
        clear hHeld2
        try simp only [Act.put, List.setIfInBounds_toArray, List.set_cons_zero, List.set_cons_succ, List.getElem_toArray, List.getElem_cons_zero, List.getElem_cons_succ]
        have HN8 := hide (Blk.new V2 34 #[.int .u64 0, .int .u64 0])
        have ne8_7 : V2.heap.size ≠ ga8 := Nat.ne_of_gt HN7.out.lt
        have ne7_8 := Ne.symm ne8_7
        have ne8_6 : V2.heap.size ≠ ga7 := Nat.ne_of_gt HN6.out.lt
        have ne6_8 := Ne.symm ne8_6
        replace HN7 := hide (HN7.out.alloc (.cells #[.int .u64 0, .int .u64 0] 34))
        replace HN6 := hide (HN6.out.alloc (.cells #[.int .u64 0, .int .u64 0] 34))
        generalize V2.alloc (.cells #[.int .u64 0, .int .u64 0] 34) = V3 at *
        generalize V2.heap.size = ga9 at *
        refine wpAnyH_ready (rs := [9]) (by kernel_rfl) (by simp) ?_
        refine AllReadyH.cons rfl (fun K hK => ?_) AllReadyH.nil
        have y0 : V3.cell? ⟨ga7, 0, none⟩ = some (.int .u64 0) := HN6.out.cell 0
        have y1 : V3.cell? ⟨ga7, 1, none⟩ = some (.int .u64 0) := HN6.out.cell 1
        have f0 := HN6.out.frozen 0
        have f1 := HN6.out.frozen 1
        try simp only [Act.put, List.setIfInBounds_toArray, List.set_cons_zero, List.set_cons_succ, List.getElem_toArray, List.getElem_cons_zero, List.getElem_cons_succ]
        go_simp
        clear y0 y1 f0 f1
        refine hK.out _ _ ((Below.setCell hHeld (p := ⟨ga7, 0, none⟩) hle6 _).setCell (p := ⟨ga7, 1, none⟩) hle6 _) (fun hHeld2 => ?_)
        clear hK K hHeld
        have hHeld := hHeld2
        clear hHeld2
        try simp only [Act.put, List.setIfInBounds_toArray, List.set_cons_zero, List.set_cons_succ, List.getElem_toArray, List.getElem_cons_zero, List.getElem_cons_succ]
        replace HN6 := hide ((HN6.out.set_ 0 (.int .u64 a1)).set_ 1 (.int .u64 a2))
        replace HN7 := hide ((HN7.out.far (p := ⟨ga7, 0, none⟩) ne7_6 (.int .u64 a1)).far (p := ⟨ga7, 1, none⟩) ne7_6 (.int .u64 a2))
        replace HN8 := hide ((HN8.out.far (p := ⟨ga7, 0, none⟩) ne8_6 (.int .u64 a1)).far (p := ⟨ga7, 1, none⟩) ne8_6 (.int .u64 a2))
        generalize (V3.setCell ⟨ga7, 0, none⟩ (.int .u64 a1)).setCell ⟨ga7, 1, none⟩ (.int .u64 a2) = V4 at *
        refine wpAnyH_ready (rs := [10]) (by kernel_rfl) (by simp) ?_
        refine AllReadyH.cons rfl (fun K hK => ?_) AllReadyH.nil
        have y0 : V4.cell? ⟨ga8, 0, none⟩ = some (.int .u64 0) := HN7.out.cell 0
        have y1 : V4.cell? ⟨ga8, 1, none⟩ = some (.int .u64 0) := HN7.out.cell 1
        have f0 := HN7.out.frozen 0
        have f1 := HN7.out.frozen 1
        try simp only [Act.put, List.setIfInBounds_toArray, List.set_cons_zero, List.set_cons_succ, List.getElem_toArray, List.getElem_cons_zero, List.getElem_cons_succ]
        go_simp
        clear y0 y1 f0 f1
        refine hK.out _ _ ((Below.setCell hHeld (p := ⟨ga8, 0, none⟩) hle7 _).setCell (p := ⟨ga8, 1, none⟩) hle7 _) (fun hHeld2 => ?_)
        clear hK K hHeld
        have hHeld := hHeld2
        clear hHeld2
        try simp only [Act.put, List.setIfInBounds_toArray, List.set_cons_zero, List.set_cons_succ, List.getElem_toArray, List.getElem_cons_zero, List.getElem_cons_succ]
        replace HN7 := hide ((HN7.out.set_ 0 (.int .u64 b1)).set_ 1 (.int .u64 b2))
        replace HN6 := hide ((HN6.out.far (p := ⟨ga8, 0, none⟩) ne6_7 (.int .u64 b1)).far (p := ⟨ga8, 1, none⟩) ne6_7 (.int .u64 b2))
        replace HN8 := hide ((HN8.out.far (p := ⟨ga8, 0, none⟩) ne8_7 (.int .u64 b1)).far (p := ⟨ga8, 1, none⟩) ne8_7 (.int .u64 b2))
        generalize (V4.setCell ⟨ga8, 0, none⟩ (.int .u64 b1)).setCell ⟨ga8, 1, none⟩ (.int .u64 b2) = V5 at *
        refine wpAnyH_ready (rs := [11]) (by kernel_rfl) (by simp) ?_
        refine AllReadyH.cons rfl (fun K hK => ?_) AllReadyH.nil
        have y0 : V5.cell? ⟨ga9, 0, none⟩ = some (.int .u64 0) := HN8.out.cell 0
        have y1 : V5.cell? ⟨ga9, 1, none⟩ = some (.int .u64 0) := HN8.out.cell 1
        have f0 := HN8.out.frozen 0
        have f1 := HN8.out.frozen 1
        try simp only [Act.put, List.setIfInBounds_toArray, List.set_cons_zero, List.set_cons_succ, List.getElem_toArray, List.getElem_cons_zero, List.getElem_cons_succ]
        go_simp
        clear y0 y1 f0 f1
        refine hK.out _ _ ((Below.setCell hHeld (p := ⟨ga9, 0, none⟩) hle8 _).setCell (p := ⟨ga9, 1, none⟩) hle8 _) (fun hHeld2 => ?_)
        clear hK K hHeld
        have hHeld := hHeld2
        clear hHeld2
        try simp only [Act.put, List.setIfInBounds_toArray, List.set_cons_zero, List.set_cons_succ, List.getElem_toArray, List.getElem_cons_zero, List.getElem_cons_succ]
        replace HN8 := hide ((HN8.out.set_ 0 (.int .u64 c1)).set_ 1 (.int .u64 c2))
        replace HN7 := hide ((HN7.out.far (p := ⟨ga9, 0, none⟩) ne7_8 (.int .u64 c1)).far (p := ⟨ga9, 1, none⟩) ne7_8 (.int .u64 c2))
        replace HN6 := hide ((HN6.out.far (p := ⟨ga9, 0, none⟩) ne6_8 (.int .u64 c1)).far (p := ⟨ga9, 1, none⟩) ne6_8 (.int .u64 c2))
        generalize (V5.setCell ⟨ga9, 0, none⟩ (.int .u64 c1)).setCell ⟨ga9, 1, none⟩ (.int .u64 c2) = V6 at *
        exact wpAnyH_listed (by kernel_rfl) (htail (_, _, _) _ hHeld ⟨ga7, ga8, ga9, rfl, HN6, HN7, HN8⟩)
      refine AllReadyH.cons rfl (fun K hK => ?_) AllReadyH.nil
      have hle8 := Below.size hHeld
      try simp only [Act.put, List.setIfInBounds_toArray, List.set_cons_zero, List.set_cons_succ, List.getElem_toArray, List.getElem_cons_zero, List.getElem_cons_succ]
      go_simp
      refine hK.out _ _ (Below.alloc hHeld (Below.size hHeld) _) (fun hHeld2 => ?_)
      clear hK K hHeld
      have hHeld := hHeld2
      clear hHeld2
      try simp only [Act.put, List.setIfInBounds_toArray, List.set_cons_zero, List.set_cons_succ, List.getElem_toArray, List.getElem_cons_zero, List.getElem_cons_succ]
      have HN8 := hide (Blk.new V1 34 #[.int .u64 0, .int .u64 0])
      have ne8_7 : V1.heap.size ≠ ga8 := Nat.ne_of_gt HN7.out.lt
      have ne7_8 := Ne.symm ne8_7
      replace HN7 := hide (HN7.out.alloc (.cells #[.int .u64 0, .int .u64 0] 34))
      generalize V1.alloc (.cells #[.int .u64 0, .int .u64 0] 34) = V2 at *
      generalize V1.heap.size = ga9 at *
      refine wpAnyH_ready (rs := [6]) (by kernel_rfl) (by simp) ?_
      refine AllReadyH.cons rfl (fun K hK => ?_) AllReadyH.nil
      have hle6 := Below.size hHeld
      try simp only [Act.put, List.setIfInBounds_toArray, List.set_cons_zero, List.set_cons_succ, List.getElem_toArray, List.getElem_cons_zero, List.getElem_cons_succ]
      go_simp
      refine hK.out _ _ (Below.alloc hHeld (Below.size hHeld) _) (fun hHeld2 => ?_)
      clear hK K hHeld
      have hHeld := hHeld2
      clear hHeld2
      try simp only [Act.put, List.setIfInBounds_toArray, List.set_cons_zero, List.set_cons_succ, List.getElem_toArray, List.getElem_cons_zero, List.getElem_cons_succ]
      have HN6 := hide (Blk.new V2 34 #[.int .u64 0, .int .u64 0])
      have ne6_7 : V2.heap.size ≠ ga8 := Nat.ne_of_gt HN7.out.lt
      have ne7_6 := Ne.symm ne6_7
      have ne6_8 : V2.heap.size ≠ ga9 := Nat.ne_of_gt HN8.out.lt
      have ne8_6 := Ne.symm ne6_8
      replace HN7 := hide (HN7.out.alloc (.cells #[.int .u64 0, .int .u64 0] 34))
      replace HN8 := hide (HN8.out.alloc (.cells #[.int .u64 0, .int .u64 0] 34))
      generalize V2.alloc (.cells #[.int .u64 0, .int .u64 0] 34) = V3 at *
      generalize V2.heap.size = ga7 at *
      refine wpAnyH_ready (rs := [9]) (by kernel_rfl) (by simp) ?_
      refine AllReadyH.cons rfl (fun K hK => ?_) AllReadyH.nil
      have y0 : V3.cell? ⟨ga7, 0, none⟩ = some (.int .u64 0) := HN6.out.cell 0
      have y1 : V3.cell? ⟨ga7, 1, none⟩ = some (.int .u64 0) := HN6.out.cell 1
      have f0 := HN6.out.frozen 0
      have f1 := HN6.out.frozen 1
      try simp only [Act.put, List.setIfInBounds_toArray, List.set_cons_zero, List.set_cons_succ, List.getElem_toArray, List.getElem_cons_zero, List.getElem_cons_succ]
      go_simp
      clear y0 y1 f0 f1
      refine hK.out _ _ ((Below.setCell hHeld (p := ⟨ga7, 0, none⟩) hle6 _).setCell (p := ⟨ga7, 1, none⟩) hle6 _) (fun hHeld2 => ?_)
      clear hK K hHeld
      have hHeld := hHeld2
      clear hHeld2
      try simp only [Act.put, List.setIfInBounds_toArray, List.set_cons_zero, List.set_cons_succ, List.getElem_toArray, List.getElem_cons_zero, List.getElem_cons_succ]
      replace HN6 := hide ((HN6.out.set_ 0 (.int .u64 a1)).set_ 1 (.int .u64 a2))
      replace HN7 := hide ((HN7.out.far (p := ⟨ga7, 0, none⟩) ne7_6 (.int .u64 a1)).far (p := ⟨ga7, 1, none⟩) ne7_6 (.int .u64 a2))
      replace HN8 := hide ((HN8.out.far (p := ⟨ga7, 0, none⟩) ne8_6 (.int .u64 a1)).far (p := ⟨ga7, 1, none⟩) ne8_6 (.int .u64 a2))
      generalize (V3.setCell ⟨ga7, 0, none⟩ (.int .u64 a1)).setCell ⟨ga7, 1, none⟩ (.int .u64 a2) = V4 at *
      refine wpAnyH_ready (rs := [10]) (by kernel_rfl) (by simp) ?_
      refine AllReadyH.cons rfl (fun K hK => ?_) AllReadyH.nil
      have y0 : V4.cell? ⟨ga8, 0, none⟩ = some (.int .u64 0) := HN7.out.cell 0
      have y1 : V4.cell? ⟨ga8, 1, none⟩ = some (.int .u64 0) := HN7.out.cell 1
      have f0 := HN7.out.frozen 0
      have f1 := HN7.out.frozen 1
      try simp only [Act.put, List.setIfInBounds_toArray, List.set_cons_zero, List.set_cons_succ, List.getElem_toArray, List.getElem_cons_zero, List.getElem_cons_succ]
      go_simp
      clear y0 y1 f0 f1
      refine hK.out _ _ ((Below.setCell hHeld (p := ⟨ga8, 0, none⟩) hle7 _).setCell (p := ⟨ga8, 1, none⟩) hle7 _) (fun hHeld2 => ?_)
      clear hK K hHeld
      have hHeld := hHeld2
      clear hHeld2
      try simp only [Act.put, List.setIfInBounds_toArray, List.set_cons_zero, List.set_cons_succ, List.getElem_toArray, List.getElem_cons_zero, List.getElem_cons_succ]
      replace HN7 := hide ((HN7.out.set_ 0 (.int .u64 b1)).set_ 1 (.int .u64 b2))
      replace HN8 := hide ((HN8.out.far (p := ⟨ga8, 0, none⟩) ne8_7 (.int .u64 b1)).far (p := ⟨ga8, 1, none⟩) ne8_7 (.int .u64 b2))
      replace HN6 := hide ((HN6.out.far (p := ⟨ga8, 0, none⟩) ne6_7 (.int .u64 b1)).far (p := ⟨ga8, 1, none⟩) ne6_7 (.int .u64 b2))
      generalize (V4.setCell ⟨ga8, 0, none⟩ (.int .u64 b1)).setCell ⟨ga8, 1, none⟩ (.int .u64 b2) = V5 at *
      refine wpAnyH_ready (rs := [11]) (by kernel_rfl) (by simp) ?_
      refine AllReadyH.cons rfl (fun K hK => ?_) AllReadyH.nil
      have y0 : V5.cell? ⟨ga9, 0, none⟩ = some (.int .u64 0) := HN8.out.cell 0
      have y1 : V5.cell? ⟨ga9, 1, none⟩ = some (.int .u64 0) := HN8.out.cell 1
      have f0 := HN8.out.frozen 0
      have f1 := HN8.out.frozen 1
      try simp only [Act.put, List.setIfInBounds_toArray, List.set_cons_zero, List.set_cons_succ, List.getElem_toArray, List.getElem_cons_zero, List.getElem_cons_succ]
      go_simp
      clear y0 y1 f0 f1
      refine hK.out _ _ ((Below.setCell hHeld (p := ⟨ga9, 0, none⟩) hle8 _).setCell (p := ⟨ga9, 1, none⟩) hle8 _) (fun hHeld2 => ?_)
      clear hK K hHeld
      have hHeld := hHeld2
      clear hHeld2
      try simp only [Act.put, List.setIfInBounds_toArray, List.set_cons_zero, List.set_cons_succ, List.getElem_toArray, List.getElem_cons_zero, List.getElem_cons_succ]
      replace HN8 := hide ((HN8.out.set_ 0 (.int .u64 c1)).set_ 1 (.int .u64 c2))
      replace HN7 := hide ((HN7.out.far (p := ⟨ga9, 0, none⟩) ne7_8 (.int .u64 c1)).far (p := ⟨ga9, 1, none⟩) ne7_8 (.int .u64 c2))
      replace HN6 := hide ((HN6.out.far (p := ⟨ga9, 0, none⟩) ne6_8 (.int .u64 c1)).far (p := ⟨ga9, 1, none⟩) ne6_8 (.int .u64 c2))
      generalize (V5.setCell ⟨ga9, 0, none⟩ (.int .u64 c1)).setCell ⟨ga9, 1, none⟩ (.int .u64 c2) = V6 at *
      exact wpAnyH_listed (by kernel_rfl) (htail (_, _, _) _ hHeld ⟨ga7, ga8, ga9, rfl, HN6, HN7, HN8⟩)
    refine AllReadyH.cons rfl (fun K hK => ?_) AllReadyH.nil
    have hle8 := Below.size hHeld
    try simp only [Act.put, List.setIfInBounds_toArray, List.set_cons_zero, List.set_cons_succ, List.getElem_toArray, List.getElem_cons_zero, List.getElem_cons_succ]
    go_simp
    refine hK.out _ _ (Below.alloc hHeld (Below.size hHeld) _) (fun hHeld2 => ?_)
    clear hK K hHeld
    have hHeld := hHeld2
    clear hHeld2
    try simp only [Act.put, List.setIfInBounds_toArray, List.set_cons_zero, List.set_cons_succ, List.getElem_toArray, List.getElem_cons_zero, List.getElem_cons_succ]
    have HN8 := hide (Blk.new V0 34 #[.int .u64 0, .int .u64 0])
    generalize V0.alloc (.cells #[.int .u64 0, .int .u64 0] 34) = V1 at *
    generalize V0.heap.size = ga9 at *
    refine wpAnyH_ready (rs := [6, 7]) (by kernel_rfl) (by simp) ?_
    refine AllReadyH.cons rfl (fun K hK => ?_) ?_
    · have hle6 := Below.size hHeld
      try simp only [Act.put, List.setIfInBounds_toArray, List.set_cons_zero, List.set_cons_succ, List.getElem_toArray, List.getElem_cons_zero, List.getElem_cons_succ]
      go_simp
      refine hK.out _ _ (Below.alloc hHeld (Below.size hHeld) _) (fun hHeld2 => ?_)
      clear hK K hHeld
      have hHeld := hHeld2
      clear hHeld2
      try simp only [Act.put, List.setIfInBounds_toArray, List.set_cons_zero, List.set_cons_succ, List.getElem_toArray, List.getElem_cons_zero, List.getElem_cons_succ]
      have HN6 := hide (Blk.new V1 34 #[.int .u64 0, .int .u64 0])
      have ne6_8 : V1.heap.size ≠ ga9 := Nat.ne_of_gt HN8.out.lt
      have ne8_6 := Ne.symm ne6_8
      replace HN8 := hide (HN8.out.alloc (.cells #[.int .u64 0, .int .u64 0] 34))
      generalize V1.alloc (.cells #[.int .u64 0, .int .u64 0] 34) = V2 at *
      generalize V1.heap.size = ga7 at *
      refine wpAnyH_ready (rs := [7]) (by kernel_rfl) (by simp) ?_
      refine AllReadyH.cons rfl (fun K hK => ?_) AllReadyH.nil
      have hle7 := Below.size hHeld
      try simp only [Act.put, List.setIfInBounds_toArray, List.set_cons_zero, List.set_cons_succ, List.getElem_toArray, List.getElem_cons_zero, List.getElem_cons_succ]
      go_simp
      refine hK.out _ _ (Below.alloc hHeld (Below.size hHeld) _) (fun hHeld2 => ?_)
      clear hK K hHeld
      have hHeld := hHeld2
      clear hHeld2
      try simp only [Act.put, List.setIfInBounds_toArray, List.set_cons_zero, List.set_cons_succ, List.getElem_toArray, List.getElem_cons_zero, List.getElem_cons_succ]
      have HN7 := hide (Blk.new V2 34 #[.int .u64 0, .int .u64 0])
      have ne7_8 : V2.heap.size ≠ ga9 := Nat.ne_of_gt HN8.out.lt
      have ne8_7 := Ne.symm ne7_8
      have ne7_6 : V2.heap.size ≠ ga7 := Nat.ne_of_gt HN6.out.lt
      have ne6_7 := Ne.symm ne7_6
      replace HN8 := hide (HN8.out.alloc (.cells #[.int .u64 0, .int .u64 0] 34))
      replace HN6 := hide (HN6.out.alloc (.cells #[.int .u64 0, .int .u64 0] 34))
      generalize V2.alloc (.cells #[.int .u64 0, .int .u64 0] 34) = V3 at *
      generalize V2.heap.size = ga8 at *
      refine wpAnyH_ready (rs := [9]) (by kernel_rfl) (by simp) ?_
      refine AllReadyH.cons rfl (fun K hK => ?_) AllReadyH.nil
      have y0 : V3.cell? ⟨ga7, 0, none⟩ = some (.int .u64 0) := HN6.out.cell 0
      have y1 : V3.cell? ⟨ga7, 1, none⟩ = some (.int .u64 0) := HN6.out.cell 1
      have f0 := HN6.out.frozen 0
      have f1 := HN6.out.frozen 1
      try simp only [Act.put, List.setIfInBounds_toArray, List.set_cons_zero, List.set_cons_succ, List.getElem_toArray, List.getElem_cons_zero, List.getElem_cons_succ]
      go_simp
      clear y0 y1 f0 f1
      refine hK.out _ _ ((Below.setCell hHeld (p := ⟨ga7, 0, none⟩) hle6 _).setCell (p := ⟨ga7, 1, none⟩) hle6 _) (fun hHeld2 => ?_)
      clear hK K hHeld
      have hHeld := hHeld2
      clear hHeld2
      try simp only [Act.put, List.setIfInBounds_toArray, List.set_cons_zero, List.set_cons_succ, List.getElem_toArray, List.getElem_cons_zero, List.getElem_cons_succ]
      replace HN6 := hide ((HN6.out.set_ 0 (.int .u64 a1)).set_ 1 (.int .u64 a2))
      replace HN8 := hide ((HN8.out.far (p := ⟨ga7, 0, none⟩) ne8_6 (.int .u64 a1)).far (p := ⟨ga7, 1, none⟩) ne8_6 (.int .u64 a2))
      replace HN7 := hide ((HN7.out.far (p := ⟨ga7, 0, none⟩) ne7_6 (.int .u64 a1)).far (p := ⟨ga7, 1, none⟩) ne7_6 (.int .u64 a2))
      generalize (V3.setCell ⟨ga7, 0, none⟩ (.int .u64 a1)).setCell ⟨ga7, 1, none⟩ (.int .u64 a2) = V4 at *
      refine wpAnyH_ready (rs := [10]) (by kernel_rfl) (by simp) ?_
      refine AllReadyH.cons rfl (fun K hK => ?_) AllReadyH.nil
      have y0 : V4.cell? ⟨ga8, 0, none⟩ = some (.int .u64 0) := HN7.out.cell 0
      have y1 : V4.cell? ⟨ga8, 1, none⟩ = some (.int .u64 0) := HN7.out.cell 1
      have f0 := HN7.out.frozen 0
      have f1 := HN7.out.frozen 1
      try simp only [Act.put, List.setIfInBounds_toArray, List.set_cons_zero, List.set_cons_succ, List.getElem_toArray, List.getElem_cons_zero, List.getElem_cons_succ]
      go_simp
      clear y0 y1 f0 f1
      refine hK.out _ _ ((Below.setCell hHeld (p := ⟨ga8, 0, none⟩) hle7 _).setCell (p := ⟨ga8, 1, none⟩) hle7 _) (fun hHeld2 => ?_)
      clear hK K hHeld
      have hHeld := hHeld2
      clear hHeld2
      try simp only [Act.put, List.setIfInBounds_toArray, List.set_cons_zero, List.set_cons_succ, List.getElem_toArray, List.getElem_cons_zero, List.getElem_cons_succ]
      replace HN7 := hide ((HN7.out.set_ 0 (.int .u64 b1)).set_ 1 (.int .u64 b2))
      replace HN8 := hide ((HN8.out.far (p := ⟨ga8, 0, none⟩) ne8_7 (.int .u64 b1)).far (p := ⟨ga8, 1, none⟩) ne8_7 (.int .u64 b2))
      replace HN6 := hide ((HN6.out.far (p := ⟨ga8, 0, none⟩) ne6_7 (.int .u64 b1)).far (p := ⟨ga8, 1, none⟩) ne6_7 (.int .u64 b2))
      generalize (V4.setCell ⟨ga8, 0, none⟩ (.int .u64 b1)).setCell ⟨ga8, 1, none⟩ (.int .u64 b2) = V5 at *
      refine wpAnyH_ready (rs := [11]) (by kernel_rfl) (by simp) ?_
      refine AllReadyH.cons rfl (fun K hK => ?_) AllReadyH.nil
      have y0 : V5.cell? ⟨ga9, 0, none⟩ = some (.int .u64 0) := HN8.out.cell 0
      have y1 : V5.cell? ⟨ga9, 1, none⟩ = some (.int .u64 0) := HN8.out.cell 1
      have f0 := HN8.out.frozen 0
      have f1 := HN8.out.frozen 1
      try simp only [Act.put, List.setIfInBounds_toArray, List.set_cons_zero, List.set_cons_succ, List.getElem_toArray, List.getElem_cons_zero, List.getElem_cons_succ]
      go_simp
      clear y0 y1 f0 f1
      refine hK.out _ _ ((Below.setCell hHeld (p := ⟨ga9, 0, none⟩) hle8 _).setCell (p := ⟨ga9, 1, none⟩) hle8 _) (fun hHeld2 => ?_)
      clear hK K hHeld
      have hHeld := hHeld2
      clear hHeld2
      try simp only [Act.put, List.setIfInBounds_toArray, List.set_cons_zero, List.set_cons_succ, List.getElem_toArray, List.getElem_cons_zero, List.getElem_cons_succ]
      replace HN8 := hide ((HN8.out.set_ 0 (.int .u64 c1)).set_ 1 (.int .u64 c2))
      replace HN6 := hide ((HN6.out.far (p := ⟨ga9, 0, none⟩) ne6_8 (.int .u64 c1)).far (p := ⟨ga9, 1, none⟩) ne6_8 (.int .u64 c2))
      replace HN7 := hide ((HN7.out.far (p := ⟨ga9, 0, none⟩) ne7_8 (.int .u64 c1)).far (p := ⟨ga9, 1, none⟩) ne7_8 (.int .u64 c2))
      generalize (V5.setCell ⟨ga9, 0, none⟩ (.int .u64 c1)).setCell ⟨ga9, 1, none⟩ (.int .u64 c2) = V6 at *
      exact wpAnyH_listed (by kernel_rfl) (htail (_, _, _) _ hHeld ⟨ga7, ga8, ga9, rfl, HN6, HN7, HN8⟩)
    refine AllReadyH.cons rfl (fun K hK => ?_) AllReadyH.nil
    have hle7 := Below.size hHeld
    try simp only [Act.put, List.setIfInBounds_toArray, List.set_cons_zero, List.set_cons_succ, List.getElem_toArray, List.getElem_cons_zero, List.getElem_cons_succ]
    go_simp
    refine hK.out _ _ (Below.alloc hHeld (Below.size hHeld) _) (fun hHeld2 => ?_)
    clear hK K hHeld
    have hHeld := hHeld2
    clear hHeld2
    try simp only [Act.put, List.setIfInBounds_toArray, List.set_cons_zero, List.set_cons_succ, List.getElem_toArray, List.getElem_cons_zero, List.getElem_cons_succ]
    have HN7 := hide (Blk.new V1 34 #[.int .u64 0, .int .u64 0])
    have ne7_8 : V1.heap.size ≠ ga9 := Nat.ne_of_gt HN8.out.lt
    have ne8_7 := Ne.symm ne7_8
    replace HN8 := hide (HN8.out.alloc (.cells #[.int .u64 0, .int .u64 0] 34))
    generalize V1.alloc (.cells #[.int .u64 0, .int .u64 0] 34) = V2 at *
    generalize V1.heap.size = ga8 at *
    refine wpAnyH_ready (rs := [6]) (by kernel_rfl) (by simp) ?_
    refine AllReadyH.cons rfl (fun K hK => ?_) AllReadyH.nil
    have hle6 := Below.size hHeld
    try simp only [Act.put, List.setIfInBounds_toArray, List.set_cons_zero, List.set_cons_succ, List.getElem_toArray, List.getElem_cons_zero, List.getElem_cons_succ]
    go_simp
    refine hK.out _ _ (Below.alloc hHeld (Below.size hHeld) _) (fun hHeld2 => ?_)
    clear hK K hHeld
    have hHeld := hHeld2
    clear hHeld2
    try simp only [Act.put, List.setIfInBounds_toArray, List.set_cons_zero, List.set_cons_succ, List.getElem_toArray, List.getElem_cons_zero, List.getElem_cons_succ]
    have HN6 := hide (Blk.new V2 34 #[.int .u64 0, .int .u64 0])
    have ne6_8 : V2.heap.size ≠ ga9 := Nat.ne_of_gt HN8.out.lt
    have ne8_6 := Ne.symm ne6_8
    have ne6_7 : V2.heap.size ≠ ga8 := Nat.ne_of_gt HN7.out.lt
    have ne7_6 := Ne.symm ne6_7
    replace HN8 := hide (HN8.out.alloc (.cells #[.int .u64 0, .int .u64 0] 34))
    replace HN7 := hide (HN7.out.alloc (.cells #[.int .u64 0, .int .u64 0] 34))
    generalize V2.alloc (.cells #[.int .u64 0, .int .u64 0] 34) = V3 at *
    generalize V2.heap.size = ga7 at *
    refine wpAnyH_ready (rs := [9]) (by kernel_rfl) (by simp) ?_
    refine AllReadyH.cons rfl (fun K hK => ?_) AllReadyH.nil
    have y0 : V3.cell? ⟨ga7, 0, none⟩ = some (.int .u64 0) := HN6.out.cell 0
    have y1 : V3.cell? ⟨ga7, 1, none⟩ = some (.int .u64 0) := HN6.out.cell 1
    have f0 := HN6.out.frozen 0
    have f1 := HN6.out.frozen 1
    try simp only [Act.put, List.setIfInBounds_toArray, List.set_cons_zero, List.set_cons_succ, List.getElem_toArray, List.getElem_cons_zero, List.getElem_cons_succ]
    go_simp
    clear y0 y1 f0 f1
    refine hK.out _ _ ((Below.setCell hHeld (p := ⟨ga7, 0, none⟩) hle6 _).setCell (p := ⟨ga7, 1, none⟩) hle6 _) (fun hHeld2 => ?_)
    clear hK K hHeld
    have hHeld := hHeld2
    clear hHeld2
    try simp only [Act.put, List.setIfInBounds_toArray, List.set_cons_zero, List.set_cons_succ, List.getElem_toArray, List.getElem_cons_zero, List.getElem_cons_succ]
    replace HN6 := hide ((HN6.out.set_ 0 (.int .u64 a1)).set_ 1 (.int .u64 a2))
    replace HN8 := hide ((HN8.out.far (p := ⟨ga7, 0, none⟩) ne8_6 (.int .u64 a1)).far (p := ⟨ga7, 1, none⟩) ne8_6 (.int .u64 a2))
    replace HN7 := hide ((HN7.out.far (p := ⟨ga7, 0, none⟩) ne7_6 (.int .u64 a1)).far (p := ⟨ga7, 1, none⟩) ne7_6 (.int .u64 a2))
    generalize (V3.setCell ⟨ga7, 0, none⟩ (.int .u64 a1)).setCell ⟨ga7, 1, none⟩ (.int .u64 a2) = V4 at *
    refine wpAnyH_ready (rs := [10]) (by kernel_rfl) (by simp) ?_
    refine AllReadyH.cons rfl (fun K hK => ?_) AllReadyH.nil
    have y0 : V4.cell? ⟨ga8, 0, none⟩ = some (.int .u64 0) := HN7.out.cell 0
    have y1 : V4.cell? ⟨ga8, 1, none⟩ = some (.int .u64 0) := HN7.out.cell 1
    have f0 := HN7.out.frozen 0
    have f1 := HN7.out.frozen 1
    try simp only [Act.put, List.setIfInBounds_toArray, List.set_cons_zero, List.set_cons_succ, List.getElem_toArray, List.getElem_cons_zero, List.getElem_cons_succ]
    go_simp
    clear y0 y1 f0 f1
    refine hK.out _ _ ((Below.setCell hHeld (p := ⟨ga8, 0, none⟩) hle7 _).setCell (p := ⟨ga8, 1, none⟩) hle7 _) (fun hHeld2 => ?_)
    clear hK K hHeld
    have hHeld := hHeld2
    clear hHeld2
    try simp only [Act.put, List.setIfInBounds_toArray, List.set_cons_zero, List.set_cons_succ, List.getElem_toArray, List.getElem_cons_zero, List.getElem_cons_succ]
    replace HN7 := hide ((HN7.out.set_ 0 (.int .u64 b1)).set_ 1 (.int .u64 b2))
    replace HN8 := hide ((HN8.out.far (p := ⟨ga8, 0, none⟩) ne8_7 (.int .u64 b1)).far (p := ⟨ga8, 1, none⟩) ne8_7 (.int .u64 b2))
    replace HN6 := hide ((HN6.out.far (p := ⟨ga8, 0, none⟩) ne6_7 (.int .u64 b1)).far (p := ⟨ga8, 1, none⟩) ne6_7 (.int .u64 b2))
    generalize (V4.setCell ⟨ga8, 0, none⟩ (.int .u64 b1)).setCell ⟨ga8, 1, none⟩ (.int .u64 b2) = V5 at *
    refine wpAnyH_ready (rs := [11]) (by kernel_rfl) (by simp) ?_
    refine AllReadyH.cons rfl (fun K hK => ?_) AllReadyH.nil
    have y0 : V5.cell? ⟨ga9, 0, none⟩ = some (.int .u64 0) := HN8.out.cell 0
    have y1 : V5.cell? ⟨ga9, 1, none⟩ = some (.int .u64 0) := HN8.out.cell 1
    have f0 := HN8.out.frozen 0
    have f1 := HN8.out.frozen 1
    try simp only [Act.put, List.setIfInBounds_toArray, List.set_cons_zero, List.set_cons_succ, List.getElem_toArray, List.getElem_cons_zero, List.getElem_cons_succ]
    go_simp
    clear y0 y1 f0 f1
    refine hK.out _ _ ((Below.setCell hHeld (p := ⟨ga9, 0, none⟩) hle8 _).setCell (p := ⟨ga9, 1, none⟩) hle8 _) (fun hHeld2 => ?_)
    clear hK K hHeld
    have hHeld := hHeld2
    clear hHeld2
    try simp only [Act.put, List.setIfInBounds_toArray, List.set_cons_zero, List.set_cons_succ, List.getElem_toArray, List.getElem_cons_zero, List.getElem_cons_succ]
    replace HN8 := hide ((HN8.out.set_ 0 (.int .u64 c1)).set_ 1 (.int .u64 c2))
    replace HN7 := hide ((HN7.out.far (p := ⟨ga9, 0, none⟩) ne7_8 (.int .u64 c1)).far (p := ⟨ga9, 1, none⟩) ne7_8 (.int .u64 c2))
    replace HN6 := hide ((HN6.out.far (p := ⟨ga9, 0, none⟩) ne6_8 (.int .u64 c1)).far (p := ⟨ga9, 1, none⟩) ne6_8 (.int .u64 c2))
    generalize (V5.setCell ⟨ga9, 0, none⟩ (.int .u64 c1)).setCell ⟨ga9, 1, none⟩ (.int .u64 c2) = V6 at *
    exact wpAnyH_listed (by kernel_rfl) (htail (_, _, _) _ hHeld ⟨ga7, ga8, ga9, rfl, HN6, HN7, HN8⟩)
  try simp only [Act.put, List.setIfInBounds_toArray, List.set_cons_zero, List.set_cons_succ, List.getElem_toArray, List.getElem_cons_zero, List.getElem_cons_succ] at htail
  rcases lt_cases swoS totS ((a1, a2), a3) ((b1, b2), b3) ((c1, c2), c3) with ⟨h1, h2, hne, h3, h4⟩ | ⟨h1, h2, hne, h3⟩ | ⟨h1, h2, hne⟩ | ⟨h1, h2, heq⟩
  · have he := run_eql_spot a1 a2 a3 b1 b2 b3 (spot_other hne)
    clear hne
    refine wpAnyH_take (i := 0) (v := .agg #[.int .u64 a1, .int .u64 a2, .int .i64 a3]) rfl (by kernel_rfl) (by kernel_rfl) (by kernel_rfl) (fun _ _ _ h => h) (Or.inl ⟨by rfl, fun W hS => by have hl := HA.out.lt; have hk : ∀ j, W.cell? ⟨w.heap.size, j, none⟩ = w2.cell? ⟨w.heap.size, j, none⟩ := fun j => Below.cell hS hl; have z0 : W.cell? ⟨w.heap.size, 0, none⟩ = some (.int .u64 a1) := (hk 0).trans (HA.out.cell 0); have z1 : W.cell? ⟨w.heap.size, 1, none⟩ = some (.int .u64 a2) := (hk 1).trans (HA.out.cell 1); have z2 : W.cell? ⟨w.heap.size, 2, none⟩ = some (.int .i64 a3) := (hk 2).trans (HA.out.cell 2); clear hk hl; clear hS hHeld; go_simp⟩) hHeld ?_
    try simp only [Act.put, List.setIfInBounds_toArray, List.set_cons_zero, List.set_cons_succ, List.getElem_toArray, List.getElem_cons_zero, List.getElem_cons_succ]
    refine wpAnyH_take (i := 1) (v := .agg #[.int .u64 b1, .int .u64 b2, .int .i64 b3]) rfl (by kernel_rfl) (by kernel_rfl) (by kernel_rfl) (fun _ _ _ h => h) (Or.inl ⟨by rfl, fun W hS => by have hl := HB.out.lt; have hk : ∀ j, W.cell? ⟨gb, j, none⟩ = w2.cell? ⟨gb, j, none⟩ := fun j => Below.cell hS hl; have z0 : W.cell? ⟨gb, 0, none⟩ = some (.int .u64 b1) := (hk 0).trans (HB.out.cell 0); have z1 : W.cell? ⟨gb, 1, none⟩ = some (.int .u64 b2) := (hk 1).trans (HB.out.cell 1); have z2 : W.cell? ⟨gb, 2, none⟩ = some (.int .i64 b3) := (hk 2).trans (HB.out.cell 2); clear hk hl; clear hS hHeld; go_simp⟩) hHeld ?_
    try simp only [Act.put, List.setIfInBounds_toArray, List.set_cons_zero, List.set_cons_succ, List.getElem_toArray, List.getElem_cons_zero, List.getElem_cons_succ]
    refine wpAnyH_ready (rs := [2]) (by kernel_rfl) (by simp) ?_
    refine AllReadyH.cons rfl (fun K hK => ?_) AllReadyH.nil
    try simp only [Act.put, List.setIfInBounds_toArray, List.set_cons_zero, List.set_cons_succ, List.getElem_toArray, List.getElem_cons_zero, List.getElem_cons_succ]
    go_simp
    go_at_call 17
    refine (spotR h1 _).mono ?_
    rintro e W1 ⟨rfl, hb⟩
    refine hK.out _ _ (Below.step hHeld hb) (fun hHeld2 => ?_)
    clear hK K hHeld
    have hHeld := hHeld2
    clear hHeld2
    try simp only [Act.put, List.setIfInBounds_toArray, List.set_cons_zero, List.set_cons_succ, List.getElem_toArray, List.getElem_cons_zero, List.getElem_cons_succ]
    clear hb
    refine wpAnyH_take (i := 3) (v := .bool true) rfl (by kernel_rfl) (by kernel_rfl) (by kernel_rfl) (fun _ _ _ h => h) (Or.inl ⟨by rfl, fun W hS => by clear hS hHeld; go_simp⟩) hHeld ?_
    try simp only [Act.put, List.setIfInBounds_toArray, List.set_cons_zero, List.set_cons_succ, List.getElem_toArray, List.getElem_cons_zero, List.getElem_cons_succ]
    refine wpAnyH_take (i := 4) (v := .agg #[.int .u64 b1, .int .u64 b2, .int .i64 b3]) rfl (by kernel_rfl) (by kernel_rfl) (by kernel_rfl) (fun _ _ _ h => h) (Or.inl ⟨by rfl, fun W hS => by have hl := HB.out.lt; have hk : ∀ j, W.cell? ⟨gb, j, none⟩ = w2.cell? ⟨gb, j, none⟩ := fun j => Below.cell hS hl; have z0 : W.cell? ⟨gb, 0, none⟩ = some (.int .u64 b1) := (hk 0).trans (HB.out.cell 0); have z1 : W.cell? ⟨gb, 1, none⟩ = some (.int .u64 b2) := (hk 1).trans (HB.out.cell 1); have z2 : W.cell? ⟨gb, 2, none⟩ = some (.int .i64 b3) := (hk 2).trans (HB.out.cell 2); clear hk hl; clear hS hHeld; go_simp⟩) hHeld ?_
    try simp only [Act.put, List.setIfInBounds_toArray, List.set_cons_zero, List.set_cons_succ, List.getElem_toArray, List.getElem_cons_zero, List.getElem_cons_succ]
    refine wpAnyH_take (i := 5) (v := .agg #[.int .u64 a1, .int .u64 a2, .int .i64 a3]) rfl (by kernel_rfl) (by kernel_rfl) (by kernel_rfl) (fun _ _ _ h => h) (Or.inl ⟨by rfl, fun W hS => by have hl := HA.out.lt; have hk : ∀ j, W.cell? ⟨w.heap.size, j, none⟩ = w2.cell? ⟨w.heap.size, j, none⟩ := fun j => Below.cell hS hl; have z0 : W.cell? ⟨w.heap.size, 0, none⟩ = some (.int .u64 a1) := (hk 0).trans (HA.out.cell 0); have z1 : W.cell? ⟨w.heap.size, 1, none⟩ = some (.int .u64 a2) := (hk 1).trans (HA.out.cell 1); have z2 : W.cell? ⟨w.heap.size, 2, none⟩ = some (.int .i64 a3) := (hk 2).trans (HA.out.cell 2); clear hk hl; clear hS hHeld; go_simp⟩) hHeld ?_
    try simp only [Act.put, List.setIfInBounds_toArray, List.set_cons_zero, List.set_cons_succ, List.getElem_toArray, List.getElem_cons_zero, List.getElem_cons_succ]
    refine wpAnyH_ready (rs := [6]) (by kernel_rfl) (by simp) ?_
    refine AllReadyH.cons rfl (fun K hK => ?_) AllReadyH.nil
    try simp only [Act.put, List.setIfInBounds_toArray, List.set_cons_zero, List.set_cons_succ, List.getElem_toArray, List.getElem_cons_zero, List.getElem_cons_succ]
    go_simp
    go_at_call 17
    refine (spotR h2 _).mono ?_
    rintro e W2 ⟨rfl, hb⟩
    refine hK.out _ _ (Below.step hHeld hb) (fun hHeld2 => ?_)
    clear hK K hHeld
    have hHeld := hHeld2
    clear hHeld2
    try simp only [Act.put, List.setIfInBounds_toArray, List.set_cons_zero, List.set_cons_succ, List.getElem_toArray, List.getElem_cons_zero, List.getElem_cons_succ]
    clear hb
    refine wpAnyH_take (i := 7) (v := .bool false) rfl (by kernel_rfl) (by kernel_rfl) (by kernel_rfl) (fun _ _ _ h => h) (Or.inl ⟨by rfl, fun W hS => by clear hS hHeld; go_simp⟩) hHeld ?_
    try simp only [Act.put, List.setIfInBounds_toArray, List.set_cons_zero, List.set_cons_succ, List.getElem_toArray, List.getElem_cons_zero, List.getElem_cons_succ]
    refine wpAnyH_take (i := 8) (v := .bool false) rfl (by kernel_rfl) (by kernel_rfl) (by kernel_rfl) (fun _ _ _ h => h) (Or.inl ⟨by rfl, fun W hS => by clear hS hHeld; go_simp⟩) hHeld ?_
    try simp only [Act.put, List.setIfInBounds_toArray, List.set_cons_zero, List.set_cons_succ, List.getElem_toArray, List.getElem_cons_zero, List.getElem_cons_succ]
    refine wpAnyH_take (i := 9) (v := .agg #[.int .u64 a1, .int .u64 a2, .int .i64 a3]) rfl (by kernel_rfl) (by kernel_rfl) (by kernel_rfl) (fun _ _ _ h => h) (Or.inl ⟨by rfl, fun W hS => by have hl := HA.out.lt; have hk : ∀ j, W.cell? ⟨w.heap.size, j, none⟩ = w2.cell? ⟨w.heap.size, j, none⟩ := fun j => Below.cell hS hl; have z0 : W.cell? ⟨w.heap.size, 0, none⟩ = some (.int .u64 a1) := (hk 0).trans (HA.out.cell 0); have z1 : W.cell? ⟨w.heap.size, 1, none⟩ = some (.int .u64 a2) := (hk 1).trans (HA.out.cell 1); have z2 : W.cell? ⟨w.heap.size, 2, none⟩ = some (.int .i64 a3) := (hk 2).trans (HA.out.cell 2); clear hk hl; clear hS hHeld; go_simp⟩) hHeld ?_
    try simp only [Act.put, List.setIfInBounds_toArray, List.set_cons_zero, List.set_cons_succ, List.getElem_toArray, List.getElem_cons_zero, List.getElem_cons_succ]
    refine wpAnyH_take (i := 10) (v := .agg #[.int .u64 b1, .int .u64 b2, .int .i64 b3]) rfl (by kernel_rfl) (by kernel_rfl) (by kernel_rfl) (fun _ _ _ h => h) (Or.inl ⟨by rfl, fun W hS => by have hl := HB.out.lt; have hk : ∀ j, W.cell? ⟨gb, j, none⟩ = w2.cell? ⟨gb, j, none⟩ := fun j => Below.cell hS hl; have z0 : W.cell? ⟨gb, 0, none⟩ = some (.int .u64 b1) := (hk 0).trans (HB.out.cell 0); have z1 : W.cell? ⟨gb, 1, none⟩ = some (.int .u64 b2) := (hk 1).trans (HB.out.cell 1); have z2 : W.cell? ⟨gb, 2, none⟩ = some (.int .i64 b3) := (hk 2).trans (HB.out.cell 2); clear hk hl; clear hS hHeld; go_simp⟩) hHeld ?_
    try simp only [Act.put, List.setIfInBounds_toArray, List.set_cons_zero, List.set_cons_succ, List.getElem_toArray, List.getElem_cons_zero, List.getElem_cons_succ]
    refine wpAnyH_take (i := 17) (v := .agg #[.int .u64 a1, .int .u64 a2, .int .i64 a3]) rfl (by kernel_rfl) (by kernel_rfl) (by kernel_rfl) (fun _ _ _ h => h) (Or.inl ⟨by rfl, fun W hS => by have hl := HA.out.lt; have hk : ∀ j, W.cell? ⟨w.heap.size, j, none⟩ = w2.cell? ⟨w.heap.size, j, none⟩ := fun j => Below.cell hS hl; have z0 : W.cell? ⟨w.heap.size, 0, none⟩ = some (.int .u64 a1) := (hk 0).trans (HA.out.cell 0); have z1 : W.cell? ⟨w.heap.size, 1, none⟩ = some (.int .u64 a2) := (hk 1).trans (HA.out.cell 1); have z2 : W.cell? ⟨w.heap.size, 2, none⟩ = some (.int .i64 a3) := (hk 2).trans (HA.out.cell 2); clear hk hl; clear hS hHeld; go_simp⟩) hHeld ?_
    try simp only [Act.put, List.setIfInBounds_toArray, List.set_cons_zero, List.set_cons_succ, List.getElem_toArray, List.getElem_cons_zero, List.getElem_cons_succ]
    refine wpAnyH_take (i := 18) (v := .agg #[.int .u64 b1, .int .u64 b2, .int .i64 b3]) rfl (by kernel_rfl) (by kernel_rfl) (by kernel_rfl) (fun _ _ _ h => h) (Or.inl ⟨by rfl, fun W hS => by have hl := HB.out.lt; have hk : ∀ j, W.cell? ⟨gb, j, none⟩ = w2.cell? ⟨gb, j, none⟩ := fun j => Below.cell hS hl; have z0 : W.cell? ⟨gb, 0, none⟩ = some (.int .u64 b1) := (hk 0).trans (HB.out.cell 0); have z1 : W.cell? ⟨gb, 1, none⟩ = some (.int .u64 b2) := (hk 1).trans (HB.out.cell 1); have z2 : W.cell? ⟨gb, 2, none⟩ = some (.int .i64 b3) := (hk 2).trans (HB.out.cell 2); clear hk hl; clear hS hHeld; go_simp⟩) hHeld ?_
    try simp only [Act.put, List.setIfInBounds_toArray, List.set_cons_zero, List.set_cons_succ, List.getElem_toArray, List.getElem_cons_zero, List.getElem_cons_succ]
    refine wpAnyH_take (i := 19) (v := .bool false) rfl (by kernel_rfl) (by kernel_rfl) (by kernel_rfl) (fun _ _ _ h => h) (Or.inl ⟨by rfl, fun W hS => by clear hS hHeld; go_simp⟩) hHeld ?_
    try simp only [Act.put, List.setIfInBounds_toArray, List.set_cons_zero, List.set_cons_succ, List.getElem_toArray, List.getElem_cons_zero, List.getElem_cons_succ]
    refine wpAnyH_ready (rs := [11]) (by kernel_rfl) (by simp) ?_
    refine AllReadyH.cons rfl (fun K hK => ?_) AllReadyH.nil
    try simp only [Act.put, List.setIfInBounds_toArray, List.set_cons_zero, List.set_cons_succ, List.getElem_toArray, List.getElem_cons_zero, List.getElem_cons_succ]
    go_simp
    go_at_call 17
    refine (spotR h1 _).mono ?_
    rintro e W3 ⟨rfl, hb⟩
    refine hK.out _ _ (Below.step hHeld hb) (fun hHeld2 => ?_)
    clear hK K hHeld
    have hHeld := hHeld2
    clear hHeld2
    try simp only [Act.put, List.setIfInBounds_toArray, List.set_cons_zero, List.set_cons_succ, List.getElem_toArray, List.getElem_cons_zero, List.getElem_cons_succ]
    clear hb
    refine wpAnyH_take (i := 12) (v := .bool true) rfl (by kernel_rfl) (by kernel_rfl) (by kernel_rfl) (fun _ _ _ h => h) (Or.inl ⟨by rfl, fun W hS => by clear hS hHeld; go_simp⟩) hHeld ?_
    try simp only [Act.put, List.setIfInBounds_toArray, List.set_cons_zero, List.set_cons_succ, List.getElem_toArray, List.getElem_cons_zero, List.getElem_cons_succ]
    refine wpAnyH_take (i := 13) (v := undef) rfl (by kernel_rfl) (by kernel_rfl) (by kernel_rfl) (fun _ _ _ h => h) (Or.inr ⟨by rfl, rfl⟩) hHeld ?_
    try simp only [Act.put, List.setIfInBounds_toArray, List.set_cons_zero, List.set_cons_succ, List.getElem_toArray, List.getElem_cons_zero, List.getElem_cons_succ]
    refine wpAnyH_take (i := 14) (v := undef) rfl (by kernel_rfl) (by kernel_rfl) (by kernel_rfl) (fun _ _ _ h => h) (Or.inr ⟨by rfl, rfl⟩) hHeld ?_
    try simp only [Act.put, List.setIfInBounds_toArray, List.set_cons_zero, List.set_cons_succ, List.getElem_toArray, List.getElem_cons_zero, List.getElem_cons_succ]
    refine wpAnyH_take (i := 15) (v := undef) rfl (by kernel_rfl) (by kernel_rfl) (by kernel_rfl) (fun _ _ _ h => h) (Or.inr ⟨by rfl, rfl⟩) hHeld ?_
    try simp only [Act.put, List.setIfInBounds_toArray, List.set_cons_zero, List.set_cons_succ, List.getElem_toArray, List.getElem_cons_zero, List.getElem_cons_succ]
    refine wpAnyH_take (i := 16) (v := .bool true) rfl (by kernel_rfl) (by kernel_rfl) (by kernel_rfl) (fun _ _ _ h => h) (Or.inl ⟨by rfl, fun W hS => by clear hS hHeld; go_simp⟩) hHeld ?_
    try simp only [Act.put, List.setIfInBounds_toArray, List.set_cons_zero, List.set_cons_succ, List.getElem_toArray, List.getElem_cons_zero, List.getElem_cons_succ]
    refine wpAnyH_take (i := 20) (v := .bool false) rfl (by kernel_rfl) (by kernel_rfl) (by kernel_rfl) (fun _ _ _ h => h) (Or.inl ⟨by rfl, fun W hS => by clear hS hHeld; go_simp⟩) hHeld ?_
    try simp only [Act.put, List.setIfInBounds_toArray, List.set_cons_zero, List.set_cons_succ, List.getElem_toArray, List.getElem_cons_zero, List.getElem_cons_succ]
    refine wpAnyH_take (i := 21) (v := .bool false) rfl (by kernel_rfl) (by kernel_rfl) (by kernel_rfl) (fun _ _ _ h => h) (Or.inl ⟨by rfl, fun W hS => by clear hS hHeld; go_simp⟩) hHeld ?_
    try simp only [Act.put, List.setIfInBounds_toArray, List.set_cons_zero, List.set_cons_succ, List.getElem_toArray, List.getElem_cons_zero, List.getElem_cons_succ]
    refine wpAnyH_take (i := 22) (v := .bool false) rfl (by kernel_rfl) (by kernel_rfl) (by kernel_rfl) (fun _ _ _ h => h) (Or.inl ⟨by rfl, fun W hS => by clear hS hHeld; go_simp⟩) hHeld ?_
    try simp only [Act.put, List.setIfInBounds_toArray, List.set_cons_zero, List.set_cons_succ, List.getElem_toArray, List.getElem_cons_zero, List.getElem_cons_succ]
    refine wpAnyH_take (i := 23) (v := .agg #[.int .u64 a1, .int .u64 a2, .int .i64 a3]) rfl (by kernel_rfl) (by kernel_rfl) (by kernel_rfl) (fun _ _ _ h => h) (Or.inl ⟨by rfl, fun W hS => by have hl := HA.out.lt; have hk : ∀ j, W.cell? ⟨w.heap.size, j, none⟩ = w2.cell? ⟨w.heap.size, j, none⟩ := fun j => Below.cell hS hl; have z0 : W.cell? ⟨w.heap.size, 0, none⟩ = some (.int .u64 a1) := (hk 0).trans (HA.out.cell 0); have z1 : W.cell? ⟨w.heap.size, 1, none⟩ = some (.int .u64 a2) := (hk 1).trans (HA.out.cell 1); have z2 : W.cell? ⟨w.heap.size, 2, none⟩ = some (.int .i64 a3) := (hk 2).trans (HA.out.cell 2); clear hk hl; clear hS hHeld; go_simp⟩) hHeld ?_
    try simp only [Act.put, List.setIfInBounds_toArray, List.set_cons_zero, List.set_cons_succ, List.getElem_toArray, List.getElem_cons_zero, List.getElem_cons_succ]
    refine wpAnyH_take (i := 24) (v := .agg #[.int .u64 b1, .int .u64 b2, .int .i64 b3]) rfl (by kernel_rfl) (by kernel_rfl) (by kernel_rfl) (fun _ _ _ h => h) (Or.inl ⟨by rfl, fun W hS => by have hl := HB.out.lt; have hk : ∀ j, W.cell? ⟨gb, j, none⟩ = w2.cell? ⟨gb, j, none⟩ := fun j => Below.cell hS hl; have z0 : W.cell? ⟨gb, 0, none⟩ = some (.int .u64 b1) := (hk 0).trans (HB.out.cell 0); have z1 : W.cell? ⟨gb, 1, none⟩ = some (.int .u64 b2) := (hk 1).trans (HB.out.cell 1); have z2 : W.cell? ⟨gb, 2, none⟩ = some (.int .i64 b3) := (hk 2).trans (HB.out.cell 2); clear hk hl; clear hS hHeld; go_simp⟩) hHeld ?_
    try simp only [Act.put, List.setIfInBounds_toArray, List.set_cons_zero, List.set_cons_succ, List.getElem_toArray, List.getElem_cons_zero, List.getElem_cons_succ]
    refine wpAnyH_ready (rs := [25]) (by kernel_rfl) (by simp) ?_
    refine AllReadyH.cons rfl (fun K hK => ?_) AllReadyH.nil
    try simp only [Act.put, List.setIfInBounds_toArray, List.set_cons_zero, List.set_cons_succ, List.getElem_toArray, List.getElem_cons_zero, List.getElem_cons_succ]
    go_simp
    go_at_call 17
    refine (spotR h1 _).mono ?_
    rintro e W4 ⟨rfl, hb⟩
    refine hK.out _ _ (Below.step hHeld hb) (fun hHeld2 => ?_)
    clear hK K hHeld
    have hHeld := hHeld2
    clear hHeld2
    try simp only [Act.put, List.setIfInBounds_toArray, List.set_cons_zero, List.set_cons_succ, List.getElem_toArray, List.getElem_cons_zero, List.getElem_cons_succ]
    clear hb
    refine wpAnyH_take (i := 26) (v := .bool true) rfl (by kernel_rfl) (by kernel_rfl) (by kernel_rfl) (fun _ _ _ h => h) (Or.inl ⟨by rfl, fun W hS => by clear hS hHeld; go_simp⟩) hHeld ?_
    try simp only [Act.put, List.setIfInBounds_toArray, List.set_cons_zero, List.set_cons_succ, List.getElem_toArray, List.getElem_cons_zero, List.getElem_cons_succ]
    refine wpAnyH_take (i := 27) (v := .agg #[.int .u64 b1, .int .u64 b2, .int .i64 b3]) rfl (by kernel_rfl) (by kernel_rfl) (by kernel_rfl) (fun _ _ _ h => h) (Or.inl ⟨by rfl, fun W hS => by have hl := HB.out.lt; have hk : ∀ j, W.cell? ⟨gb, j, none⟩ = w2.cell? ⟨gb, j, none⟩ := fun j => Below.cell hS hl; have z0 : W.cell? ⟨gb, 0, none⟩ = some (.int .u64 b1) := (hk 0).trans (HB.out.cell 0); have z1 : W.cell? ⟨gb, 1, none⟩ = some (.int .u64 b2) := (hk 1).trans (HB.out.cell 1); have z2 : W.cell? ⟨gb, 2, none⟩ = some (.int .i64 b3) := (hk 2).trans (HB.out.cell 2); clear hk hl; clear hS hHeld; go_simp⟩) hHeld ?_
    try simp only [Act.put, List.setIfInBounds_toArray, List.set_cons_zero, List.set_cons_succ, List.getElem_toArray, List.getElem_cons_zero, List.getElem_cons_succ]
    refine wpAnyH_take (i := 28) (v := .agg #[.int .u64 c1, .int .u64 c2, .int .i64 c3]) rfl (by kernel_rfl) (by kernel_rfl) (by kernel_rfl) (fun _ _ _ h => h) (Or.inl ⟨by rfl, fun W hS => by have hl := HC.out.lt; have hk : ∀ j, W.cell? ⟨gc, j, none⟩ = w2.cell? ⟨gc, j, none⟩ := fun j => Below.cell hS hl; have z0 : W.cell? ⟨gc, 0, none⟩ = some (.int .u64 c1) := (hk 0).trans (HC.out.cell 0); have z1 : W.cell? ⟨gc, 1, none⟩ = some (.int .u64 c2) := (hk 1).trans (HC.out.cell 1); have z2 : W.cell? ⟨gc, 2, none⟩ = some (.int .i64 c3) := (hk 2).trans (HC.out.cell 2); clear hk hl; clear hS hHeld; go_simp⟩) hHeld ?_
    try simp only [Act.put, List.setIfInBounds_toArray, List.set_cons_zero, List.set_cons_succ, List.getElem_toArray, List.getElem_cons_zero, List.getElem_cons_succ]
    refine wpAnyH_ready (rs := [29]) (by kernel_rfl) (by simp) ?_
    refine AllReadyH.cons rfl (fun K hK => ?_) AllReadyH.nil
    try simp only [Act.put, List.setIfInBounds_toArray, List.set_cons_zero, List.set_cons_succ, List.getElem_toArray, List.getElem_cons_zero, List.getElem_cons_succ]
    go_simp
    go_at_call 17
    refine (spotR h3 _).mono ?_
    rintro e W5 ⟨rfl, hb⟩
    refine hK.out _ _ (Below.step hHeld hb) (fun hHeld2 => ?_)
    clear hK K hHeld
    have hHeld := hHeld2
    clear hHeld2
    try simp only [Act.put, List.setIfInBounds_toArray, List.set_cons_zero, List.set_cons_succ, List.getElem_toArray, List.getElem_cons_zero, List.getElem_cons_succ]
    clear hb
    refine wpAnyH_take (i := 30) (v := .bool true) rfl (by kernel_rfl) (by kernel_rfl) (by kernel_rfl) (fun _ _ _ h => h) (Or.inl ⟨by rfl, fun W hS => by clear hS hHeld; go_simp⟩) hHeld ?_
    try simp only [Act.put, List.setIfInBounds_toArray, List.set_cons_zero, List.set_cons_succ, List.getElem_toArray, List.getElem_cons_zero, List.getElem_cons_succ]
    refine wpAnyH_take (i := 31) (v := .bool true) rfl (by kernel_rfl) (by kernel_rfl) (by kernel_rfl) (fun _ _ _ h => h) (Or.inl ⟨by rfl, fun W hS => by clear hS hHeld; go_simp⟩) hHeld ?_
    try simp only [Act.put, List.setIfInBounds_toArray, List.set_cons_zero, List.set_cons_succ, List.getElem_toArray, List.getElem_cons_zero, List.getElem_cons_succ]
    refine wpAnyH_take (i := 32) (v := .agg #[.int .u64 a1, .int .u64 a2, .int .i64 a3]) rfl (by kernel_rfl) (by kernel_rfl) (by kernel_rfl) (fun _ _ _ h => h) (Or.inl ⟨by rfl, fun W hS => by have hl := HA.out.lt; have hk : ∀ j, W.cell? ⟨w.heap.size, j, none⟩ = w2.cell? ⟨w.heap.size, j, none⟩ := fun j => Below.cell hS hl; have z0 : W.cell? ⟨w.heap.size, 0, none⟩ = some (.int .u64 a1) := (hk 0).trans (HA.out.cell 0); have z1 : W.cell? ⟨w.heap.size, 1, none⟩ = some (.int .u64 a2) := (hk 1).trans (HA.out.cell 1); have z2 : W.cell? ⟨w.heap.size, 2, none⟩ = some (.int .i64 a3) := (hk 2).trans (HA.out.cell 2); clear hk hl; clear hS hHeld; go_simp⟩) hHeld ?_
    try simp only [Act.put, List.setIfInBounds_toArray, List.set_cons_zero, List.set_cons_succ, List.getElem_toArray, List.getElem_cons_zero, List.getElem_cons_succ]
    refine wpAnyH_take (i := 33) (v := .agg #[.int .u64 c1, .int .u64 c2, .int .i64 c3]) rfl (by kernel_rfl) (by kernel_rfl) (by kernel_rfl) (fun _ _ _ h => h) (Or.inl ⟨by rfl, fun W hS => by have hl := HC.out.lt; have hk : ∀ j, W.cell? ⟨gc, j, none⟩ = w2.cell? ⟨gc, j, none⟩ := fun j => Below.cell hS hl; have z0 : W.cell? ⟨gc, 0, none⟩ = some (.int .u64 c1) := (hk 0).trans (HC.out.cell 0); have z1 : W.cell? ⟨gc, 1, none⟩ = some (.int .u64 c2) := (hk 1).trans (HC.out.cell 1); have z2 : W.cell? ⟨gc, 2, none⟩ = some (.int .i64 c3) := (hk 2).trans (HC.out.cell 2); clear hk hl; clear hS hHeld; go_simp⟩) hHeld ?_
    try simp only [Act.put, List.setIfInBounds_toArray, List.set_cons_zero, List.set_cons_succ, List.getElem_toArray, List.getElem_cons_zero, List.getElem_cons_succ]
    refine wpAnyH_ready (rs := [34]) (by kernel_rfl) (by simp) ?_
    refine AllReadyH.cons rfl (fun K hK => ?_) AllReadyH.nil
    try simp only [Act.put, List.setIfInBounds_toArray, List.set_cons_zero, List.set_cons_succ, List.getElem_toArray, List.getElem_cons_zero, List.getElem_cons_succ]
    go_simp
    go_at_call 17
    refine (spotR h4 _).mono ?_
    rintro e W6 ⟨rfl, hb⟩
    refine hK.out _ _ (Below.step hHeld hb) (fun hHeld2 => ?_)
    clear hK K hHeld
    have hHeld := hHeld2
    clear hHeld2
    try simp only [Act.put, List.setIfInBounds_toArray, List.set_cons_zero, List.set_cons_succ, List.getElem_toArray, List.getElem_cons_zero, List.getElem_cons_succ]
    clear hb
    refine wpAnyH_take (i := 35) (v := .bool false) rfl (by kernel_rfl) (by kernel_rfl) (by kernel_rfl) (fun _ _ _ h => h) (Or.inl ⟨by rfl, fun W hS => by clear hS hHeld; go_simp⟩) hHeld ?_
    try simp only [Act.put, List.setIfInBounds_toArray, List.set_cons_zero, List.set_cons_succ, List.getElem_toArray, List.getElem_cons_zero, List.getElem_cons_succ]
    refine wpAnyH_take (i := 36) (v := .bool false) rfl (by kernel_rfl) (by kernel_rfl) (by kernel_rfl) (fun _ _ _ h => h) (Or.inl ⟨by rfl, fun W hS => by clear hS hHeld; go_simp⟩) hHeld ?_
    try simp only [Act.put, List.setIfInBounds_toArray, List.set_cons_zero, List.set_cons_succ, List.getElem_toArray, List.getElem_cons_zero, List.getElem_cons_succ]
    refine wpAnyH_take (i := 37) (v := .bool false) rfl (by kernel_rfl) (by kernel_rfl) (by kernel_rfl) (fun _ _ _ h => h) (Or.inl ⟨by rfl, fun W hS => by clear hS hHeld; go_simp⟩) hHeld ?_
    try simp only [Act.put, List.setIfInBounds_toArray, List.set_cons_zero, List.set_cons_succ, List.getElem_toArray, List.getElem_cons_zero, List.getElem_cons_succ]
    exact wpAnyH_listed (by kernel_rfl) (htail (_, _, _, _, _, _, _, _, _, _, _, _, _, _, _, _, _, _, _, _, _, _, _, _, _, _, _, _, _, _, _, _, _, _, _, _, _) _ hHeld trivial)
  · have he := run_eql_spot a1 a2 a3 b1 b2 b3 (spot_other hne)
    clear hne
    refine wpAnyH_take (i := 0) (v := .agg #[.int .u64 a1, .int .u64 a2, .int .i64 a3]) rfl (by kernel_rfl) (by kernel_rfl) (by kernel_rfl) (fun _ _ _ h => h) (Or.inl ⟨by rfl, fun W hS => by have hl := HA.out.lt; have hk : ∀ j, W.cell? ⟨w.heap.size, j, none⟩ = w2.cell? ⟨w.heap.size, j, none⟩ := fun j => Below.cell hS hl; have z0 : W.cell? ⟨w.heap.size, 0, none⟩ = some (.int .u64 a1) := (hk 0).trans (HA.out.cell 0); have z1 : W.cell? ⟨w.heap.size, 1, none⟩ = some (.int .u64 a2) := (hk 1).trans (HA.out.cell 1); have z2 : W.cell? ⟨w.heap.size, 2, none⟩ = some (.int .i64 a3) := (hk 2).trans (HA.out.cell 2); clear hk hl; clear hS hHeld; go_simp⟩) hHeld ?_
    try simp only [Act.put, List.setIfInBounds_toArray, List.set_cons_zero, List.set_cons_succ, List.getElem_toArray, List.getElem_cons_zero, List.getElem_cons_succ]
    refine wpAnyH_take (i := 1) (v := .agg #[.int .u64 b1, .int .u64 b2, .int .i64 b3]) rfl (by kernel_rfl) (by kernel_rfl) (by kernel_rfl) (fun _ _ _ h => h) (Or.inl ⟨by rfl, fun W hS => by have hl := HB.out.lt; have hk : ∀ j, W.cell? ⟨gb, j, none⟩ = w2.cell? ⟨gb, j, none⟩ := fun j => Below.cell hS hl; have z0 : W.cell? ⟨gb, 0, none⟩ = some (.int .u64 b1) := (hk 0).trans (HB.out.cell 0); have z1 : W.cell? ⟨gb, 1, none⟩ = some (.int .u64 b2) := (hk 1).trans (HB.out.cell 1); have z2 : W.cell? ⟨gb, 2, none⟩ = some (.int .i64 b3) := (hk 2).trans (HB.out.cell 2); clear hk hl; clear hS hHeld; go_simp⟩) hHeld ?_
    try simp only [Act.put, List.setIfInBounds_toArray, List.set_cons_zero, List.set_cons_succ, List.getElem_toArray, List.getElem_cons_zero, List.getElem_cons_succ]
    refine wpAnyH_ready (rs := [2]) (by kernel_rfl) (by simp) ?_
    refine AllReadyH.cons rfl (fun K hK => ?_) AllReadyH.nil
    try simp only [Act.put, List.setIfInBounds_toArray, List.set_cons_zero, List.set_cons_succ, List.getElem_toArray, List.getElem_cons_zero, List.getElem_cons_succ]
    go_simp
    go_at_call 17
    refine (spotR h1 _).mono ?_
    rintro e W1 ⟨rfl, hb⟩
    refine hK.out _ _ (Below.step hHeld hb) (fun hHeld2 => ?_)
    clear hK K hHeld
    have hHeld := hHeld2
    clear hHeld2
    try simp only [Act.put, List.setIfInBounds_toArray, List.set_cons_zero, List.set_cons_succ, List.getElem_toArray, List.getElem_cons_zero, List.getElem_cons_succ]
    clear hb
    refine wpAnyH_take (i := 3) (v := .bool true) rfl (by kernel_rfl) (by kernel_rfl) (by kernel_rfl) (fun _ _ _ h => h) (Or.inl ⟨by rfl, fun W hS => by clear hS hHeld; go_simp⟩) hHeld ?_
    try simp only [Act.put, List.setIfInBounds_toArray, List.set_cons_zero, List.set_cons_succ, List.getElem_toArray, List.getElem_cons_zero, List.getElem_cons_succ]
    refine wpAnyH_take (i := 4) (v := .agg #[.int .u64 b1, .int .u64 b2, .int .i64 b3]) rfl (by kernel_rfl) (by kernel_rfl) (by kernel_rfl) (fun _ _ _ h => h) (Or.inl ⟨by rfl, fun W hS => by have hl := HB.out.lt; have hk : ∀ j, W.cell? ⟨gb, j, none⟩ = w2.cell? ⟨gb, j, none⟩ := fun j => Below.cell hS hl; have z0 : W.cell? ⟨gb, 0, none⟩ = some (.int .u64 b1) := (hk 0).trans (HB.out.cell 0); have z1 : W.cell? ⟨gb, 1, none⟩ = some (.int .u64 b2) := (hk 1).trans (HB.out.cell 1); have z2 : W.cell? ⟨gb, 2, none⟩ = some (.int .i64 b3) := (hk 2).trans (HB.out.cell 2); clear hk hl; clear hS hHeld; go_simp⟩) hHeld ?_
    try simp only [Act.put, List.setIfInBounds_toArray, List.set_cons_zero, List.set_cons_succ, List.getElem_toArray, List.getElem_cons_zero, List.getElem_cons_succ]
    refine wpAnyH_take (i := 5) (v := .agg #[.int .u64 a1, .int .u64 a2, .int .i64 a3]) rfl (by kernel_rfl) (by kernel_rfl) (by kernel_rfl) (fun _ _ _ h => h) (Or.inl ⟨by rfl, fun W hS => by have hl := HA.out.lt; have hk : ∀ j, W.cell? ⟨w.heap.size, j, none⟩ = w2.cell? ⟨w.heap.size, j, none⟩ := fun j => Below.cell hS hl; have z0 : W.cell? ⟨w.heap.size, 0, none⟩ = some (.int .u64 a1) := (hk 0).trans (HA.out.cell 0); have z1 : W.cell? ⟨w.heap.size, 1, none⟩ = some (.int .u64 a2) := (hk 1).trans (HA.out.cell 1); have z2 : W.cell? ⟨w.heap.size, 2, none⟩ = some (.int .i64 a3) := (hk 2).trans (HA.out.cell 2); clear hk hl; clear hS hHeld; go_simp⟩) hHeld ?_
    try simp only [Act.put, List.setIfInBounds_toArray, List.set_cons_zero, List.set_cons_succ, List.getElem_toArray, List.getElem_cons_zero, List.getElem_cons_succ]
    refine wpAnyH_ready (rs := [6]) (by kernel_rfl) (by simp) ?_
    refine AllReadyH.cons rfl (fun K hK => ?_) AllReadyH.nil
    try simp only [Act.put, List.setIfInBounds_toArray, List.set_cons_zero, List.set_cons_succ, List.getElem_toArray, List.getElem_cons_zero, List.getElem_cons_succ]
    go_simp
    go_at_call 17
    refine (spotR h2 _).mono ?_
    rintro e W2 ⟨rfl, hb⟩
    refine hK.out _ _ (Below.step hHeld hb) (fun hHeld2 => ?_)
    clear hK K hHeld
    have hHeld := hHeld2
    clear hHeld2
    try simp only [Act.put, List.setIfInBounds_toArray, List.set_cons_zero, List.set_cons_succ, List.getElem_toArray, List.getElem_cons_zero, List.getElem_cons_succ]
    clear hb
    refine wpAnyH_take (i := 7) (v := .bool false) rfl (by kernel_rfl) (by kernel_rfl) (by kernel_rfl) (fun _ _ _ h => h) (Or.inl ⟨by rfl, fun W hS => by clear hS hHeld; go_simp⟩) hHeld ?_
    try simp only [Act.put, List.setIfInBounds_toArray, List.set_cons_zero, List.set_cons_succ, List.getElem_toArray, List.getElem_cons_zero, List.getElem_cons_succ]
    refine wpAnyH_take (i := 8) (v := .bool false) rfl (by kernel_rfl) (by kernel_rfl) (by kernel_rfl) (fun _ _ _ h => h) (Or.inl ⟨by rfl, fun W hS => by clear hS hHeld; go_simp⟩) hHeld ?_
    try simp only [Act.put, List.setIfInBounds_toArray, List.set_cons_zero, List.set_cons_succ, List.getElem_toArray, List.getElem_cons_zero, List.getElem_cons_succ]
    refine wpAnyH_take (i := 9) (v := .agg #[.int .u64 a1, .int .u64 a2, .int .i64 a3]) rfl (by kernel_rfl) (by kernel_rfl) (by kernel_rfl) (fun _ _ _ h => h) (Or.inl ⟨by rfl, fun W hS => by have hl := HA.out.lt; have hk : ∀ j, W.cell? ⟨w.heap.size, j, none⟩ = w2.cell? ⟨w.heap.size, j, none⟩ := fun j => Below.cell hS hl; have z0 : W.cell? ⟨w.heap.size, 0, none⟩ = some (.int .u64 a1) := (hk 0).trans (HA.out.cell 0); have z1 : W.cell? ⟨w.heap.size, 1, none⟩ = some (.int .u64 a2) := (hk 1).trans (HA.out.cell 1); have z2 : W.cell? ⟨w.heap.size, 2, none⟩ = some (.int .i64 a3) := (hk 2).trans (HA.out.cell 2); clear hk hl; clear hS hHeld; go_simp⟩) hHeld ?_
    try simp only [Act.put, List.setIfInBounds_toArray, List.set_cons_zero, List.set_cons_succ, List.getElem_toArray, List.getElem_cons_zero, List.getElem_cons_succ]
    refine wpAnyH_take (i := 10) (v := .agg #[.int .u64 b1, .int .u64 b2, .int .i64 b3]) rfl (by kernel_rfl) (by kernel_rfl) (by kernel_rfl) (fun _ _ _ h => h) (Or.inl ⟨by rfl, fun W hS => by have hl := HB.out.lt; have hk : ∀ j, W.cell? ⟨gb, j, none⟩ = w2.cell? ⟨gb, j, none⟩ := fun j => Below.cell hS hl; have z0 : W.cell? ⟨gb, 0, none⟩ = some (.int .u64 b1) := (hk 0).trans (HB.out.cell 0); have z1 : W.cell? ⟨gb, 1, none⟩ = some (.int .u64 b2) := (hk 1).trans (HB.out.cell 1); have z2 : W.cell? ⟨gb, 2, none⟩ = some (.int .i64 b3) := (hk 2).trans (HB.out.cell 2); clear hk hl; clear hS hHeld; go_simp⟩) hHeld ?_
    try simp only [Act.put, List.setIfInBounds_toArray, List.set_cons_zero, List.set_cons_succ, List.getElem_toArray, List.getElem_cons_zero, List.getElem_cons_succ]
    refine wpAnyH_take (i := 17) (v := .agg #[.int .u64 a1, .int .u64 a2, .int .i64 a3]) rfl (by kernel_rfl) (by kernel_rfl) (by kernel_rfl) (fun _ _ _ h => h) (Or.inl ⟨by rfl, fun W hS => by have hl := HA.out.lt; have hk : ∀ j, W.cell? ⟨w.heap.size, j, none⟩ = w2.cell? ⟨w.heap.size, j, none⟩ := fun j => Below.cell hS hl; have z0 : W.cell? ⟨w.heap.size, 0, none⟩ = some (.int .u64 a1) := (hk 0).trans (HA.out.cell 0); have z1 : W.cell? ⟨w.heap.size, 1, none⟩ = some (.int .u64 a2) := (hk 1).trans (HA.out.cell 1); have z2 : W.cell? ⟨w.heap.size, 2, none⟩ = some (.int .i64 a3) := (hk 2).trans (HA.out.cell 2); clear hk hl; clear hS hHeld; go_simp⟩) hHeld ?_
    try simp only [Act.put, List.setIfInBounds_toArray, List.set_cons_zero, List.set_cons_succ, List.getElem_toArray, List.getElem_cons_zero, List.getElem_cons_succ]
    refine wpAnyH_take (i := 18) (v := .agg #[.int .u64 b1, .int .u64 b2, .int .i64 b3]) rfl (by kernel_rfl) (by kernel_rfl) (by kernel_rfl) (fun _ _ _ h => h) (Or.inl ⟨by rfl, fun W hS => by have hl := HB.out.lt; have hk : ∀ j, W.cell? ⟨gb, j, none⟩ = w2.cell? ⟨gb, j, none⟩ := fun j => Below.cell hS hl; have z0 : W.cell? ⟨gb, 0, none⟩ = some (.int .u64 b1) := (hk 0).trans (HB.out.cell 0); have z1 : W.cell? ⟨gb, 1, none⟩ = some (.int .u64 b2) := (hk 1).trans (HB.out.cell 1); have z2 : W.cell? ⟨gb, 2, none⟩ = some (.int .i64 b3) := (hk 2).trans (HB.out.cell 2); clear hk hl; clear hS hHeld; go_simp⟩) hHeld ?_
    try simp only [Act.put, List.setIfInBounds_toArray, List.set_cons_zero, List.set_cons_succ, List.getElem_toArray, List.getElem_cons_zero, List.getElem_cons_succ]
    refine wpAnyH_take (i := 19) (v := .bool false) rfl (by kernel_rfl) (by kernel_rfl) (by kernel_rfl) (fun _ _ _ h => h) (Or.inl ⟨by rfl, fun W hS => by clear hS hHeld; go_simp⟩) hHeld ?_
    try simp only [Act.put, List.setIfInBounds_toArray, List.set_cons_zero, List.set_cons_succ, List.getElem_toArray, List.getElem_cons_zero, List.getElem_cons_succ]
    refine wpAnyH_ready (rs := [11]) (by kernel_rfl) (by simp) ?_
    refine AllReadyH.cons rfl (fun K hK => ?_) AllReadyH.nil
    try simp only [Act.put, List.setIfInBounds_toArray, List.set_cons_zero, List.set_cons_succ, List.getElem_toArray, List.getElem_cons_zero, List.getElem_cons_succ]
    go_simp
    go_at_call 17
    refine (spotR h1 _).mono ?_
    rintro e W3 ⟨rfl, hb⟩
    refine hK.out _ _ (Below.step hHeld hb) (fun hHeld2 => ?_)
    clear hK K hHeld
    have hHeld := hHeld2
    clear hHeld2
    try simp only [Act.put, List.setIfInBounds_toArray, List.set_cons_zero, List.set_cons_succ, List.getElem_toArray, List.getElem_cons_zero, List.getElem_cons_succ]
    clear hb
    refine wpAnyH_take (i := 12) (v := .bool true) rfl (by kernel_rfl) (by kernel_rfl) (by kernel_rfl) (fun _ _ _ h => h) (Or.inl ⟨by rfl, fun W hS => by clear hS hHeld; go_simp⟩) hHeld ?_
    try simp only [Act.put, List.setIfInBounds_toArray, List.set_cons_zero, List.set_cons_succ, List.getElem_toArray, List.getElem_cons_zero, List.getElem_cons_succ]
    refine wpAnyH_take (i := 13) (v := undef) rfl (by kernel_rfl) (by kernel_rfl) (by kernel_rfl) (fun _ _ _ h => h) (Or.inr ⟨by rfl, rfl⟩) hHeld ?_
    try simp only [Act.put, List.setIfInBounds_toArray, List.set_cons_zero, List.set_cons_succ, List.getElem_toArray, List.getElem_cons_zero, List.getElem_cons_succ]
    refine wpAnyH_take (i := 14) (v := undef) rfl (by kernel_rfl) (by kernel_rfl) (by kernel_rfl) (fun _ _ _ h => h) (Or.inr ⟨by rfl, rfl⟩) hHeld ?_
    try simp only [Act.put, List.setIfInBounds_toArray, List.set_cons_zero, List.set_cons_succ, List.getElem_toArray, List.getElem_cons_zero, List.getElem_cons_succ]
    refine wpAnyH_take (i := 15) (v := undef) rfl (by kernel_rfl) (by kernel_rfl) (by kernel_rfl) (fun _ _ _ h => h) (Or.inr ⟨by rfl, rfl⟩) hHeld ?_
    try simp only [Act.put, List.setIfInBounds_toArray, List.set_cons_zero, List.set_cons_succ, List.getElem_toArray, List.getElem_cons_zero, List.getElem_cons_succ]
    refine wpAnyH_take (i := 16) (v := .bool true) rfl (by kernel_rfl) (by kernel_rfl) (by kernel_rfl) (fun _ _ _ h => h) (Or.inl ⟨by rfl, fun W hS => by clear hS hHeld; go_simp⟩) hHeld ?_
    try simp only [Act.put, List.setIfInBounds_toArray, List.set_cons_zero, List.set_cons_succ, List.getElem_toArray, List.getElem_cons_zero, List.getElem_cons_succ]
    refine wpAnyH_take (i := 20) (v := .bool false) rfl (by kernel_rfl) (by kernel_rfl) (by kernel_rfl) (fun _ _ _ h => h) (Or.inl ⟨by rfl, fun W hS => by clear hS hHeld; go_simp⟩) hHeld ?_
    try simp only [Act.put, List.setIfInBounds_toArray, List.set_cons_zero, List.set_cons_succ, List.getElem_toArray, List.getElem_cons_zero, List.getElem_cons_succ]
    refine wpAnyH_take (i := 21) (v := .bool false) rfl (by kernel_rfl) (by kernel_rfl) (by kernel_rfl) (fun _ _ _ h => h) (Or.inl ⟨by rfl, fun W hS => by clear hS hHeld; go_simp⟩) hHeld ?_
    try simp only [Act.put, List.setIfInBounds_toArray, List.set_cons_zero, List.set_cons_succ, List.getElem_toArray, List.getElem_cons_zero, List.getElem_cons_succ]
    refine wpAnyH_take (i := 22) (v := .bool false) rfl (by kernel_rfl) (by kernel_rfl) (by kernel_rfl) (fun _ _ _ h => h) (Or.inl ⟨by rfl, fun W hS => by clear hS hHeld; go_simp⟩) hHeld ?_
    try simp only [Act.put, List.setIfInBounds_toArray, List.set_cons_zero, List.set_cons_succ, List.getElem_toArray, List.getElem_cons_zero, List.getElem_cons_succ]
    refine wpAnyH_take (i := 23) (v := .agg #[.int .u64 a1, .int .u64 a2, .int .i64 a3]) rfl (by kernel_rfl) (by kernel_rfl) (by kernel_rfl) (fun _ _ _ h => h) (Or.inl ⟨by rfl, fun W hS => by have hl := HA.out.lt; have hk : ∀ j, W.cell? ⟨w.heap.size, j, none⟩ = w2.cell? ⟨w.heap.size, j, none⟩ := fun j => Below.cell hS hl; have z0 : W.cell? ⟨w.heap.size, 0, none⟩ = some (.int .u64 a1) := (hk 0).trans (HA.out.cell 0); have z1 : W.cell? ⟨w.heap.size, 1, none⟩ = some (.int .u64 a2) := (hk 1).trans (HA.out.cell 1); have z2 : W.cell? ⟨w.heap.size, 2, none⟩ = some (.int .i64 a3) := (hk 2).trans (HA.out.cell 2); clear hk hl; clear hS hHeld; go_simp⟩) hHeld ?_
    try simp only [Act.put, List.setIfInBounds_toArray, List.set_cons_zero, List.set_cons_succ, List.getElem_toArray, List.getElem_cons_zero, List.getElem_cons_succ]
    refine wpAnyH_take (i := 24) (v := .agg #[.int .u64 b1, .int .u64 b2, .int .i64 b3]) rfl (by kernel_rfl) (by kernel_rfl) (by kernel_rfl) (fun _ _ _ h => h) (Or.inl ⟨by rfl, fun W hS => by have hl := HB.out.lt; have hk : ∀ j, W.cell? ⟨gb, j, none⟩ = w2.cell? ⟨gb, j, none⟩ := fun j => Below.cell hS hl; have z0 : W.cell? ⟨gb, 0, none⟩ = some (.int .u64 b1) := (hk 0).trans (HB.out.cell 0); have z1 : W.cell? ⟨gb, 1, none⟩ = some (.int .u64 b2) := (hk 1).trans (HB.out.cell 1); have z2 : W.cell? ⟨gb, 2, none⟩ = some (.int .i64 b3) := (hk 2).trans (HB.out.cell 2); clear hk hl; clear hS hHeld; go_simp⟩) hHeld ?_
    try simp only [Act.put, List.setIfInBounds_toArray, List.set_cons_zero, List.set_cons_succ, List.getElem_toArray, List.getElem_cons_zero, List.getElem_cons_succ]
    refine wpAnyH_ready (rs := [25]) (by kernel_rfl) (by simp) ?_
    refine AllReadyH.cons rfl (fun K hK => ?_) AllReadyH.nil
    try simp only [Act.put, List.setIfInBounds_toArray, List.set_cons_zero, List.set_cons_succ, List.getElem_toArray, List.getElem_cons_zero, List.getElem_cons_succ]
    go_simp
    go_at_call 17
    refine (spotR h1 _).mono ?_
    rintro e W4 ⟨rfl, hb⟩
    refine hK.out _ _ (Below.step hHeld hb) (fun hHeld2 => ?_)
    clear hK K hHeld
    have hHeld := hHeld2
    clear hHeld2
    try simp only [Act.put, List.setIfInBounds_toArray, List.set_cons_zero, List.set_cons_succ, List.getElem_toArray, List.getElem_cons_zero, List.getElem_cons_succ]
    clear hb
    refine wpAnyH_take (i := 26) (v := .bool true) rfl (by kernel_rfl) (by kernel_rfl) (by kernel_rfl) (fun _ _ _ h => h) (Or.inl ⟨by rfl, fun W hS => by clear hS hHeld; go_simp⟩) hHeld ?_
    try simp only [Act.put, List.setIfInBounds_toArray, List.set_cons_zero, List.set_cons_succ, List.getElem_toArray, List.getElem_cons_zero, List.getElem_cons_succ]
    refine wpAnyH_take (i := 27) (v := .agg #[.int .u64 b1, .int .u64 b2, .int .i64 b3]) rfl (by kernel_rfl) (by kernel_rfl) (by kernel_rfl) (fun _ _ _ h => h) (Or.inl ⟨by rfl, fun W hS => by have hl := HB.out.lt; have hk : ∀ j, W.cell? ⟨gb, j, none⟩ = w2.cell? ⟨gb, j, none⟩ := fun j => Below.cell hS hl; have z0 : W.cell? ⟨gb, 0, none⟩ = some (.int .u64 b1) := (hk 0).trans (HB.out.cell 0); have z1 : W.cell? ⟨gb, 1, none⟩ = some (.int .u64 b2) := (hk 1).trans (HB.out.cell 1); have z2 : W.cell? ⟨gb, 2, none⟩ = some (.int .i64 b3) := (hk 2).trans (HB.out.cell 2); clear hk hl; clear hS hHeld; go_simp⟩) hHeld ?_
    try simp only [Act.put, List.setIfInBounds_toArray, List.set_cons_zero, List.set_cons_succ, List.getElem_toArray, List.getElem_cons_zero, List.getElem_cons_succ]
    refine wpAnyH_take (i := 28) (v := .agg #[.int .u64 c1, .int .u64 c2, .int .i64 c3]) rfl (by kernel_rfl) (by kernel_rfl) (by kernel_rfl) (fun _ _ _ h => h) (Or.inl ⟨by rfl, fun W hS => by have hl := HC.out.lt; have hk : ∀ j, W.cell? ⟨gc, j, none⟩ = w2.cell? ⟨gc, j, none⟩ := fun j => Below.cell hS hl; have z0 : W.cell? ⟨gc, 0, none⟩ = some (.int .u64 c1) := (hk 0).trans (HC.out.cell 0); have z1 : W.cell? ⟨gc, 1, none⟩ = some (.int .u64 c2) := (hk 1).trans (HC.out.cell 1); have z2 : W.cell? ⟨gc, 2, none⟩ = some (.int .i64 c3) := (hk 2).trans (HC.out.cell 2); clear hk hl; clear hS hHeld; go_simp⟩) hHeld ?_
    try simp only [Act.put, List.setIfInBounds_toArray, List.set_cons_zero, List.set_cons_succ, List.getElem_toArray, List.getElem_cons_zero, List.getElem_cons_succ]
    refine wpAnyH_ready (rs := [29]) (by kernel_rfl) (by simp) ?_
    refine AllReadyH.cons rfl (fun K hK => ?_) AllReadyH.nil
    try simp only [Act.put, List.setIfInBounds_toArray, List.set_cons_zero, List.set_cons_succ, List.getElem_toArray, List.getElem_cons_zero, List.getElem_cons_succ]
    go_simp
    go_at_call 17
    refine (spotR h3 _).mono ?_
    rintro e W5 ⟨rfl, hb⟩
    refine hK.out _ _ (Below.step hHeld hb) (fun hHeld2 => ?_)
    clear hK K hHeld
    have hHeld := hHeld2
    clear hHeld2
    try simp only [Act.put, List.setIfInBounds_toArray, List.set_cons_zero, List.set_cons_succ, List.getElem_toArray, List.getElem_cons_zero, List.getElem_cons_succ]
    clear hb
    refine wpAnyH_take (i := 30) (v := .bool false) rfl (by kernel_rfl) (by kernel_rfl) (by kernel_rfl) (fun _ _ _ h => h) (Or.inl ⟨by rfl, fun W hS => by clear hS hHeld; go_simp⟩) hHeld ?_
    try simp only [Act.put, List.setIfInBounds_toArray, List.set_cons_zero, List.set_cons_succ, List.getElem_toArray, List.getElem_cons_zero, List.getElem_cons_succ]
    refine wpAnyH_take (i := 31) (v := .bool false) rfl (by kernel_rfl) (by kernel_rfl) (by kernel_rfl) (fun _ _ _ h => h) (Or.inl ⟨by rfl, fun W hS => by clear hS hHeld; go_simp⟩) hHeld ?_
    try simp only [Act.put, List.setIfInBounds_toArray, List.set_cons_zero, List.set_cons_succ, List.getElem_toArray, List.getElem_cons_zero, List.getElem_cons_succ]
    refine wpAnyH_take (i := 32) (v := undef) rfl (by kernel_rfl) (by kernel_rfl) (by kernel_rfl) (fun _ _ _ h => h) (Or.inr ⟨by rfl, rfl⟩) hHeld ?_
    try simp only [Act.put, List.setIfInBounds_toArray, List.set_cons_zero, List.set_cons_succ, List.getElem_toArray, List.getElem_cons_zero, List.getElem_cons_succ]
    refine wpAnyH_take (i := 33) (v := undef) rfl (by kernel_rfl) (by kernel_rfl) (by kernel_rfl) (fun _ _ _ h => h) (Or.inr ⟨by rfl, rfl⟩) hHeld ?_
    try simp only [Act.put, List.setIfInBounds_toArray, List.set_cons_zero, List.set_cons_succ, List.getElem_toArray, List.getElem_cons_zero, List.getElem_cons_succ]
    refine wpAnyH_take (i := 34) (v := undef) rfl (by kernel_rfl) (by kernel_rfl) (by kernel_rfl) (fun _ _ _ h => h) (Or.inr ⟨by rfl, rfl⟩) hHeld ?_
    try simp only [Act.put, List.setIfInBounds_toArray, List.set_cons_zero, List.set_cons_succ, List.getElem_toArray, List.getElem_cons_zero, List.getElem_cons_succ]
    refine wpAnyH_take (i := 35) (v := undef) rfl (by kernel_rfl) (by kernel_rfl) (by kernel_rfl) (fun _ _ _ h => h) (Or.inr ⟨by rfl, rfl⟩) hHeld ?_
    try simp only [Act.put, List.setIfInBounds_toArray, List.set_cons_zero, List.set_cons_succ, List.getElem_toArray, List.getElem_cons_zero, List.getElem_cons_succ]
    refine wpAnyH_take (i := 36) (v := .bool false) rfl (by kernel_rfl) (by kernel_rfl) (by kernel_rfl) (fun _ _ _ h => h) (Or.inl ⟨by rfl, fun W hS => by clear hS hHeld; go_simp⟩) hHeld ?_
    try simp only [Act.put, List.setIfInBounds_toArray, List.set_cons_zero, List.set_cons_succ, List.getElem_toArray, List.getElem_cons_zero, List.getElem_cons_succ]
    refine wpAnyH_take (i := 37) (v := .bool false) rfl (by kernel_rfl) (by kernel_rfl) (by kernel_rfl) (fun _ _ _ h => h) (Or.inl ⟨by rfl, fun W hS => by clear hS hHeld; go_simp⟩) hHeld ?_
    try simp only [Act.put, List.setIfInBounds_toArray, List.set_cons_zero, List.set_cons_succ, List.getElem_toArray, List.getElem_cons_zero, List.getElem_cons_succ]
    exact wpAnyH_listed (by kernel_rfl) (htail (_, _, _, _, _, _, _, _, _, _, _, _, _, _, _, _, _, _, _, _, _, _, _, _, _, _, _, _, _, _, _, _, _, _, _, _, _) _ hHeld trivial)
  · have he := run_eql_spot a1 a2 a3 b1 b2 b3 (spot_other hne)
    clear hne
    refine wpAnyH_take (i := 0) (v := .agg #[.int .u64 a1, .int .u64 a2, .int .i64 a3]) rfl (by kernel_rfl) (by kernel_rfl) (by kernel_rfl) (fun _ _ _ h => h) (Or.inl ⟨by rfl, fun W hS => by have hl := HA.out.lt; have hk : ∀ j, W.cell? ⟨w.heap.size, j, none⟩ = w2.cell? ⟨w.heap.size, j, none⟩ := fun j => Below.cell hS hl; have z0 : W.cell? ⟨w.heap.size, 0, none⟩ = some (.int .u64 a1) := (hk 0).trans (HA.out.cell 0); have z1 : W.cell? ⟨w.heap.size, 1, none⟩ = some (.int .u64 a2) := (hk 1).trans (HA.out.cell 1); have z2 : W.cell? ⟨w.heap.size, 2, none⟩ = some (.int .i64 a3) := (hk 2).trans (HA.out.cell 2); clear hk hl; clear hS hHeld; go_simp⟩) hHeld ?_
    try simp only [Act.put, List.setIfInBounds_toArray, List.set_cons_zero, List.set_cons_succ, List.getElem_toArray, List.getElem_cons_zero, List.getElem_cons_succ]
    refine wpAnyH_take (i := 1) (v := .agg #[.int .u64 b1, .int .u64 b2, .int .i64 b3]) rfl (by kernel_rfl) (by kernel_rfl) (by kernel_rfl) (fun _ _ _ h => h) (Or.inl ⟨by rfl, fun W hS => by have hl := HB.out.lt; have hk : ∀ j, W.cell? ⟨gb, j, none⟩ = w2.cell? ⟨gb, j, none⟩ := fun j => Below.cell hS hl; have z0 : W.cell? ⟨gb, 0, none⟩ = some (.int .u64 b1) := (hk 0).trans (HB.out.cell 0); have z1 : W.cell? ⟨gb, 1, none⟩ = some (.int .u64 b2) := (hk 1).trans (HB.out.cell 1); have z2 : W.cell? ⟨gb, 2, none⟩ = some (.int .i64 b3) := (hk 2).trans (HB.out.cell 2); clear hk hl; clear hS hHeld; go_simp⟩) hHeld ?_
    try simp only [Act.put, List.setIfInBounds_toArray, List.set_cons_zero, List.set_cons_succ, List.getElem_toArray, List.getElem_cons_zero, List.getElem_cons_succ]
    refine wpAnyH_ready (rs := [2]) (by kernel_rfl) (by simp) ?_
    refine AllReadyH.cons rfl (fun K hK => ?_) AllReadyH.nil
    try simp only [Act.put, List.setIfInBounds_toArray, List.set_cons_zero, List.set_cons_succ, List.getElem_toArray, List.getElem_cons_zero, List.getElem_cons_succ]
    go_simp
    go_at_call 17
    refine (spotR h1 _).mono ?_
    rintro e W1 ⟨rfl, hb⟩
    refine hK.out _ _ (Below.step hHeld hb) (fun hHeld2 => ?_)
    clear hK K hHeld
    have hHeld := hHeld2
    clear hHeld2
    try simp only [Act.put, List.setIfInBounds_toArray, List.set_cons_zero, List.set_cons_succ, List.getElem_toArray, List.getElem_cons_zero, List.getElem_cons_succ]
    clear hb
    refine wpAnyH_take (i := 3) (v := .bool false) rfl (by kernel_rfl) (by kernel_rfl) (by kernel_rfl) (fun _ _ _ h => h) (Or.inl ⟨by rfl, fun W hS => by clear hS hHeld; go_simp⟩) hHeld ?_
    try simp only [Act.put, List.setIfInBounds_toArray, List.set_cons_zero, List.set_cons_succ, List.getElem_toArray, List.getElem_cons_zero, List.getElem_cons_succ]
    refine wpAnyH_take (i := 4) (v := undef) rfl (by kernel_rfl) (by kernel_rfl) (by kernel_rfl) (fun _ _ _ h => h) (Or.inr ⟨by rfl, rfl⟩) hHeld ?_
    try simp only [Act.put, List.setIfInBounds_toArray, List.set_cons_zero, List.set_cons_succ, List.getElem_toArray, List.getElem_cons_zero, List.getElem_cons_succ]
    refine wpAnyH_take (i := 5) (v := undef) rfl (by kernel_rfl) (by kernel_rfl) (by kernel_rfl) (fun _ _ _ h => h) (Or.inr ⟨by rfl, rfl⟩) hHeld ?_
    try simp only [Act.put, List.setIfInBounds_toArray, List.set_cons_zero, List.set_cons_succ, List.getElem_toArray, List.getElem_cons_zero, List.getElem_cons_succ]
    refine wpAnyH_take (i := 6) (v := undef) rfl (by kernel_rfl) (by kernel_rfl) (by kernel_rfl) (fun _ _ _ h => h) (Or.inr ⟨by rfl, rfl⟩) hHeld ?_
    try simp only [Act.put, List.setIfInBounds_toArray, List.set_cons_zero, List.set_cons_succ, List.getElem_toArray, List.getElem_cons_zero, List.getElem_cons_succ]
    refine wpAnyH_take (i := 7) (v := .bool false) rfl (by kernel_rfl) (by kernel_rfl) (by kernel_rfl) (fun _ _ _ h => h) (Or.inl ⟨by rfl, fun W hS => by clear hS hHeld; go_simp⟩) hHeld ?_
    try simp only [Act.put, List.setIfInBounds_toArray, List.set_cons_zero, List.set_cons_succ, List.getElem_toArray, List.getElem_cons_zero, List.getElem_cons_succ]
    refine wpAnyH_take (i := 8) (v := .bool false) rfl (by kernel_rfl) (by kernel_rfl) (by kernel_rfl) (fun _ _ _ h => h) (Or.inl ⟨by rfl, fun W hS => by clear hS hHeld; go_simp⟩) hHeld ?_
    try simp only [Act.put, List.setIfInBounds_toArray, List.set_cons_zero, List.set_cons_succ, List.getElem_toArray, List.getElem_cons_zero, List.getElem_cons_succ]
    refine wpAnyH_take (i := 9) (v := .agg #[.int .u64 a1, .int .u64 a2, .int .i64 a3]) rfl (by kernel_rfl) (by kernel_rfl) (by kernel_rfl) (fun _ _ _ h => h) (Or.inl ⟨by rfl, fun W hS => by have hl := HA.out.lt; have hk : ∀ j, W.cell? ⟨w.heap.size, j, none⟩ = w2.cell? ⟨w.heap.size, j, none⟩ := fun j => Below.cell hS hl; have z0 : W.cell? ⟨w.heap.size, 0, none⟩ = some (.int .u64 a1) := (hk 0).trans (HA.out.cell 0); have z1 : W.cell? ⟨w.heap.size, 1, none⟩ = some (.int .u64 a2) := (hk 1).trans (HA.out.cell 1); have z2 : W.cell? ⟨w.heap.size, 2, none⟩ = some (.int .i64 a3) := (hk 2).trans (HA.out.cell 2); clear hk hl; clear hS hHeld; go_simp⟩) hHeld ?_
    try simp only [Act.put, List.setIfInBounds_toArray, List.set_cons_zero, List.set_cons_succ, List.getElem_toArray, List.getElem_cons_zero, List.getElem_cons_succ]
    refine wpAnyH_take (i := 10) (v := .agg #[.int .u64 b1, .int .u64 b2, .int .i64 b3]) rfl (by kernel_rfl) (by kernel_rfl) (by kernel_rfl) (fun _ _ _ h => h) (Or.inl ⟨by rfl, fun W hS => by have hl := HB.out.lt; have hk : ∀ j, W.cell? ⟨gb, j, none⟩ = w2.cell? ⟨gb, j, none⟩ := fun j => Below.cell hS hl; have z0 : W.cell? ⟨gb, 0, none⟩ = some (.int .u64 b1) := (hk 0).trans (HB.out.cell 0); have z1 : W.cell? ⟨gb, 1, none⟩ = some (.int .u64 b2) := (hk 1).trans (HB.out.cell 1); have z2 : W.cell? ⟨gb, 2, none⟩ = some (.int .i64 b3) := (hk 2).trans (HB.out.cell 2); clear hk hl; clear hS hHeld; go_simp⟩) hHeld ?_
    try simp only [Act.put, List.setIfInBounds_toArray, List.set_cons_zero, List.set_cons_succ, List.getElem_toArray, List.getElem_cons_zero, List.getElem_cons_succ]
    refine wpAnyH_take (i := 17) (v := .agg #[.int .u64 a1, .int .u64 a2, .int .i64 a3]) rfl (by kernel_rfl) (by kernel_rfl) (by kernel_rfl) (fun _ _ _ h => h) (Or.inl ⟨by rfl, fun W hS => by have hl := HA.out.lt; have hk : ∀ j, W.cell? ⟨w.heap.size, j, none⟩ = w2.cell? ⟨w.heap.size, j, none⟩ := fun j => Below.cell hS hl; have z0 : W.cell? ⟨w.heap.size, 0, none⟩ = some (.int .u64 a1) := (hk 0).trans (HA.out.cell 0); have z1 : W.cell? ⟨w.heap.size, 1, none⟩ = some (.int .u64 a2) := (hk 1).trans (HA.out.cell 1); have z2 : W.cell? ⟨w.heap.size, 2, none⟩ = some (.int .i64 a3) := (hk 2).trans (HA.out.cell 2); clear hk hl; clear hS hHeld; go_simp⟩) hHeld ?_
    try simp only [Act.put, List.setIfInBounds_toArray, List.set_cons_zero, List.set_cons_succ, List.getElem_toArray, List.getElem_cons_zero, List.getElem_cons_succ]
    refine wpAnyH_take (i := 18) (v := .agg #[.int .u64 b1, .int .u64 b2, .int .i64 b3]) rfl (by kernel_rfl) (by kernel_rfl) (by kernel_rfl) (fun _ _ _ h => h) (Or.inl ⟨by rfl, fun W hS => by have hl := HB.out.lt; have hk : ∀ j, W.cell? ⟨gb, j, none⟩ = w2.cell? ⟨gb, j, none⟩ := fun j => Below.cell hS hl; have z0 : W.cell? ⟨gb, 0, none⟩ = some (.int .u64 b1) := (hk 0).trans (HB.out.cell 0); have z1 : W.cell? ⟨gb, 1, none⟩ = some (.int .u64 b2) := (hk 1).trans (HB.out.cell 1); have z2 : W.cell? ⟨gb, 2, none⟩ = some (.int .i64 b3) := (hk 2).trans (HB.out.cell 2); clear hk hl; clear hS hHeld; go_simp⟩) hHeld ?_
    try simp only [Act.put, List.setIfInBounds_toArray, List.set_cons_zero, List.set_cons_succ, List.getElem_toArray, List.getElem_cons_zero, List.getElem_cons_succ]
    refine wpAnyH_take (i := 19) (v := .bool false) rfl (by kernel_rfl) (by kernel_rfl) (by kernel_rfl) (fun _ _ _ h => h) (Or.inl ⟨by rfl, fun W hS => by clear hS hHeld; go_simp⟩) hHeld ?_
    try simp only [Act.put, List.setIfInBounds_toArray, List.set_cons_zero, List.set_cons_succ, List.getElem_toArray, List.getElem_cons_zero, List.getElem_cons_succ]
    refine wpAnyH_ready (rs := [11]) (by kernel_rfl) (by simp) ?_
    refine AllReadyH.cons rfl (fun K hK => ?_) AllReadyH.nil
    try simp only [Act.put, List.setIfInBounds_toArray, List.set_cons_zero, List.set_cons_succ, List.getElem_toArray, List.getElem_cons_zero, List.getElem_cons_succ]
    go_simp
    go_at_call 17
    refine (spotR h1 _).mono ?_
    rintro e W2 ⟨rfl, hb⟩
    refine hK.out _ _ (Below.step hHeld hb) (fun hHeld2 => ?_)
    clear hK K hHeld
    have hHeld := hHeld2
    clear hHeld2
    try simp only [Act.put, List.setIfInBounds_toArray, List.set_cons_zero, List.set_cons_succ, List.getElem_toArray, List.getElem_cons_zero, List.getElem_cons_succ]
    clear hb
    refine wpAnyH_take (i := 12) (v := .bool false) rfl (by kernel_rfl) (by kernel_rfl) (by kernel_rfl) (fun _ _ _ h => h) (Or.inl ⟨by rfl, fun W hS => by clear hS hHeld; go_simp⟩) hHeld ?_
    try simp only [Act.put, List.setIfInBounds_toArray, List.set_cons_zero, List.set_cons_succ, List.getElem_toArray, List.getElem_cons_zero, List.getElem_cons_succ]
    refine wpAnyH_take (i := 13) (v := .agg #[.int .u64 b1, .int .u64 b2, .int .i64 b3]) rfl (by kernel_rfl) (by kernel_rfl) (by kernel_rfl) (fun _ _ _ h => h) (Or.inl ⟨by rfl, fun W hS => by have hl := HB.out.lt; have hk : ∀ j, W.cell? ⟨gb, j, none⟩ = w2.cell? ⟨gb, j, none⟩ := fun j => Below.cell hS hl; have z0 : W.cell? ⟨gb, 0, none⟩ = some (.int .u64 b1) := (hk 0).trans (HB.out.cell 0); have z1 : W.cell? ⟨gb, 1, none⟩ = some (.int .u64 b2) := (hk 1).trans (HB.out.cell 1); have z2 : W.cell? ⟨gb, 2, none⟩ = some (.int .i64 b3) := (hk 2).trans (HB.out.cell 2); clear hk hl; clear hS hHeld; go_simp⟩) hHeld ?_
    try simp only [Act.put, List.setIfInBounds_toArray, List.set_cons_zero, List.set_cons_succ, List.getElem_toArray, List.getElem_cons_zero, List.getElem_cons_succ]
    refine wpAnyH_take (i := 14) (v := .agg #[.int .u64 a1, .int .u64 a2, .int .i64 a3]) rfl (by kernel_rfl) (by kernel_rfl) (by kernel_rfl) (fun _ _ _ h => h) (Or.inl ⟨by rfl, fun W hS => by have hl := HA.out.lt; have hk : ∀ j, W.cell? ⟨w.heap.size, j, none⟩ = w2.cell? ⟨w.heap.size, j, none⟩ := fun j => Below.cell hS hl; have z0 : W.cell? ⟨w.heap.size, 0, none⟩ = some (.int .u64 a1) := (hk 0).trans (HA.out.cell 0); have z1 : W.cell? ⟨w.heap.size, 1, none⟩ = some (.int .u64 a2) := (hk 1).trans (HA.out.cell 1); have z2 : W.cell? ⟨w.heap.size, 2, none⟩ = some (.int .i64 a3) := (hk 2).trans (HA.out.cell 2); clear hk hl; clear hS hHeld; go_simp⟩) hHeld ?_
    try simp only [Act.put, List.setIfInBounds_toArray, List.set_cons_zero, List.set_cons_succ, List.getElem_toArray, List.getElem_cons_zero, List.getElem_cons_succ]
    refine wpAnyH_ready (rs := [15]) (by kernel_rfl) (by simp) ?_
    refine AllReadyH.cons rfl (fun K hK => ?_) AllReadyH.nil
    try simp only [Act.put, List.setIfInBounds_toArray, List.set_cons_zero, List.set_cons_succ, List.getElem_toArray, List.getElem_cons_zero, List.getElem_cons_succ]
    go_simp
    go_at_call 17
    refine (spotR h2 _).mono ?_
    rintro e W3 ⟨rfl, hb⟩
    refine hK.out _ _ (Below.step hHeld hb) (fun hHeld2 => ?_)
    clear hK K hHeld
    have hHeld := hHeld2
    clear hHeld2
    try simp only [Act.put, List.setIfInBounds_toArray, List.set_cons_zero, List.set_cons_succ, List.getElem_toArray, List.getElem_cons_zero, List.getElem_cons_succ]
    clear hb
    refine wpAnyH_take (i := 16) (v := .bool true) rfl (by kernel_rfl) (by kernel_rfl) (by kernel_rfl) (fun _ _ _ h => h) (Or.inl ⟨by rfl, fun W hS => by clear hS hHeld; go_simp⟩) hHeld ?_
    try simp only [Act.put, List.setIfInBounds_toArray, List.set_cons_zero, List.set_cons_succ, List.getElem_toArray, List.getElem_cons_zero, List.getElem_cons_succ]
    refine wpAnyH_take (i := 20) (v := .bool false) rfl (by kernel_rfl) (by kernel_rfl) (by kernel_rfl) (fun _ _ _ h => h) (Or.inl ⟨by rfl, fun W hS => by clear hS hHeld; go_simp⟩) hHeld ?_
    try simp only [Act.put, List.setIfInBounds_toArray, List.set_cons_zero, List.set_cons_succ, List.getElem_toArray, List.getElem_cons_zero, List.getElem_cons_succ]
    refine wpAnyH_take (i := 21) (v := .bool false) rfl (by kernel_rfl) (by kernel_rfl) (by kernel_rfl) (fun _ _ _ h => h) (Or.inl ⟨by rfl, fun W hS => by clear hS hHeld; go_simp⟩) hHeld ?_
    try simp only [Act.put, List.setIfInBounds_toArray, List.set_cons_zero, List.set_cons_succ, List.getElem_toArray, List.getElem_cons_zero, List.getElem_cons_succ]
    refine wpAnyH_take (i := 22) (v := .bool false) rfl (by kernel_rfl) (by kernel_rfl) (by kernel_rfl) (fun _ _ _ h => h) (Or.inl ⟨by rfl, fun W hS => by clear hS hHeld; go_simp⟩) hHeld ?_
    try simp only [Act.put, List.setIfInBounds_toArray, List.set_cons_zero, List.set_cons_succ, List.getElem_toArray, List.getElem_cons_zero, List.getElem_cons_succ]
    refine wpAnyH_take (i := 23) (v := .agg #[.int .u64 a1, .int .u64 a2, .int .i64 a3]) rfl (by kernel_rfl) (by kernel_rfl) (by kernel_rfl) (fun _ _ _ h => h) (Or.inl ⟨by rfl, fun W hS => by have hl := HA.out.lt; have hk : ∀ j, W.cell? ⟨w.heap.size, j, none⟩ = w2.cell? ⟨w.heap.size, j, none⟩ := fun j => Below.cell hS hl; have z0 : W.cell? ⟨w.heap.size, 0, none⟩ = some (.int .u64 a1) := (hk 0).trans (HA.out.cell 0); have z1 : W.cell? ⟨w.heap.size, 1, none⟩ = some (.int .u64 a2) := (hk 1).trans (HA.out.cell 1); have z2 : W.cell? ⟨w.heap.size, 2, none⟩ = some (.int .i64 a3) := (hk 2).trans (HA.out.cell 2); clear hk hl; clear hS hHeld; go_simp⟩) hHeld ?_
    try simp only [Act.put, List.setIfInBounds_toArray, List.set_cons_zero, List.set_cons_succ, List.getElem_toArray, List.getElem_cons_zero, List.getElem_cons_succ]
    refine wpAnyH_take (i := 24) (v := .agg #[.int .u64 b1, .int .u64 b2, .int .i64 b3]) rfl (by kernel_rfl) (by kernel_rfl) (by kernel_rfl) (fun _ _ _ h => h) (Or.inl ⟨by rfl, fun W hS => by have hl := HB.out.lt; have hk : ∀ j, W.cell? ⟨gb, j, none⟩ = w2.cell? ⟨gb, j, none⟩ := fun j => Below.cell hS hl; have z0 : W.cell? ⟨gb, 0, none⟩ = some (.int .u64 b1) := (hk 0).trans (HB.out.cell 0); have z1 : W.cell? ⟨gb, 1, none⟩ = some (.int .u64 b2) := (hk 1).trans (HB.out.cell 1); have z2 : W.cell? ⟨gb, 2, none⟩ = some (.int .i64 b3) := (hk 2).trans (HB.out.cell 2); clear hk hl; clear hS hHeld; go_simp⟩) hHeld ?_
    try simp only [Act.put, List.setIfInBounds_toArray, List.set_cons_zero, List.set_cons_succ, List.getElem_toArray, List.getElem_cons_zero, List.getElem_cons_succ]
    refine wpAnyH_ready (rs := [25]) (by kernel_rfl) (by simp) ?_
    refine AllReadyH.cons rfl (fun K hK => ?_) AllReadyH.nil
    try simp only [Act.put, List.setIfInBounds_toArray, List.set_cons_zero, List.set_cons_succ, List.getElem_toArray, List.getElem_cons_zero, List.getElem_cons_succ]
    go_simp
    go_at_call 17
    refine (spotR h1 _).mono ?_
    rintro e W4 ⟨rfl, hb⟩
    refine hK.out _ _ (Below.step hHeld hb) (fun hHeld2 => ?_)
    clear hK K hHeld
    have hHeld := hHeld2
    clear hHeld2
    try simp only [Act.put, List.setIfInBounds_toArray, List.set_cons_zero, List.set_cons_succ, List.getElem_toArray, List.getElem_cons_zero, List.getElem_cons_succ]
    clear hb
    refine wpAnyH_take (i := 26) (v := .bool false) rfl (by kernel_rfl) (by kernel_rfl) (by kernel_rfl) (fun _ _ _ h => h) (Or.inl ⟨by rfl, fun W hS => by clear hS hHeld; go_simp⟩) hHeld ?_
    try simp only [Act.put, List.setIfInBounds_toArray, List.set_cons_zero, List.set_cons_succ, List.getElem_toArray, List.getElem_cons_zero, List.getElem_cons_succ]
    refine wpAnyH_take (i := 27) (v := undef) rfl (by kernel_rfl) (by kernel_rfl) (by kernel_rfl) (fun _ _ _ h => h) (Or.inr ⟨by rfl, rfl⟩) hHeld ?_
    try simp only [Act.put, List.setIfInBounds_toArray, List.set_cons_zero, List.set_cons_succ, List.getElem_toArray, List.getElem_cons_zero, List.getElem_cons_succ]
    refine wpAnyH_take (i := 28) (v := undef) rfl (by kernel_rfl) (by kernel_rfl) (by kernel_rfl) (fun _ _ _ h => h) (Or.inr ⟨by rfl, rfl⟩) hHeld ?_
    try simp only [Act.put, List.setIfInBounds_toArray, List.set_cons_zero, List.set_cons_succ, List.getElem_toArray, List.getElem_cons_zero, List.getElem_cons_succ]
    refine wpAnyH_take (i := 29) (v := undef) rfl (by kernel_rfl) (by kernel_rfl) (by kernel_rfl) (fun _ _ _ h => h) (Or.inr ⟨by rfl, rfl⟩) hHeld ?_
    try simp only [Act.put, List.setIfInBounds_toArray, List.set_cons_zero, List.set_cons_succ, List.getElem_toArray, List.getElem_cons_zero, List.getElem_cons_succ]
    refine wpAnyH_take (i := 30) (v := .bool false) rfl (by kernel_rfl) (by kernel_rfl) (by kernel_rfl) (fun _ _ _ h => h) (Or.inl ⟨by rfl, fun W hS => by clear hS hHeld; go_simp⟩) hHeld ?_
    try simp only [Act.put, List.setIfInBounds_toArray, List.set_cons_zero, List.set_cons_succ, List.getElem_toArray, List.getElem_cons_zero, List.getElem_cons_succ]
    refine wpAnyH_take (i := 31) (v := .bool false) rfl (by kernel_rfl) (by kernel_rfl) (by kernel_rfl) (fun _ _ _ h => h) (Or.inl ⟨by rfl, fun W hS => by clear hS hHeld; go_simp⟩) hHeld ?_
    try simp only [Act.put, List.setIfInBounds_toArray, List.set_cons_zero, List.set_cons_succ, List.getElem_toArray, List.getElem_cons_zero, List.getElem_cons_succ]
    refine wpAnyH_take (i := 32) (v := undef) rfl (by kernel_rfl) (by kernel_rfl) (by kernel_rfl) (fun _ _ _ h => h) (Or.inr ⟨by rfl, rfl⟩) hHeld ?_
    try simp only [Act.put, List.setIfInBounds_toArray, List.set_cons_zero, List.set_cons_succ, List.getElem_toArray, List.getElem_cons_zero, List.getElem_cons_succ]
    refine wpAnyH_take (i := 33) (v := undef) rfl (by kernel_rfl) (by kernel_rfl) (by kernel_rfl) (fun _ _ _ h => h) (Or.inr ⟨by rfl, rfl⟩) hHeld ?_
    try simp only [Act.put, List.setIfInBounds_toArray, List.set_cons_zero, List.set_cons_succ, List.getElem_toArray, List.getElem_cons_zero, List.getElem_cons_succ]
    refine wpAnyH_take (i := 34) (v := undef) rfl (by kernel_rfl) (by kernel_rfl) (by kernel_rfl) (fun _ _ _ h => h) (Or.inr ⟨by rfl, rfl⟩) hHeld ?_
    try simp only [Act.put, List.setIfInBounds_toArray, List.set_cons_zero, List.set_cons_succ, List.getElem_toArray, List.getElem_cons_zero, List.getElem_cons_succ]
    refine wpAnyH_take (i := 35) (v := undef) rfl (by kernel_rfl) (by kernel_rfl) (by kernel_rfl) (fun _ _ _ h => h) (Or.inr ⟨by rfl, rfl⟩) hHeld ?_
    try simp only [Act.put, List.setIfInBounds_toArray, List.set_cons_zero, List.set_cons_succ, List.getElem_toArray, List.getElem_cons_zero, List.getElem_cons_succ]
    refine wpAnyH_take (i := 36) (v := .bool false) rfl (by kernel_rfl) (by kernel_rfl) (by kernel_rfl) (fun _ _ _ h => h) (Or.inl ⟨by rfl, fun W hS => by clear hS hHeld; go_simp⟩) hHeld ?_
    try simp only [Act.put, List.setIfInBounds_toArray, List.set_cons_zero, List.set_cons_succ, List.getElem_toArray, List.getElem_cons_zero, List.getElem_cons_succ]
    refine wpAnyH_take (i := 37) (v := .bool false) rfl (by kernel_rfl) (by kernel_rfl) (by kernel_rfl) (fun _ _ _ h => h) (Or.inl ⟨by rfl, fun W hS => by clear hS hHeld; go_simp⟩) hHeld ?_
    try simp only [Act.put, List.setIfInBounds_toArray, List.set_cons_zero, List.set_cons_succ, List.getElem_toArray, List.getElem_cons_zero, List.getElem_cons_succ]
    exact wpAnyH_listed (by kernel_rfl) (htail (_, _, _, _, _, _, _, _, _, _, _, _, _, _, _, _, _, _, _, _, _, _, _, _, _, _, _, _, _, _, _, _, _, _, _, _, _) _ hHeld trivial)
  · have he := run_eql_spot a1 a2 a3 b1 b2 b3 (spot_same heq)
    clear heq
    refine wpAnyH_take (i := 0) (v := .agg #[.int .u64 a1, .int .u64 a2, .int .i64 a3]) rfl (by kernel_rfl) (by kernel_rfl) (by kernel_rfl) (fun _ _ _ h => h) (Or.inl ⟨by rfl, fun W hS => by have hl := HA.out.lt; have hk : ∀ j, W.cell? ⟨w.heap.size, j, none⟩ = w2.cell? ⟨w.heap.size, j, none⟩ := fun j => Below.cell hS hl; have z0 : W.cell? ⟨w.heap.size, 0, none⟩ = some (.int .u64 a1) := (hk 0).trans (HA.out.cell 0); have z1 : W.cell? ⟨w.heap.size, 1, none⟩ = some (.int .u64 a2) := (hk 1).trans (HA.out.cell 1); have z2 : W.cell? ⟨w.heap.size, 2, none⟩ = some (.int .i64 a3) := (hk 2).trans (HA.out.cell 2); clear hk hl; clear hS hHeld; go_simp⟩) hHeld ?_
    try simp only [Act.put, List.setIfInBounds_toArray, List.set_cons_zero, List.set_cons_succ, List.getElem_toArray, List.getElem_cons_zero, List.getElem_cons_succ]
    refine wpAnyH_take (i := 1) (v := .agg #[.int .u64 b1, .int .u64 b2, .int .i64 b3]) rfl (by kernel_rfl) (by kernel_rfl) (by kernel_rfl) (fun _ _ _ h => h) (Or.inl ⟨by rfl, fun W hS => by have hl := HB.out.lt; have hk : ∀ j, W.cell? ⟨gb, j, none⟩ = w2.cell? ⟨gb, j, none⟩ := fun j => Below.cell hS hl; have z0 : W.cell? ⟨gb, 0, none⟩ = some (.int .u64 b1) := (hk 0).trans (HB.out.cell 0); have z1 : W.cell? ⟨gb, 1, none⟩ = some (.int .u64 b2) := (hk 1).trans (HB.out.cell 1); have z2 : W.cell? ⟨gb, 2, none⟩ = some (.int .i64 b3) := (hk 2).trans (HB.out.cell 2); clear hk hl; clear hS hHeld; go_simp⟩) hHeld ?_
    try simp only [Act.put, List.setIfInBounds_toArray, List.set_cons_zero, List.set_cons_succ, List.getElem_toArray, List.getElem_cons_zero, List.getElem_cons_succ]
    refine wpAnyH_ready (rs := [2]) (by kernel_rfl) (by simp) ?_
    refine AllReadyH.cons rfl (fun K hK => ?_) AllReadyH.nil
    try simp only [Act.put, List.setIfInBounds_toArray, List.set_cons_zero, List.set_cons_succ, List.getElem_toArray, List.getElem_cons_zero, List.getElem_cons_succ]
    go_simp
    go_at_call 17
    refine (spotR h1 _).mono ?_
    rintro e W1 ⟨rfl, hb⟩
    refine hK.out _ _ (Below.step hHeld hb) (fun hHeld2 => ?_)
    clear hK K hHeld
    have hHeld := hHeld2
    clear hHeld2
    try simp only [Act.put, List.setIfInBounds_toArray, List.set_cons_zero, List.set_cons_succ, List.getElem_toArray, List.getElem_cons_zero, List.getElem_cons_succ]
    clear hb
    refine wpAnyH_take (i := 3) (v := .bool false) rfl (by kernel_rfl) (by kernel_rfl) (by kernel_rfl) (fun _ _ _ h => h) (Or.inl ⟨by rfl, fun W hS => by clear hS hHeld; go_simp⟩) hHeld ?_
    try simp only [Act.put, List.setIfInBounds_toArray, List.set_cons_zero, List.set_cons_succ, List.getElem_toArray, List.getElem_cons_zero, List.getElem_cons_succ]
    refine wpAnyH_take (i := 4) (v := undef) rfl (by kernel_rfl) (by kernel_rfl) (by kernel_rfl) (fun _ _ _ h => h) (Or.inr ⟨by rfl, rfl⟩) hHeld ?_
    try simp only [Act.put, List.setIfInBounds_toArray, List.set_cons_zero, List.set_cons_succ, List.getElem_toArray, List.getElem_cons_zero, List.getElem_cons_succ]
    refine wpAnyH_take (i := 5) (v := undef) rfl (by kernel_rfl) (by kernel_rfl) (by kernel_rfl) (fun _ _ _ h => h) (Or.inr ⟨by rfl, rfl⟩) hHeld ?_
    try simp only [Act.put, List.setIfInBounds_toArray, List.set_cons_zero, List.set_cons_succ, List.getElem_toArray, List.getElem_cons_zero, List.getElem_cons_succ]
    refine wpAnyH_take (i := 6) (v := undef) rfl (by kernel_rfl) (by kernel_rfl) (by kernel_rfl) (fun _ _ _ h => h) (Or.inr ⟨by rfl, rfl⟩) hHeld ?_
    try simp only [Act.put, List.setIfInBounds_toArray, List.set_cons_zero, List.set_cons_succ, List.getElem_toArray, List.getElem_cons_zero, List.getElem_cons_succ]
    refine wpAnyH_take (i := 7) (v := .bool false) rfl (by kernel_rfl) (by kernel_rfl) (by kernel_rfl) (fun _ _ _ h => h) (Or.inl ⟨by rfl, fun W hS => by clear hS hHeld; go_simp⟩) hHeld ?_
    try simp only [Act.put, List.setIfInBounds_toArray, List.set_cons_zero, List.set_cons_succ, List.getElem_toArray, List.getElem_cons_zero, List.getElem_cons_succ]
    refine wpAnyH_take (i := 8) (v := .bool false) rfl (by kernel_rfl) (by kernel_rfl) (by kernel_rfl) (fun _ _ _ h => h) (Or.inl ⟨by rfl, fun W hS => by clear hS hHeld; go_simp⟩) hHeld ?_
    try simp only [Act.put, List.setIfInBounds_toArray, List.set_cons_zero, List.set_cons_succ, List.getElem_toArray, List.getElem_cons_zero, List.getElem_cons_succ]
    refine wpAnyH_take (i := 9) (v := .agg #[.int .u64 a1, .int .u64 a2, .int .i64 a3]) rfl (by kernel_rfl) (by kernel_rfl) (by kernel_rfl) (fun _ _ _ h => h) (Or.inl ⟨by rfl, fun W hS => by have hl := HA.out.lt; have hk : ∀ j, W.cell? ⟨w.heap.size, j, none⟩ = w2.cell? ⟨w.heap.size, j, none⟩ := fun j => Below.cell hS hl; have z0 : W.cell? ⟨w.heap.size, 0, none⟩ = some (.int .u64 a1) := (hk 0).trans (HA.out.cell 0); have z1 : W.cell? ⟨w.heap.size, 1, none⟩ = some (.int .u64 a2) := (hk 1).trans (HA.out.cell 1); have z2 : W.cell? ⟨w.heap.size, 2, none⟩ = some (.int .i64 a3) := (hk 2).trans (HA.out.cell 2); clear hk hl; clear hS hHeld; go_simp⟩) hHeld ?_
    try simp only [Act.put, List.setIfInBounds_toArray, List.set_cons_zero, List.set_cons_succ, List.getElem_toArray, List.getElem_cons_zero, List.getElem_cons_succ]
    refine wpAnyH_take (i := 10) (v := .agg #[.int .u64 b1, .int .u64 b2, .int .i64 b3]) rfl (by kernel_rfl) (by kernel_rfl) (by kernel_rfl) (fun _ _ _ h => h) (Or.inl ⟨by rfl, fun W hS => by have hl := HB.out.lt; have hk : ∀ j, W.cell? ⟨gb, j, none⟩ = w2.cell? ⟨gb, j, none⟩ := fun j => Below.cell hS hl; have z0 : W.cell? ⟨gb, 0, none⟩ = some (.int .u64 b1) := (hk 0).trans (HB.out.cell 0); have z1 : W.cell? ⟨gb, 1, none⟩ = some (.int .u64 b2) := (hk 1).trans (HB.out.cell 1); have z2 : W.cell? ⟨gb, 2, none⟩ = some (.int .i64 b3) := (hk 2).trans (HB.out.cell 2); clear hk hl; clear hS hHeld; go_simp⟩) hHeld ?_
    try simp only [Act.put, List.setIfInBounds_toArray, List.set_cons_zero, List.set_cons_succ, List.getElem_toArray, List.getElem_cons_zero, List.getElem_cons_succ]
    refine wpAnyH_take (i := 17) (v := .agg #[.int .u64 a1, .int .u64 a2, .int .i64 a3]) rfl (by kernel_rfl) (by kernel_rfl) (by kernel_rfl) (fun _ _ _ h => h) (Or.inl ⟨by rfl, fun W hS => by have hl := HA.out.lt; have hk : ∀ j, W.cell? ⟨w.heap.size, j, none⟩ = w2.cell? ⟨w.heap.size, j, none⟩ := fun j => Below.cell hS hl; have z0 : W.cell? ⟨w.heap.size, 0, none⟩ = some (.int .u64 a1) := (hk 0).trans (HA.out.cell 0); have z1 : W.cell? ⟨w.heap.size, 1, none⟩ = some (.int .u64 a2) := (hk 1).trans (HA.out.cell 1); have z2 : W.cell? ⟨w.heap.size, 2, none⟩ = some (.int .i64 a3) := (hk 2).trans (HA.out.cell 2); clear hk hl; clear hS hHeld; go_simp⟩) hHeld ?_
    try simp only [Act.put, List.setIfInBounds_toArray, List.set_cons_zero, List.set_cons_succ, List.getElem_toArray, List.getElem_cons_zero, List.getElem_cons_succ]
    refine wpAnyH_take (i := 18) (v := .agg #[.int .u64 b1, .int .u64 b2, .int .i64 b3]) rfl (by kernel_rfl) (by kernel_rfl) (by kernel_rfl) (fun _ _ _ h => h) (Or.inl ⟨by rfl, fun W hS => by have hl := HB.out.lt; have hk : ∀ j, W.cell? ⟨gb, j, none⟩ = w2.cell? ⟨gb, j, none⟩ := fun j => Below.cell hS hl; have z0 : W.cell? ⟨gb, 0, none⟩ = some (.int .u64 b1) := (hk 0).trans (HB.out.cell 0); have z1 : W.cell? ⟨gb, 1, none⟩ = some (.int .u64 b2) := (hk 1).trans (HB.out.cell 1); have z2 : W.cell? ⟨gb, 2, none⟩ = some (.int .i64 b3) := (hk 2).trans (HB.out.cell 2); clear hk hl; clear hS hHeld; go_simp⟩) hHeld ?_
    try simp only [Act.put, List.setIfInBounds_toArray, List.set_cons_zero, List.set_cons_succ, List.getElem_toArray, List.getElem_cons_zero, List.getElem_cons_succ]
    refine wpAnyH_take (i := 19) (v := .bool true) rfl (by kernel_rfl) (by kernel_rfl) (by kernel_rfl) (fun _ _ _ h => h) (Or.inl ⟨by rfl, fun W hS => by clear hS hHeld; go_simp⟩) hHeld ?_
    try simp only [Act.put, List.setIfInBounds_toArray, List.set_cons_zero, List.set_cons_succ, List.getElem_toArray, List.getElem_cons_zero, List.getElem_cons_succ]
    refine wpAnyH_ready (rs := [11]) (by kernel_rfl) (by simp) ?_
    refine AllReadyH.cons rfl (fun K hK => ?_) AllReadyH.nil
    try simp only [Act.put, List.setIfInBounds_toArray, List.set_cons_zero, List.set_cons_succ, List.getElem_toArray, List.getElem_cons_zero, List.getElem_cons_succ]
    go_simp
    go_at_call 17
    refine (spotR h1 _).mono ?_
    rintro e W2 ⟨rfl, hb⟩
    refine hK.out _ _ (Below.step hHeld hb) (fun hHeld2 => ?_)
    clear hK K hHeld
    have hHeld := hHeld2
    clear hHeld2
    try simp only [Act.put, List.setIfInBounds_toArray, List.set_cons_zero, List.set_cons_succ, List.getElem_toArray, List.getElem_cons_zero, List.getElem_cons_succ]
    clear hb
    refine wpAnyH_take (i := 12) (v := .bool false) rfl (by kernel_rfl) (by kernel_rfl) (by kernel_rfl) (fun _ _ _ h => h) (Or.inl ⟨by rfl, fun W hS => by clear hS hHeld; go_simp⟩) hHeld ?_
    try simp only [Act.put, List.setIfInBounds_toArray, List.set_cons_zero, List.set_cons_succ, List.getElem_toArray, List.getElem_cons_zero, List.getElem_cons_succ]
    refine wpAnyH_take (i := 13) (v := .agg #[.int .u64 b1, .int .u64 b2, .int .i64 b3]) rfl (by kernel_rfl) (by kernel_rfl) (by kernel_rfl) (fun _ _ _ h => h) (Or.inl ⟨by rfl, fun W hS => by have hl := HB.out.lt; have hk : ∀ j, W.cell? ⟨gb, j, none⟩ = w2.cell? ⟨gb, j, none⟩ := fun j => Below.cell hS hl; have z0 : W.cell? ⟨gb, 0, none⟩ = some (.int .u64 b1) := (hk 0).trans (HB.out.cell 0); have z1 : W.cell? ⟨gb, 1, none⟩ = some (.int .u64 b2) := (hk 1).trans (HB.out.cell 1); have z2 : W.cell? ⟨gb, 2, none⟩ = some (.int .i64 b3) := (hk 2).trans (HB.out.cell 2); clear hk hl; clear hS hHeld; go_simp⟩) hHeld ?_
    try simp only [Act.put, List.setIfInBounds_toArray, List.set_cons_zero, List.set_cons_succ, List.getElem_toArray, List.getElem_cons_zero, List.getElem_cons_succ]
    refine wpAnyH_take (i := 14) (v := .agg #[.int .u64 a1, .int .u64 a2, .int .i64 a3]) rfl (by kernel_rfl) (by kernel_rfl) (by kernel_rfl) (fun _ _ _ h => h) (Or.inl ⟨by rfl, fun W hS => by have hl := HA.out.lt; have hk : ∀ j, W.cell? ⟨w.heap.size, j, none⟩ = w2.cell? ⟨w.heap.size, j, none⟩ := fun j => Below.cell hS hl; have z0 : W.cell? ⟨w.heap.size, 0, none⟩ = some (.int .u64 a1) := (hk 0).trans (HA.out.cell 0); have z1 : W.cell? ⟨w.heap.size, 1, none⟩ = some (.int .u64 a2) := (hk 1).trans (HA.out.cell 1); have z2 : W.cell? ⟨w.heap.size, 2, none⟩ = some (.int .i64 a3) := (hk 2).trans (HA.out.cell 2); clear hk hl; clear hS hHeld; go_simp⟩) hHeld ?_
    try simp only [Act.put, List.setIfInBounds_toArray, List.set_cons_zero, List.set_cons_succ, List.getElem_toArray, List.getElem_cons_zero, List.getElem_cons_succ]
    refine wpAnyH_ready (rs := [15]) (by kernel_rfl) (by simp) ?_
    refine AllReadyH.cons rfl (fun K hK => ?_) AllReadyH.nil
    try simp only [Act.put, List.setIfInBounds_toArray, List.set_cons_zero, List.set_cons_succ, List.getElem_toArray, List.getElem_cons_zero, List.getElem_cons_succ]
    go_simp
    go_at_call 17
    refine (spotR h2 _).mono ?_
    rintro e W3 ⟨rfl, hb⟩
    refine hK.out _ _ (Below.step hHeld hb) (fun hHeld2 => ?_)
    clear hK K hHeld
    have hHeld := hHeld2
    clear hHeld2
    try simp only [Act.put, List.setIfInBounds_toArray, List.set_cons_zero, List.set_cons_succ, List.getElem_toArray, List.getElem_cons_zero, List.getElem_cons_succ]
    clear hb
    refine wpAnyH_take (i := 16) (v := .bool false) rfl (by kernel_rfl) (by kernel_rfl) (by kernel_rfl) (fun _ _ _ h => h) (Or.inl ⟨by rfl, fun W hS => by clear hS hHeld; go_simp⟩) hHeld ?_
    try simp only [Act.put, List.setIfInBounds_toArray, List.set_cons_zero, List.set_cons_succ, List.getElem_toArray, List.getElem_cons_zero, List.getElem_cons_succ]
    refine wpAnyH_take (i := 20) (v := .bool false) rfl (by kernel_rfl) (by kernel_rfl) (by kernel_rfl) (fun _ _ _ h => h) (Or.inl ⟨by rfl, fun W hS => by clear hS hHeld; go_simp⟩) hHeld ?_
    try simp only [Act.put, List.setIfInBounds_toArray, List.set_cons_zero, List.set_cons_succ, List.getElem_toArray, List.getElem_cons_zero, List.getElem_cons_succ]
    refine wpAnyH_take (i := 21) (v := .bool false) rfl (by kernel_rfl) (by kernel_rfl) (by kernel_rfl) (fun _ _ _ h => h) (Or.inl ⟨by rfl, fun W hS => by clear hS hHeld; go_simp⟩) hHeld ?_
    try simp only [Act.put, List.setIfInBounds_toArray, List.set_cons_zero, List.set_cons_succ, List.getElem_toArray, List.getElem_cons_zero, List.getElem_cons_succ]
    refine wpAnyH_take (i := 22) (v := .bool false) rfl (by kernel_rfl) (by kernel_rfl) (by kernel_rfl) (fun _ _ _ h => h) (Or.inl ⟨by rfl, fun W hS => by clear hS hHeld; go_simp⟩) hHeld ?_
    try simp only [Act.put, List.setIfInBounds_toArray, List.set_cons_zero, List.set_cons_succ, List.getElem_toArray, List.getElem_cons_zero, List.getElem_cons_succ]
    refine wpAnyH_take (i := 23) (v := .agg #[.int .u64 a1, .int .u64 a2, .int .i64 a3]) rfl (by kernel_rfl) (by kernel_rfl) (by kernel_rfl) (fun _ _ _ h => h) (Or.inl ⟨by rfl, fun W hS => by have hl := HA.out.lt; have hk : ∀ j, W.cell? ⟨w.heap.size, j, none⟩ = w2.cell? ⟨w.heap.size, j, none⟩ := fun j => Below.cell hS hl; have z0 : W.cell? ⟨w.heap.size, 0, none⟩ = some (.int .u64 a1) := (hk 0).trans (HA.out.cell 0); have z1 : W.cell? ⟨w.heap.size, 1, none⟩ = some (.int .u64 a2) := (hk 1).trans (HA.out.cell 1); have z2 : W.cell? ⟨w.heap.size, 2, none⟩ = some (.int .i64 a3) := (hk 2).trans (HA.out.cell 2); clear hk hl; clear hS hHeld; go_simp⟩) hHeld ?_
    try simp only [Act.put, List.setIfInBounds_toArray, List.set_cons_zero, List.set_cons_succ, List.getElem_toArray, List.getElem_cons_zero, List.getElem_cons_succ]
    refine wpAnyH_take (i := 24) (v := .agg #[.int .u64 b1, .int .u64 b2, .int .i64 b3]) rfl (by kernel_rfl) (by kernel_rfl) (by kernel_rfl) (fun _ _ _ h => h) (Or.inl ⟨by rfl, fun W hS => by have hl := HB.out.lt; have hk : ∀ j, W.cell? ⟨gb, j, none⟩ = w2.cell? ⟨gb, j, none⟩ := fun j => Below.cell hS hl; have z0 : W.cell? ⟨gb, 0, none⟩ = some (.int .u64 b1) := (hk 0).trans (HB.out.cell 0); have z1 : W.cell? ⟨gb, 1, none⟩ = some (.int .u64 b2) := (hk 1).trans (HB.out.cell 1); have z2 : W.cell? ⟨gb, 2, none⟩ = some (.int .i64 b3) := (hk 2).trans (HB.out.cell 2); clear hk hl; clear hS hHeld; go_simp⟩) hHeld ?_
    try simp only [Act.put, List.setIfInBounds_toArray, List.set_cons_zero, List.set_cons_succ, List.getElem_toArray, List.getElem_cons_zero, List.getElem_cons_succ]
    refine wpAnyH_ready (rs := [25]) (by kernel_rfl) (by simp) ?_
    refine AllReadyH.cons rfl (fun K hK => ?_) AllReadyH.nil
    try simp only [Act.put, List.setIfInBounds_toArray, List.set_cons_zero, List.set_cons_succ, List.getElem_toArray, List.getElem_cons_zero, List.getElem_cons_succ]
    go_simp
    go_at_call 17
    refine (spotR h1 _).mono ?_
    rintro e W4 ⟨rfl, hb⟩
    refine hK.out _ _ (Below.step hHeld hb) (fun hHeld2 => ?_)
    clear hK K hHeld
    have hHeld := hHeld2
    clear hHeld2
    try simp only [Act.put, List.setIfInBounds_toArray, List.set_cons_zero, List.set_cons_succ, List.getElem_toArray, List.getElem_cons_zero, List.getElem_cons_succ]
    clear hb
    refine wpAnyH_take (i := 26) (v := .bool false) rfl (by kernel_rfl) (by kernel_rfl) (by kernel_rfl) (fun _ _ _ h => h) (Or.inl ⟨by rfl, fun W hS => by clear hS hHeld; go_simp⟩) hHeld ?_
    try simp only [Act.put, List.setIfInBounds_toArray, List.set_cons_zero, List.set_cons_succ, List.getElem_toArray, List.getElem_cons_zero, List.getElem_cons_succ]
    refine wpAnyH_take (i := 27) (v := undef) rfl (by kernel_rfl) (by kernel_rfl) (by kernel_rfl) (fun _ _ _ h => h) (Or.inr ⟨by rfl, rfl⟩) hHeld ?_
    try simp only [Act.put, List.setIfInBounds_toArray, List.set_cons_zero, List.set_cons_succ, List.getElem_toArray, List.getElem_cons_zero, List.getElem_cons_succ]
    refine wpAnyH_take (i := 28) (v := undef) rfl (by kernel_rfl) (by kernel_rfl) (by kernel_rfl) (fun _ _ _ h => h) (Or.inr ⟨by rfl, rfl⟩) hHeld ?_
    try simp only [Act.put, List.setIfInBounds_toArray, List.set_cons_zero, List.set_cons_succ, List.getElem_toArray, List.getElem_cons_zero, List.getElem_cons_succ]
    refine wpAnyH_take (i := 29) (v := undef) rfl (by kernel_rfl) (by kernel_rfl) (by kernel_rfl) (fun _ _ _ h => h) (Or.inr ⟨by rfl, rfl⟩) hHeld ?_
    try simp only [Act.put, List.setIfInBounds_toArray, List.set_cons_zero, List.set_cons_succ, List.getElem_toArray, List.getElem_cons_zero, List.getElem_cons_succ]
    refine wpAnyH_take (i := 30) (v := .bool false) rfl (by kernel_rfl) (by kernel_rfl) (by kernel_rfl) (fun _ _ _ h => h) (Or.inl ⟨by rfl, fun W hS => by clear hS hHeld; go_simp⟩) hHeld ?_
    try simp only [Act.put, List.setIfInBounds_toArray, List.set_cons_zero, List.set_cons_succ, List.getElem_toArray, List.getElem_cons_zero, List.getElem_cons_succ]
    refine wpAnyH_take (i := 31) (v := .bool false) rfl (by kernel_rfl) (by kernel_rfl) (by kernel_rfl) (fun _ _ _ h => h) (Or.inl ⟨by rfl, fun W hS => by clear hS hHeld; go_simp⟩) hHeld ?_
    try simp only [Act.put, List.setIfInBounds_toArray, List.set_cons_zero, List.set_cons_succ, List.getElem_toArray, List.getElem_cons_zero, List.getElem_cons_succ]
    refine wpAnyH_take (i := 32) (v := undef) rfl (by kernel_rfl) (by kernel_rfl) (by kernel_rfl) (fun _ _ _ h => h) (Or.inr ⟨by rfl, rfl⟩) hHeld ?_
    try simp only [Act.put, List.setIfInBounds_toArray, List.set_cons_zero, List.set_cons_succ, List.getElem_toArray, List.getElem_cons_zero, List.getElem_cons_succ]
    refine wpAnyH_take (i := 33) (v := undef) rfl (by kernel_rfl) (by kernel_rfl) (by kernel_rfl) (fun _ _ _ h => h) (Or.inr ⟨by rfl, rfl⟩) hHeld ?_
    try simp only [Act.put, List.setIfInBounds_toArray, List.set_cons_zero, List.set_cons_succ, List.getElem_toArray, List.getElem_cons_zero, List.getElem_cons_succ]
    refine wpAnyH_take (i := 34) (v := undef) rfl (by kernel_rfl) (by kernel_rfl) (by kernel_rfl) (fun _ _ _ h => h) (Or.inr ⟨by rfl, rfl⟩) hHeld ?_
    try simp only [Act.put, List.setIfInBounds_toArray, List.set_cons_zero, List.set_cons_succ, List.getElem_toArray, List.getElem_cons_zero, List.getElem_cons_succ]
    refine wpAnyH_take (i := 35) (v := undef) rfl (by kernel_rfl) (by kernel_rfl) (by kernel_rfl) (fun _ _ _ h => h) (Or.inr ⟨by rfl, rfl⟩) hHeld ?_
    try simp only [Act.put, List.setIfInBounds_toArray, List.set_cons_zero, List.set_cons_succ, List.getElem_toArray, List.getElem_cons_zero, List.getElem_cons_succ]
    refine wpAnyH_take (i := 36) (v := .bool false) rfl (by kernel_rfl) (by kernel_rfl) (by kernel_rfl) (fun _ _ _ h => h) (Or.inl ⟨by rfl, fun W hS => by clear hS hHeld; go_simp⟩) hHeld ?_
    try simp only [Act.put, List.setIfInBounds_toArray, List.set_cons_zero, List.set_cons_succ, List.getElem_toArray, List.getElem_cons_zero, List.getElem_cons_succ]
    refine wpAnyH_take (i := 37) (v := .bool false) rfl (by kernel_rfl) (by kernel_rfl) (by kernel_rfl) (fun _ _ _ h => h) (Or.inl ⟨by rfl, fun W hS => by clear hS hHeld; go_simp⟩) hHeld ?_
    try simp only [Act.put, List.setIfInBounds_toArray, List.set_cons_zero, List.set_cons_succ, List.getElem_toArray, List.getElem_cons_zero, List.getElem_cons_succ]
    exact wpAnyH_listed (by kernel_rfl) (htail (_, _, _, _, _, _, _, _, _, _, _, _, _, _, _, _, _, _, _, _, _, _, _, _, _, _, _, _, _, _, _, _, _, _, _, _, _) _ hHeld trivial)
end Go.Proofs.Ytohccblecgmdbaa
