/-
  The package rank: lives. No condition.
-/
import Derived.Test.YtohccblecgmdbaaRnkP
import Derived.Deep.RegionHeld3
namespace Go.Proofs.Ytohccblecgmdbaa
open Go.RowKit

section
variable {P : Program} {ops : Array Oper} {Q : Exit → Act → World → Prop} {md : Region.Mode} {S : World → Prop}
/-- several orders meet again: what is left is walked once -/
theorem wpAnyH_merge {fuel : Nat} {listed : Array Bool} {a : Act} {w : World} (fuel' : Nat) (listed' : Array Bool) (F : Value → Value → Value → Value → Act → Act) (G : Value → Value → World → Prop)
    (h1 : ∀ (p1 p2 p3 p4 : Value) (W : World), S W → G p1 p2 W → wpAnyH P md ops Q S fuel' listed' (F p1 p2 p3 p4 a) W)
    (h2 : (∀ (p1 p2 p3 p4 : Value) (W : World), S W → G p1 p2 W → wpAnyH P md ops Q S fuel' listed' (F p1 p2 p3 p4 a) W) → wpAnyH P md ops Q S fuel listed a w) : wpAnyH P md ops Q S fuel listed a w := h2 h1
theorem wpAnyH_listed {fuel : Nat} {listed listed' : Array Bool} {a : Act} {w : World} (e : listed' = listed) (h : wpAnyH P md ops Q S fuel listed' a w) : wpAnyH P md ops Q S fuel listed a w := e ▸ h
end
theorem Flat.blk {α : Type} {S : Sh α} {enc : α → List Value} (h : Flat S enc) {w : World} {g : Nat} {t : TypeId} {cs : Array Value} {l : List α} (hb : Blk w g t cs) (e : cs.toList = fcs enc l) : Rd S w w.heap.size (some ⟨g, 0, none⟩) l :=
  h.mk_ (R := fun b => b < w.heap.size) (ad := ⟨g, 0, none⟩) hb.lt fun j u hu => by rw [add_mk, Nat.zero_add, hb.cell j, ← Array.getElem?_toList, e]; exact hu
theorem Rd.step {α : Type} {S : Sh α} {w w' : World} {A : Option Addr} {l : List α} (h : Rd S w w.heap.size A l) (hb : Below w.heap.size w w') : Rd S w' w'.heap.size A l :=
  RdR.rd (Rd.below h hb (Nat.le_refl _)) fun _ hl => Nat.lt_of_lt_of_le hl hb.size
theorem NewL.at_ {α : Type} {S : Sh α} {w w' : World} {l : List α} {v : Value} (h : NewL S w l v w') : ∃ A c, v = .slice A l.length c ∧ l.length ≤ c ∧ c ≤ 9223372036854775807 ∧ Rd S w' w'.heap.size A l ∧ Below w.heap.size w w' := by
  obtain ⟨A, n, c, rfl, rfl, h1, h2, h3, h4⟩ := h
  exact ⟨A, c, rfl, h1, h2, h3.rd fun b hb => hb.2, h4⟩
def lvA : Spt := ((1, 5), 3)
def lvB : Spt := ((1, 5), 4)
theorem lv_sort : srtS [lvB, lvA, lvB] = [lvA, lvB, lvB] := (srt_eq swoS totS (by decide) (by decide)).symm
theorem lv_sort2 : srtS [lvA, lvB, lvB] = [lvA, lvB, lvB] := (srt_eq swoS totS (List.Perm.refl _) (by decide)).symm
theorem lv_hits : dd (srtH ([(1, 5), (3, 2)] ++ [(1, 5), (2, 9)])) = [(1, 5), (2, 9), (3, 2)] := by
  have e : srtH ([(1, 5), (3, 2)] ++ [(1, 5), (2, 9)]) = [(1, 5), (1, 5), (2, 9), (3, 2)] := (srt_eq swoH totH (by decide) (by decide)).symm
  rw [e]; decide
section
variable (A : Option Addr) (c : Nat) (w : World) (hc : 3 ≤ c) (hm : c ≤ 9223372036854775807)
include hc hm
theorem live_hits (g : Nat) (hx : Rd SH w w.heap.size A [(1, 5), (2, 9), (3, 2)]) (hg : Blk w g 34 #[.int .u64 1, .int .u64 5, .int .u64 2, .int .u64 9, .int .u64 3, .int .u64 2]) :
    Calls Try.prog 12 #[.slice A 3 c, .slice (some ⟨g, 0, none⟩) 3 3] w fun e w' => e = .returned (.bool true) ∧ Below w.heap.size w w' :=
  (sameHits_any A (some ⟨g, 0, none⟩) 3 c 3 3 _ [(1, 5), (2, 9), (3, 2)] w hx rfl hc hm (flatH.blk hg rfl) rfl (by omega) (by omega)).mono fun _ _ ⟨h, hd⟩ => ⟨by rw [h]; simp, hd.below⟩
theorem live_spots (g : Nat) (hx : Rd SP w w.heap.size A [lvA, lvB, lvB]) (hg : Blk w g 36 #[.int .u64 1, .int .u64 5, .int .i64 3, .int .u64 1, .int .u64 5, .int .i64 4, .int .u64 1, .int .u64 5, .int .i64 4]) :
    Calls Try.prog 7 #[.slice A 3 c, .slice (some ⟨g, 0, none⟩) 3 3] w fun e w' => e = .returned (.bool true) ∧ Below w.heap.size w w' :=
  (same_any A (some ⟨g, 0, none⟩) 3 c 3 3 _ [lvA, lvB, lvB] w hx rfl hc hm (flatS.blk hg rfl) rfl (by omega) (by omega)).mono fun _ _ ⟨h, hd⟩ => ⟨by rw [h]; simp, hd.below⟩
theorem live_least (k : Int) (r : Nat) (hr : lstN k 3 = r) (h3 : r ≤ 3) (hx : Rd SP w w.heap.size A [lvA, lvB, lvB]) :
    Calls Try.prog 10 #[.slice A 3 c, .int .i64 k] w fun e w' => ∃ A' c', e = .returned (.slice A' r c') ∧ r ≤ c' ∧ c' ≤ 9223372036854775807 ∧ Rd SP w' w'.heap.size A' ([lvA, lvB, lvB].take r) ∧ Below w.heap.size w w' :=
  (least_any A 3 c k [lvA, lvB, lvB] w hx rfl hc hm (by omega)).mono fun e w' ⟨v, h, hn⟩ => by
    rw [hr, lv_sort2] at hn
    obtain ⟨A', c', hv, h1, h2, h4, h5⟩ := hn.at_
    have hl : ([lvA, lvB, lvB].take r).length = r := by rw [List.length_take]; exact Nat.min_eq_left h3
    rw [hl] at hv h1
    exact ⟨A', c', by rw [h, hv], h1, h2, h4, h5⟩
omit hc hm in
theorem live_rising (n : Nat) (l : List Hit) (r : Bool) (hr : ris l = r) (hn : l.length = n) (h6 : n ≤ 1000000) (hc : n ≤ c) (hm : c ≤ 9223372036854775807) (hx : Rd SH w w.heap.size A l) :
    Calls Try.prog 15 #[.slice A n c] w fun e w' => e = .returned (.bool r) ∧ Below w.heap.size w w' :=
  (rising_any A n c l w hx hn hc hm h6).mono fun _ _ ⟨h, hb⟩ => ⟨by rw [h, hr], hb⟩
omit hc hm in
theorem live_one (g : Nat) (hc : 1 ≤ c) (hm : c ≤ 9223372036854775807) (hx : Rd SP w w.heap.size A [lvA]) (hg : Blk w g 36 #[.int .u64 1, .int .u64 5, .int .i64 3]) :
    Calls Try.prog 7 #[.slice A 1 c, .slice (some ⟨g, 0, none⟩) 1 1] w fun e w' => e = .returned (.bool true) ∧ Below w.heap.size w w' :=
  (same_any A (some ⟨g, 0, none⟩) 1 c 1 1 _ [lvA] w hx rfl hc hm (flatS.blk hg rfl) rfl (by omega) (by omega)).mono fun _ _ ⟨h, hd⟩ => ⟨by rw [h]; simp, hd.below⟩
end
theorem live_spot (w : World) : Calls Try.prog 17 #[.agg #[.int .u64 1, .int .u64 5, .int .i64 3], .agg #[.int .u64 1, .int .u64 5, .int .i64 4]] w fun e w' => e = .returned (.bool true) ∧ Below w.heap.size w w' :=
  (spot_any lvA lvB w).mono fun _ _ ⟨h, hb⟩ => ⟨by rw [h, show sptLt lvA lvB = true by decide], hb⟩
theorem live_hit (w : World) : Calls Try.prog 18 #[.agg #[.int .u64 1, .int .u64 5], .agg #[.int .u64 1, .int .u64 5]] w fun e w' => e = .returned (.bool false) ∧ Below w.heap.size w w' :=
  (hit_any (1, 5) (1, 5) w).mono fun _ _ ⟨h, hb⟩ => ⟨by rw [h, show hitLt (1, 5) (1, 5) = false by decide], hb⟩
set_option maxHeartbeats 8000000 in
set_option maxRecDepth 100000 in
theorem lives_any (w : World) : Calls Try.prog 6 #[] w fun e w' => e = .returned (.bool true) ∧ Below w.heap.size w w' := by
  have HA0 := hide (Blk.new w 36 #[.int .u64 1, .int .u64 5, .int .i64 3])
  have HB0 := hide (Blk.new (w.alloc (.cells #[.int .u64 1, .int .u64 5, .int .i64 3] 36)) 36 #[.int .u64 1, .int .u64 5, .int .i64 4])
  have HA1 := hide (HA0.out.alloc (.cells #[.int .u64 1, .int .u64 5, .int .i64 4] 36))
  have HBb := hide (((Below.refl w.heap.size w).alloc (Nat.le_refl _) (.cells #[.int .u64 1, .int .u64 5, .int .i64 3] 36)).alloc (by simp) (.cells #[.int .u64 1, .int .u64 5, .int .i64 4] 36))
  have hsz : (w.alloc (.cells #[.int .u64 1, .int .u64 5, .int .i64 3] 36)).heap.size = w.heap.size + 1 := by simp
  rw [hsz] at HB0
  clear HA0
  go_enter Try.func6, Try.ntmps6
  go_upto_region 2 with fail
  generalize (w.alloc (.cells #[.int .u64 1, .int .u64 5, .int .i64 3] 36)).alloc (.cells #[.int .u64 1, .int .u64 5, .int .i64 4] 36) = w2 at *
  clear hsz
  generalize w.heap.size + 1 = gb at *
  have a0 : w2.cell? ⟨w.heap.size, 0, none⟩ = some (.int .u64 1) := HA1.out.cell 0
  have a1 : w2.cell? ⟨w.heap.size, 1, none⟩ = some (.int .u64 5) := HA1.out.cell 1
  have a2 : w2.cell? ⟨w.heap.size, 2, none⟩ = some (.int .i64 3) := HA1.out.cell 2
  have b0 : w2.cell? ⟨gb, 0, none⟩ = some (.int .u64 1) := HB0.out.cell 0
  have b1 : w2.cell? ⟨gb, 1, none⟩ = some (.int .u64 5) := HB0.out.cell 1
  have b2 : w2.cell? ⟨gb, 2, none⟩ = some (.int .i64 4) := HB0.out.cell 2
  have H3 := hide (Blk.new w2 36 #[.int .u64 1, .int .u64 5, .int .i64 4, .int .u64 1, .int .u64 5, .int .i64 3, .int .u64 1, .int .u64 5, .int .i64 4])
  have HA3 := hide (HA1.out.alloc (.cells #[.int .u64 1, .int .u64 5, .int .i64 4, .int .u64 1, .int .u64 5, .int .i64 3, .int .u64 1, .int .u64 5, .int .i64 4] 36))
  have HB3 := hide (HB0.out.alloc (.cells #[.int .u64 1, .int .u64 5, .int .i64 4, .int .u64 1, .int .u64 5, .int .i64 3, .int .u64 1, .int .u64 5, .int .i64 4] 36))
  have HBc := hide (HBb.out.alloc HBb.out.size (.cells #[.int .u64 1, .int .u64 5, .int .i64 4, .int .u64 1, .int .u64 5, .int .i64 3, .int .u64 1, .int .u64 5, .int .i64 4] 36))
  clear HA1 HB0 HBb
  go_wp2_with fail
  generalize w2.alloc (.cells #[.int .u64 1, .int .u64 5, .int .i64 4, .int .u64 1, .int .u64 5, .int .i64 3, .int .u64 1, .int .u64 5, .int .i64 4] 36) = w3 at *
  generalize w2.heap.size = g3 at *
  have HC := hide (sort_any (some ⟨g3, 0, none⟩) 3 3 [lvB, lvA, lvB] w3 (flatS.blk H3.out rfl) rfl (by omega) (by omega) (by omega))
  clear H3 a0 a1 a2 b0 b1 b2
  refine HC.out.mono ?_
  rintro e w4 ⟨v, rfl, ho, hb⟩
  obtain ⟨Al, cl, rfl, hl1, hl2, hl3, hl4⟩ := (flatS.new ho hb).at_
  rw [lv_sort] at *
  have HL4 := hide hl3
  have HA4 := hide (HA3.out.below hb HA3.out.lt)
  have HB4 := hide (HB3.out.below hb HB3.out.lt)
  have HBd := hide (Below.step HBc.out hb)
  have hl1 : 3 ≤ cl := hl1
  clear HC ho hb hl3 hl4 HA3 HB3 HBc
  have H5 := hide ((Blk.new w4 34 #[.int .u64 1, .int .u64 5, .int .u64 3, .int .u64 2]).alloc (.cells #[.int .u64 1, .int .u64 5, .int .u64 2, .int .u64 9] 34))
  have H6 := hide (Blk.new (w4.alloc (.cells #[.int .u64 1, .int .u64 5, .int .u64 3, .int .u64 2] 34)) 34 #[.int .u64 1, .int .u64 5, .int .u64 2, .int .u64 9])
  have hsz : (w4.alloc (.cells #[.int .u64 1, .int .u64 5, .int .u64 3, .int .u64 2] 34)).heap.size = w4.heap.size + 1 := by simp
  have HB5 := hide (((Below.refl w4.heap.size w4).alloc (Nat.le_refl _) (.cells #[.int .u64 1, .int .u64 5, .int .u64 3, .int .u64 2] 34)).alloc (by simp) (.cells #[.int .u64 1, .int .u64 5, .int .u64 2, .int .u64 9] 34))
  rw [hsz] at H6
  clear hsz
  go_wp2_with fail
  generalize (w4.alloc (.cells #[.int .u64 1, .int .u64 5, .int .u64 3, .int .u64 2] 34)).alloc (.cells #[.int .u64 1, .int .u64 5, .int .u64 2, .int .u64 9] 34) = w5 at *
  have HC := hide (merge_any (some ⟨w4.heap.size, 0, none⟩) (some ⟨w4.heap.size + 1, 0, none⟩) 2 2 2 2 [(1, 5), (3, 2)] [(1, 5), (2, 9)] w5 (flatH.blk H5.out rfl) rfl (by omega) (by omega) (flatH.blk H6.out rfl) rfl (by omega) (by omega) (by omega) (by omega))
  clear H5 H6
  refine HC.out.mono ?_
  rintro e w6 ⟨v, rfl, hn⟩
  rw [lv_hits] at *
  obtain ⟨Am, cm, rfl, hm1, hm2, hm3, hb⟩ := hn.at_
  have hm1 : 3 ≤ cm := hm1
  have HB6 := hide (Below.step HB5.out hb)
  have HBe := hide (Below.step HBd.out HB6.out)
  have HL6 := hide (HL4.out.step HB6.out)
  have HA6 := hide (HA4.out.below HB6.out HA4.out.lt)
  have HB7 := hide (HB4.out.below HB6.out HB4.out.lt)
  have HM6 := hide hm3
  clear HC hn hm3 hb HB5 HB6 HBd HL4 HA4 HB4
  go_upto_region 4 with fail
  generalize w4.heap.size = g5 at *
  refine wp_region_held_drew (S := Below w6.heap.size w6) (by kernel_rfl) (Below.refl _ _).drew (fun hHeld => ?_)
  generalize World.drew _ = W0 at *
  refine wpAnyH_take (i := 0) (v := .slice Am 3 cm) rfl (by kernel_rfl) (by kernel_rfl) (by kernel_rfl) (fun _ _ _ h => h) (Or.inl ⟨by rfl, fun W hS => by clear hS hHeld; go_simp⟩) hHeld ?_
  try simp only [Act.put, List.setIfInBounds_toArray, List.set_cons_zero, List.set_cons_succ, List.getElem_toArray, List.getElem_cons_zero, List.getElem_cons_succ]
  refine wpAnyH_take (i := 1) (v := .agg #[.int .u64 1, .int .u64 5]) rfl (by kernel_rfl) (by kernel_rfl) (by kernel_rfl) (fun _ _ _ h => h) (Or.inl ⟨by rfl, fun W hS => by clear hS hHeld; go_simp⟩) hHeld ?_
  try simp only [Act.put, List.setIfInBounds_toArray, List.set_cons_zero, List.set_cons_succ, List.getElem_toArray, List.getElem_cons_zero, List.getElem_cons_succ]
  refine wpAnyH_take (i := 2) (v := .agg #[.int .u64 2, .int .u64 9]) rfl (by kernel_rfl) (by kernel_rfl) (by kernel_rfl) (fun _ _ _ h => h) (Or.inl ⟨by rfl, fun W hS => by clear hS hHeld; go_simp⟩) hHeld ?_
  try simp only [Act.put, List.setIfInBounds_toArray, List.set_cons_zero, List.set_cons_succ, List.getElem_toArray, List.getElem_cons_zero, List.getElem_cons_succ]
  refine wpAnyH_take (i := 3) (v := .agg #[.int .u64 3, .int .u64 2]) rfl (by kernel_rfl) (by kernel_rfl) (by kernel_rfl) (fun _ _ _ h => h) (Or.inl ⟨by rfl, fun W hS => by clear hS hHeld; go_simp⟩) hHeld ?_
  try simp only [Act.put, List.setIfInBounds_toArray, List.set_cons_zero, List.set_cons_succ, List.getElem_toArray, List.getElem_cons_zero, List.getElem_cons_succ]
  refine wpAnyH_ready (rs := [4]) (by kernel_rfl) (by simp) ?_
  refine AllReadyH.cons rfl (fun K hK => ?_) AllReadyH.nil
  try simp only [Act.put, List.setIfInBounds_toArray, List.set_cons_zero, List.set_cons_succ, List.getElem_toArray, List.getElem_cons_zero, List.getElem_cons_succ]
  go_simp
  refine hK.out _ _ (Below.alloc hHeld (Below.size hHeld) _) (fun hHeld2 => ?_)
  clear hK K hHeld
  have hHeld := hHeld2
  clear hHeld2
  try simp only [Act.put, List.setIfInBounds_toArray, List.set_cons_zero, List.set_cons_succ, List.getElem_toArray, List.getElem_cons_zero, List.getElem_cons_succ]
  have Hx4 := hide (Blk.new W0 34 #[.int .u64 1, .int .u64 5, .int .u64 2, .int .u64 9, .int .u64 3, .int .u64 2])
  generalize W0.alloc (.cells #[.int .u64 1, .int .u64 5, .int .u64 2, .int .u64 9, .int .u64 3, .int .u64 2] 34) = W1 at *
  generalize W0.heap.size = gx4 at *
  refine wpAnyH_ready (rs := [5]) (by kernel_rfl) (by simp) ?_
  refine AllReadyH.cons rfl (fun K hK => ?_) AllReadyH.nil
  try simp only [Act.put, List.setIfInBounds_toArray, List.set_cons_zero, List.set_cons_succ, List.getElem_toArray, List.getElem_cons_zero, List.getElem_cons_succ]
  go_simp
  go_at_call 12
  refine (live_hits Am cm _ hm1 hm2 gx4 (HM6.out.step hHeld) Hx4.out).mono ?_
  rintro e W2 ⟨rfl, hb⟩
  refine hK.out _ _ (Below.step hHeld hb) (fun hHeld2 => ?_)
  clear hK K hHeld
  have hHeld := hHeld2
  clear hHeld2
  try simp only [Act.put, List.setIfInBounds_toArray, List.set_cons_zero, List.set_cons_succ, List.getElem_toArray, List.getElem_cons_zero, List.getElem_cons_succ]
  replace Hx4 := hide (Hx4.out.below hb Hx4.out.lt)
  clear hb
  clear Hx4
  refine wpAnyH_take (i := 6) (v := .bool true) rfl (by kernel_rfl) (by kernel_rfl) (by kernel_rfl) (fun _ _ _ h => h) (Or.inl ⟨by rfl, fun W hS => by clear hS hHeld; go_simp⟩) hHeld ?_
  try simp only [Act.put, List.setIfInBounds_toArray, List.set_cons_zero, List.set_cons_succ, List.getElem_toArray, List.getElem_cons_zero, List.getElem_cons_succ]
  refine wpAnyH_take (i := 7) (v := .slice Al 3 cl) rfl (by kernel_rfl) (by kernel_rfl) (by kernel_rfl) (fun _ _ _ h => h) (Or.inl ⟨by rfl, fun W hS => by clear hS hHeld; go_simp⟩) hHeld ?_
  try simp only [Act.put, List.setIfInBounds_toArray, List.set_cons_zero, List.set_cons_succ, List.getElem_toArray, List.getElem_cons_zero, List.getElem_cons_succ]
  refine wpAnyH_take (i := 8) (v := .agg #[.int .u64 1, .int .u64 5, .int .i64 3]) rfl (by kernel_rfl) (by kernel_rfl) (by kernel_rfl) (fun _ _ _ h => h) (Or.inl ⟨by rfl, fun W hS => by have hl := HA6.out.lt; have hk : ∀ j, W.cell? ⟨w.heap.size, j, none⟩ = w6.cell? ⟨w.heap.size, j, none⟩ := fun j => Below.cell hS hl; have z0 : W.cell? ⟨w.heap.size, 0, none⟩ = some (.int .u64 1) := (hk 0).trans (HA6.out.cell 0); have z1 : W.cell? ⟨w.heap.size, 1, none⟩ = some (.int .u64 5) := (hk 1).trans (HA6.out.cell 1); have z2 : W.cell? ⟨w.heap.size, 2, none⟩ = some (.int .i64 3) := (hk 2).trans (HA6.out.cell 2); clear hk hl; clear hS hHeld; go_simp⟩) hHeld ?_
  try simp only [Act.put, List.setIfInBounds_toArray, List.set_cons_zero, List.set_cons_succ, List.getElem_toArray, List.getElem_cons_zero, List.getElem_cons_succ]
  refine wpAnyH_take (i := 9) (v := .agg #[.int .u64 1, .int .u64 5, .int .i64 4]) rfl (by kernel_rfl) (by kernel_rfl) (by kernel_rfl) (fun _ _ _ h => h) (Or.inl ⟨by rfl, fun W hS => by have hl := HB7.out.lt; have hk : ∀ j, W.cell? ⟨gb, j, none⟩ = w6.cell? ⟨gb, j, none⟩ := fun j => Below.cell hS hl; have z0 : W.cell? ⟨gb, 0, none⟩ = some (.int .u64 1) := (hk 0).trans (HB7.out.cell 0); have z1 : W.cell? ⟨gb, 1, none⟩ = some (.int .u64 5) := (hk 1).trans (HB7.out.cell 1); have z2 : W.cell? ⟨gb, 2, none⟩ = some (.int .i64 4) := (hk 2).trans (HB7.out.cell 2); clear hk hl; clear hS hHeld; go_simp⟩) hHeld ?_
  try simp only [Act.put, List.setIfInBounds_toArray, List.set_cons_zero, List.set_cons_succ, List.getElem_toArray, List.getElem_cons_zero, List.getElem_cons_succ]
  refine wpAnyH_take (i := 10) (v := .agg #[.int .u64 1, .int .u64 5, .int .i64 4]) rfl (by kernel_rfl) (by kernel_rfl) (by kernel_rfl) (fun _ _ _ h => h) (Or.inl ⟨by rfl, fun W hS => by have hl := HB7.out.lt; have hk : ∀ j, W.cell? ⟨gb, j, none⟩ = w6.cell? ⟨gb, j, none⟩ := fun j => Below.cell hS hl; have z0 : W.cell? ⟨gb, 0, none⟩ = some (.int .u64 1) := (hk 0).trans (HB7.out.cell 0); have z1 : W.cell? ⟨gb, 1, none⟩ = some (.int .u64 5) := (hk 1).trans (HB7.out.cell 1); have z2 : W.cell? ⟨gb, 2, none⟩ = some (.int .i64 4) := (hk 2).trans (HB7.out.cell 2); clear hk hl; clear hS hHeld; go_simp⟩) hHeld ?_
  try simp only [Act.put, List.setIfInBounds_toArray, List.set_cons_zero, List.set_cons_succ, List.getElem_toArray, List.getElem_cons_zero, List.getElem_cons_succ]
  refine wpAnyH_ready (rs := [11]) (by kernel_rfl) (by simp) ?_
  refine AllReadyH.cons rfl (fun K hK => ?_) AllReadyH.nil
  try simp only [Act.put, List.setIfInBounds_toArray, List.set_cons_zero, List.set_cons_succ, List.getElem_toArray, List.getElem_cons_zero, List.getElem_cons_succ]
  go_simp
  refine hK.out _ _ (Below.alloc hHeld (Below.size hHeld) _) (fun hHeld2 => ?_)
  clear hK K hHeld
  have hHeld := hHeld2
  clear hHeld2
  try simp only [Act.put, List.setIfInBounds_toArray, List.set_cons_zero, List.set_cons_succ, List.getElem_toArray, List.getElem_cons_zero, List.getElem_cons_succ]
  have Hx11 := hide (Blk.new W2 36 #[.int .u64 1, .int .u64 5, .int .i64 3, .int .u64 1, .int .u64 5, .int .i64 4, .int .u64 1, .int .u64 5, .int .i64 4])
  generalize W2.alloc (.cells #[.int .u64 1, .int .u64 5, .int .i64 3, .int .u64 1, .int .u64 5, .int .i64 4, .int .u64 1, .int .u64 5, .int .i64 4] 36) = W3 at *
  generalize W2.heap.size = gx11 at *
  refine wpAnyH_ready (rs := [12]) (by kernel_rfl) (by simp) ?_
  refine AllReadyH.cons rfl (fun K hK => ?_) AllReadyH.nil
  try simp only [Act.put, List.setIfInBounds_toArray, List.set_cons_zero, List.set_cons_succ, List.getElem_toArray, List.getElem_cons_zero, List.getElem_cons_succ]
  go_simp
  go_at_call 7
  refine (live_spots Al cl _ hl1 hl2 gx11 (HL6.out.step hHeld) Hx11.out).mono ?_
  rintro e W4 ⟨rfl, hb⟩
  refine hK.out _ _ (Below.step hHeld hb) (fun hHeld2 => ?_)
  clear hK K hHeld
  have hHeld := hHeld2
  clear hHeld2
  try simp only [Act.put, List.setIfInBounds_toArray, List.set_cons_zero, List.set_cons_succ, List.getElem_toArray, List.getElem_cons_zero, List.getElem_cons_succ]
  replace Hx11 := hide (Hx11.out.below hb Hx11.out.lt)
  clear hb
  clear Hx11
  refine wpAnyH_take (i := 13) (v := .bool true) rfl (by kernel_rfl) (by kernel_rfl) (by kernel_rfl) (fun _ _ _ h => h) (Or.inl ⟨by rfl, fun W hS => by clear hS hHeld; go_simp⟩) hHeld ?_
  try simp only [Act.put, List.setIfInBounds_toArray, List.set_cons_zero, List.set_cons_succ, List.getElem_toArray, List.getElem_cons_zero, List.getElem_cons_succ]
  refine wpAnyH_take (i := 14) (v := .bool true) rfl (by kernel_rfl) (by kernel_rfl) (by kernel_rfl) (fun _ _ _ h => h) (Or.inl ⟨by rfl, fun W hS => by clear hS hHeld; go_simp⟩) hHeld ?_
  try simp only [Act.put, List.setIfInBounds_toArray, List.set_cons_zero, List.set_cons_succ, List.getElem_toArray, List.getElem_cons_zero, List.getElem_cons_succ]
  refine wpAnyH_take (i := 15) (v := .slice Al 3 cl) rfl (by kernel_rfl) (by kernel_rfl) (by kernel_rfl) (fun _ _ _ h => h) (Or.inl ⟨by rfl, fun W hS => by clear hS hHeld; go_simp⟩) hHeld ?_
  try simp only [Act.put, List.setIfInBounds_toArray, List.set_cons_zero, List.set_cons_succ, List.getElem_toArray, List.getElem_cons_zero, List.getElem_cons_succ]
  refine wpAnyH_take (i := 17) (v := .agg #[.int .u64 1, .int .u64 5, .int .i64 3]) rfl (by kernel_rfl) (by kernel_rfl) (by kernel_rfl) (fun _ _ _ h => h) (Or.inl ⟨by rfl, fun W hS => by have hl := HA6.out.lt; have hk : ∀ j, W.cell? ⟨w.heap.size, j, none⟩ = w6.cell? ⟨w.heap.size, j, none⟩ := fun j => Below.cell hS hl; have z0 : W.cell? ⟨w.heap.size, 0, none⟩ = some (.int .u64 1) := (hk 0).trans (HA6.out.cell 0); have z1 : W.cell? ⟨w.heap.size, 1, none⟩ = some (.int .u64 5) := (hk 1).trans (HA6.out.cell 1); have z2 : W.cell? ⟨w.heap.size, 2, none⟩ = some (.int .i64 3) := (hk 2).trans (HA6.out.cell 2); clear hk hl; clear hS hHeld; go_simp⟩) hHeld ?_
  try simp only [Act.put, List.setIfInBounds_toArray, List.set_cons_zero, List.set_cons_succ, List.getElem_toArray, List.getElem_cons_zero, List.getElem_cons_succ]
  refine wpAnyH_merge 38 #[true, true, true, true, true, true, true, true, true, true, true, true, true, true, true, true, true, true, true, true, false, false, false, false, false, false, false, false, false, false, false, false, false, false, false, false, false, false, false, false, false, false, false, false, false, false, false, false, false, false, false, false, false, false, false, false, false, false] (fun p1 p2 p3 p4 a => ⟨(((a.tmps.setIfInBounds 37 (p1)).setIfInBounds 39 (p2)).setIfInBounds 40 (.bool true)), a.defers⟩) (fun _ _ _ => True) (fun p1 p2 p3 p4 W hHeld _ => ?_) (fun htail => ?_)
  · try simp only [Act.put, List.setIfInBounds_toArray, List.set_cons_zero, List.set_cons_succ, List.getElem_toArray, List.getElem_cons_zero, List.getElem_cons_succ]
    generalize W = W24 at *
    refine wpAnyH_take (i := 20) (v := .bool true) rfl (by kernel_rfl) (by kernel_rfl) (by kernel_rfl) (fun _ _ _ h => h) (Or.inl ⟨by rfl, fun W hS => by clear hS hHeld; go_simp⟩) hHeld ?_
    try simp only [Act.put, List.setIfInBounds_toArray, List.set_cons_zero, List.set_cons_succ, List.getElem_toArray, List.getElem_cons_zero, List.getElem_cons_succ]
    refine wpAnyH_take (i := 21) (v := .bool true) rfl (by kernel_rfl) (by kernel_rfl) (by kernel_rfl) (fun _ _ _ h => h) (Or.inl ⟨by rfl, fun W hS => by clear hS hHeld; go_simp⟩) hHeld ?_
    try simp only [Act.put, List.setIfInBounds_toArray, List.set_cons_zero, List.set_cons_succ, List.getElem_toArray, List.getElem_cons_zero, List.getElem_cons_succ]
    refine wpAnyH_take (i := 22) (v := .slice Al 3 cl) rfl (by kernel_rfl) (by kernel_rfl) (by kernel_rfl) (fun _ _ _ h => h) (Or.inl ⟨by rfl, fun W hS => by clear hS hHeld; go_simp⟩) hHeld ?_
    try simp only [Act.put, List.setIfInBounds_toArray, List.set_cons_zero, List.set_cons_succ, List.getElem_toArray, List.getElem_cons_zero, List.getElem_cons_succ]
    refine wpAnyH_ready (rs := [23]) (by kernel_rfl) (by simp) ?_
    refine AllReadyH.cons rfl (fun K hK => ?_) AllReadyH.nil
    try simp only [Act.put, List.setIfInBounds_toArray, List.set_cons_zero, List.set_cons_succ, List.getElem_toArray, List.getElem_cons_zero, List.getElem_cons_succ]
    go_simp
    go_at_call 10
    refine (live_least Al cl _ hl1 hl2 (-1) 0 (by decide) (by omega) (HL6.out.step hHeld)).mono ?_
    rintro e W25 ⟨Ax, cx, rfl, hx1, hx2, _, hb⟩
    refine hK.out _ _ (Below.step hHeld hb) (fun hHeld2 => ?_)
    clear hK K hHeld
    have hHeld := hHeld2
    clear hHeld2
    try simp only [Act.put, List.setIfInBounds_toArray, List.set_cons_zero, List.set_cons_succ, List.getElem_toArray, List.getElem_cons_zero, List.getElem_cons_succ]
    clear hb
    refine wpAnyH_take (i := 24) (v := .int .i64 0) rfl (by kernel_rfl) (by kernel_rfl) (by kernel_rfl) (fun _ _ _ h => h) (Or.inl ⟨by rfl, fun W hS => by clear hS hHeld; go_simp⟩) hHeld ?_
    try simp only [Act.put, List.setIfInBounds_toArray, List.set_cons_zero, List.set_cons_succ, List.getElem_toArray, List.getElem_cons_zero, List.getElem_cons_succ]
    refine wpAnyH_take (i := 25) (v := .bool true) rfl (by kernel_rfl) (by kernel_rfl) (by kernel_rfl) (fun _ _ _ h => h) (Or.inl ⟨by rfl, fun W hS => by clear hS hHeld; go_simp⟩) hHeld ?_
    try simp only [Act.put, List.setIfInBounds_toArray, List.set_cons_zero, List.set_cons_succ, List.getElem_toArray, List.getElem_cons_zero, List.getElem_cons_succ]
    refine wpAnyH_take (i := 26) (v := .bool true) rfl (by kernel_rfl) (by kernel_rfl) (by kernel_rfl) (fun _ _ _ h => h) (Or.inl ⟨by rfl, fun W hS => by clear hS hHeld; go_simp⟩) hHeld ?_
    try simp only [Act.put, List.setIfInBounds_toArray, List.set_cons_zero, List.set_cons_succ, List.getElem_toArray, List.getElem_cons_zero, List.getElem_cons_succ]
    refine wpAnyH_take (i := 27) (v := .bool true) rfl (by kernel_rfl) (by kernel_rfl) (by kernel_rfl) (fun _ _ _ h => h) (Or.inl ⟨by rfl, fun W hS => by clear hS hHeld; go_simp⟩) hHeld ?_
    try simp only [Act.put, List.setIfInBounds_toArray, List.set_cons_zero, List.set_cons_succ, List.getElem_toArray, List.getElem_cons_zero, List.getElem_cons_succ]
    refine wpAnyH_take (i := 28) (v := .slice Al 3 cl) rfl (by kernel_rfl) (by kernel_rfl) (by kernel_rfl) (fun _ _ _ h => h) (Or.inl ⟨by rfl, fun W hS => by clear hS hHeld; go_simp⟩) hHeld ?_
    try simp only [Act.put, List.setIfInBounds_toArray, List.set_cons_zero, List.set_cons_succ, List.getElem_toArray, List.getElem_cons_zero, List.getElem_cons_succ]
    refine wpAnyH_ready (rs := [29]) (by kernel_rfl) (by simp) ?_
    refine AllReadyH.cons rfl (fun K hK => ?_) AllReadyH.nil
    try simp only [Act.put, List.setIfInBounds_toArray, List.set_cons_zero, List.set_cons_succ, List.getElem_toArray, List.getElem_cons_zero, List.getElem_cons_succ]
    go_simp
    go_at_call 10
    refine (live_least Al cl _ hl1 hl2 9 3 (by decide) (by omega) (HL6.out.step hHeld)).mono ?_
    rintro e W26 ⟨Ay, cy, rfl, hy1, hy2, _, hb⟩
    refine hK.out _ _ (Below.step hHeld hb) (fun hHeld2 => ?_)
    clear hK K hHeld
    have hHeld := hHeld2
    clear hHeld2
    try simp only [Act.put, List.setIfInBounds_toArray, List.set_cons_zero, List.set_cons_succ, List.getElem_toArray, List.getElem_cons_zero, List.getElem_cons_succ]
    clear hb
    refine wpAnyH_take (i := 30) (v := .int .i64 3) rfl (by kernel_rfl) (by kernel_rfl) (by kernel_rfl) (fun _ _ _ h => h) (Or.inl ⟨by rfl, fun W hS => by clear hS hHeld; go_simp⟩) hHeld ?_
    try simp only [Act.put, List.setIfInBounds_toArray, List.set_cons_zero, List.set_cons_succ, List.getElem_toArray, List.getElem_cons_zero, List.getElem_cons_succ]
    refine wpAnyH_take (i := 31) (v := .bool true) rfl (by kernel_rfl) (by kernel_rfl) (by kernel_rfl) (fun _ _ _ h => h) (Or.inl ⟨by rfl, fun W hS => by clear hS hHeld; go_simp⟩) hHeld ?_
    try simp only [Act.put, List.setIfInBounds_toArray, List.set_cons_zero, List.set_cons_succ, List.getElem_toArray, List.getElem_cons_zero, List.getElem_cons_succ]
    refine wpAnyH_take (i := 32) (v := .bool true) rfl (by kernel_rfl) (by kernel_rfl) (by kernel_rfl) (fun _ _ _ h => h) (Or.inl ⟨by rfl, fun W hS => by clear hS hHeld; go_simp⟩) hHeld ?_
    try simp only [Act.put, List.setIfInBounds_toArray, List.set_cons_zero, List.set_cons_succ, List.getElem_toArray, List.getElem_cons_zero, List.getElem_cons_succ]
    refine wpAnyH_take (i := 33) (v := .bool true) rfl (by kernel_rfl) (by kernel_rfl) (by kernel_rfl) (fun _ _ _ h => h) (Or.inl ⟨by rfl, fun W hS => by clear hS hHeld; go_simp⟩) hHeld ?_
    try simp only [Act.put, List.setIfInBounds_toArray, List.set_cons_zero, List.set_cons_succ, List.getElem_toArray, List.getElem_cons_zero, List.getElem_cons_succ]
    refine wpAnyH_take (i := 34) (v := .agg #[.int .u64 1, .int .u64 5, .int .i64 3]) rfl (by kernel_rfl) (by kernel_rfl) (by kernel_rfl) (fun _ _ _ h => h) (Or.inl ⟨by rfl, fun W hS => by have hl := HA6.out.lt; have hk : ∀ j, W.cell? ⟨w.heap.size, j, none⟩ = w6.cell? ⟨w.heap.size, j, none⟩ := fun j => Below.cell hS hl; have z0 : W.cell? ⟨w.heap.size, 0, none⟩ = some (.int .u64 1) := (hk 0).trans (HA6.out.cell 0); have z1 : W.cell? ⟨w.heap.size, 1, none⟩ = some (.int .u64 5) := (hk 1).trans (HA6.out.cell 1); have z2 : W.cell? ⟨w.heap.size, 2, none⟩ = some (.int .i64 3) := (hk 2).trans (HA6.out.cell 2); clear hk hl; clear hS hHeld; go_simp⟩) hHeld ?_
    try simp only [Act.put, List.setIfInBounds_toArray, List.set_cons_zero, List.set_cons_succ, List.getElem_toArray, List.getElem_cons_zero, List.getElem_cons_succ]
    refine wpAnyH_take (i := 35) (v := .agg #[.int .u64 1, .int .u64 5, .int .i64 4]) rfl (by kernel_rfl) (by kernel_rfl) (by kernel_rfl) (fun _ _ _ h => h) (Or.inl ⟨by rfl, fun W hS => by have hl := HB7.out.lt; have hk : ∀ j, W.cell? ⟨gb, j, none⟩ = w6.cell? ⟨gb, j, none⟩ := fun j => Below.cell hS hl; have z0 : W.cell? ⟨gb, 0, none⟩ = some (.int .u64 1) := (hk 0).trans (HB7.out.cell 0); have z1 : W.cell? ⟨gb, 1, none⟩ = some (.int .u64 5) := (hk 1).trans (HB7.out.cell 1); have z2 : W.cell? ⟨gb, 2, none⟩ = some (.int .i64 4) := (hk 2).trans (HB7.out.cell 2); clear hk hl; clear hS hHeld; go_simp⟩) hHeld ?_
    try simp only [Act.put, List.setIfInBounds_toArray, List.set_cons_zero, List.set_cons_succ, List.getElem_toArray, List.getElem_cons_zero, List.getElem_cons_succ]
    refine wpAnyH_ready (rs := [36]) (by kernel_rfl) (by simp) ?_
    refine AllReadyH.cons rfl (fun K hK => ?_) AllReadyH.nil
    try simp only [Act.put, List.setIfInBounds_toArray, List.set_cons_zero, List.set_cons_succ, List.getElem_toArray, List.getElem_cons_zero, List.getElem_cons_succ]
    go_simp
    go_at_call 17
    refine (live_spot _).mono ?_
    rintro e W27 ⟨rfl, hb⟩
    refine hK.out _ _ (Below.step hHeld hb) (fun hHeld2 => ?_)
    clear hK K hHeld
    have hHeld := hHeld2
    clear hHeld2
    try simp only [Act.put, List.setIfInBounds_toArray, List.set_cons_zero, List.set_cons_succ, List.getElem_toArray, List.getElem_cons_zero, List.getElem_cons_succ]
    clear hb
    refine wpAnyH_take (i := 37) (v := .bool true) rfl (by kernel_rfl) (by kernel_rfl) (by kernel_rfl) (fun _ _ _ h => h) (Or.inl ⟨by rfl, fun W hS => by clear hS hHeld; go_simp⟩) hHeld ?_
    try simp only [Act.put, List.setIfInBounds_toArray, List.set_cons_zero, List.set_cons_succ, List.getElem_toArray, List.getElem_cons_zero, List.getElem_cons_succ]
    refine wpAnyH_take (i := 38) (v := .bool true) rfl (by kernel_rfl) (by kernel_rfl) (by kernel_rfl) (fun _ _ _ h => h) (Or.inl ⟨by rfl, fun W hS => by clear hS hHeld; go_simp⟩) hHeld ?_
    try simp only [Act.put, List.setIfInBounds_toArray, List.set_cons_zero, List.set_cons_succ, List.getElem_toArray, List.getElem_cons_zero, List.getElem_cons_succ]
    refine wpAnyH_take (i := 39) (v := .pointer (some ⟨w.heap.size, 0, none⟩)) rfl (by kernel_rfl) (by kernel_rfl) (by kernel_rfl) (fun _ _ _ h => h) (Or.inl ⟨by rfl, fun W hS => by clear hS hHeld; go_simp⟩) hHeld ?_
    try simp only [Act.put, List.setIfInBounds_toArray, List.set_cons_zero, List.set_cons_succ, List.getElem_toArray, List.getElem_cons_zero, List.getElem_cons_succ]
    refine wpAnyH_take (i := 40) (v := .agg #[.int .u64 1, .int .u64 5]) rfl (by kernel_rfl) (by kernel_rfl) (by kernel_rfl) (fun _ _ _ h => h) (Or.inl ⟨by rfl, fun W hS => by have hl := HA6.out.lt; have hk : ∀ j, W.cell? ⟨w.heap.size, j, none⟩ = w6.cell? ⟨w.heap.size, j, none⟩ := fun j => Below.cell hS hl; have z0 : W.cell? ⟨w.heap.size, 0, none⟩ = some (.int .u64 1) := (hk 0).trans (HA6.out.cell 0); have z1 : W.cell? ⟨w.heap.size, 1, none⟩ = some (.int .u64 5) := (hk 1).trans (HA6.out.cell 1); clear hk hl; clear hS hHeld; go_simp⟩) hHeld ?_
    try simp only [Act.put, List.setIfInBounds_toArray, List.set_cons_zero, List.set_cons_succ, List.getElem_toArray, List.getElem_cons_zero, List.getElem_cons_succ]
    refine wpAnyH_take (i := 41) (v := .pointer (some ⟨gb, 0, none⟩)) rfl (by kernel_rfl) (by kernel_rfl) (by kernel_rfl) (fun _ _ _ h => h) (Or.inl ⟨by rfl, fun W hS => by clear hS hHeld; go_simp⟩) hHeld ?_
    try simp only [Act.put, List.setIfInBounds_toArray, List.set_cons_zero, List.set_cons_succ, List.getElem_toArray, List.getElem_cons_zero, List.getElem_cons_succ]
    refine wpAnyH_take (i := 42) (v := .agg #[.int .u64 1, .int .u64 5]) rfl (by kernel_rfl) (by kernel_rfl) (by kernel_rfl) (fun _ _ _ h => h) (Or.inl ⟨by rfl, fun W hS => by have hl := HB7.out.lt; have hk : ∀ j, W.cell? ⟨gb, j, none⟩ = w6.cell? ⟨gb, j, none⟩ := fun j => Below.cell hS hl; have z0 : W.cell? ⟨gb, 0, none⟩ = some (.int .u64 1) := (hk 0).trans (HB7.out.cell 0); have z1 : W.cell? ⟨gb, 1, none⟩ = some (.int .u64 5) := (hk 1).trans (HB7.out.cell 1); clear hk hl; clear hS hHeld; go_simp⟩) hHeld ?_
    try simp only [Act.put, List.setIfInBounds_toArray, List.set_cons_zero, List.set_cons_succ, List.getElem_toArray, List.getElem_cons_zero, List.getElem_cons_succ]
    refine wpAnyH_ready (rs := [43]) (by kernel_rfl) (by simp) ?_
    refine AllReadyH.cons rfl (fun K hK => ?_) AllReadyH.nil
    try simp only [Act.put, List.setIfInBounds_toArray, List.set_cons_zero, List.set_cons_succ, List.getElem_toArray, List.getElem_cons_zero, List.getElem_cons_succ]
    go_simp
    go_at_call 18
    refine (live_hit _).mono ?_
    rintro e W28 ⟨rfl, hb⟩
    refine hK.out _ _ (Below.step hHeld hb) (fun hHeld2 => ?_)
    clear hK K hHeld
    have hHeld := hHeld2
    clear hHeld2
    try simp only [Act.put, List.setIfInBounds_toArray, List.set_cons_zero, List.set_cons_succ, List.getElem_toArray, List.getElem_cons_zero, List.getElem_cons_succ]
    clear hb
    refine wpAnyH_take (i := 44) (v := .bool true) rfl (by kernel_rfl) (by kernel_rfl) (by kernel_rfl) (fun _ _ _ h => h) (Or.inl ⟨by rfl, fun W hS => by clear hS hHeld; go_simp⟩) hHeld ?_
    try simp only [Act.put, List.setIfInBounds_toArray, List.set_cons_zero, List.set_cons_succ, List.getElem_toArray, List.getElem_cons_zero, List.getElem_cons_succ]
    refine wpAnyH_take (i := 45) (v := .bool true) rfl (by kernel_rfl) (by kernel_rfl) (by kernel_rfl) (fun _ _ _ h => h) (Or.inl ⟨by rfl, fun W hS => by clear hS hHeld; go_simp⟩) hHeld ?_
    try simp only [Act.put, List.setIfInBounds_toArray, List.set_cons_zero, List.set_cons_succ, List.getElem_toArray, List.getElem_cons_zero, List.getElem_cons_succ]
    refine wpAnyH_take (i := 46) (v := .bool true) rfl (by kernel_rfl) (by kernel_rfl) (by kernel_rfl) (fun _ _ _ h => h) (Or.inl ⟨by rfl, fun W hS => by clear hS hHeld; go_simp⟩) hHeld ?_
    try simp only [Act.put, List.setIfInBounds_toArray, List.set_cons_zero, List.set_cons_succ, List.getElem_toArray, List.getElem_cons_zero, List.getElem_cons_succ]
    refine wpAnyH_take (i := 47) (v := .slice Am 3 cm) rfl (by kernel_rfl) (by kernel_rfl) (by kernel_rfl) (fun _ _ _ h => h) (Or.inl ⟨by rfl, fun W hS => by clear hS hHeld; go_simp⟩) hHeld ?_
    try simp only [Act.put, List.setIfInBounds_toArray, List.set_cons_zero, List.set_cons_succ, List.getElem_toArray, List.getElem_cons_zero, List.getElem_cons_succ]
    refine wpAnyH_ready (rs := [48]) (by kernel_rfl) (by simp) ?_
    refine AllReadyH.cons rfl (fun K hK => ?_) AllReadyH.nil
    try simp only [Act.put, List.setIfInBounds_toArray, List.set_cons_zero, List.set_cons_succ, List.getElem_toArray, List.getElem_cons_zero, List.getElem_cons_succ]
    go_simp
    go_at_call 15
    refine (live_rising Am cm _ 3 [(1, 5), (2, 9), (3, 2)] true (by decide) rfl (by omega) hm1 hm2 (HM6.out.step hHeld)).mono ?_
    rintro e W29 ⟨rfl, hb⟩
    refine hK.out _ _ (Below.step hHeld hb) (fun hHeld2 => ?_)
    clear hK K hHeld
    have hHeld := hHeld2
    clear hHeld2
    try simp only [Act.put, List.setIfInBounds_toArray, List.set_cons_zero, List.set_cons_succ, List.getElem_toArray, List.getElem_cons_zero, List.getElem_cons_succ]
    clear hb
    refine wpAnyH_take (i := 49) (v := .bool true) rfl (by kernel_rfl) (by kernel_rfl) (by kernel_rfl) (fun _ _ _ h => h) (Or.inl ⟨by rfl, fun W hS => by clear hS hHeld; go_simp⟩) hHeld ?_
    try simp only [Act.put, List.setIfInBounds_toArray, List.set_cons_zero, List.set_cons_succ, List.getElem_toArray, List.getElem_cons_zero, List.getElem_cons_succ]
    refine wpAnyH_take (i := 50) (v := .bool true) rfl (by kernel_rfl) (by kernel_rfl) (by kernel_rfl) (fun _ _ _ h => h) (Or.inl ⟨by rfl, fun W hS => by clear hS hHeld; go_simp⟩) hHeld ?_
    try simp only [Act.put, List.setIfInBounds_toArray, List.set_cons_zero, List.set_cons_succ, List.getElem_toArray, List.getElem_cons_zero, List.getElem_cons_succ]
    refine wpAnyH_take (i := 51) (v := .agg #[.int .u64 0, .int .u64 0]) rfl (by kernel_rfl) (by kernel_rfl) (by kernel_rfl) (fun _ _ _ h => h) (Or.inl ⟨by rfl, fun W hS => by clear hS hHeld; go_simp⟩) hHeld ?_
    try simp only [Act.put, List.setIfInBounds_toArray, List.set_cons_zero, List.set_cons_succ, List.getElem_toArray, List.getElem_cons_zero, List.getElem_cons_succ]
    refine wpAnyH_take (i := 52) (v := .agg #[.int .u64 0, .int .u64 0]) rfl (by kernel_rfl) (by kernel_rfl) (by kernel_rfl) (fun _ _ _ h => h) (Or.inl ⟨by rfl, fun W hS => by clear hS hHeld; go_simp⟩) hHeld ?_
    try simp only [Act.put, List.setIfInBounds_toArray, List.set_cons_zero, List.set_cons_succ, List.getElem_toArray, List.getElem_cons_zero, List.getElem_cons_succ]
    refine wpAnyH_ready (rs := [53]) (by kernel_rfl) (by simp) ?_
    refine AllReadyH.cons rfl (fun K hK => ?_) AllReadyH.nil
    try simp only [Act.put, List.setIfInBounds_toArray, List.set_cons_zero, List.set_cons_succ, List.getElem_toArray, List.getElem_cons_zero, List.getElem_cons_succ]
    go_simp
    refine hK.out _ _ (Below.alloc hHeld (Below.size hHeld) _) (fun hHeld2 => ?_)
    clear hK K hHeld
    have hHeld := hHeld2
    clear hHeld2
    try simp only [Act.put, List.setIfInBounds_toArray, List.set_cons_zero, List.set_cons_succ, List.getElem_toArray, List.getElem_cons_zero, List.getElem_cons_succ]
    have Hx53 := hide (Blk.new W29 34 #[.int .u64 0, .int .u64 0, .int .u64 0, .int .u64 0])
    generalize W29.alloc (.cells #[.int .u64 0, .int .u64 0, .int .u64 0, .int .u64 0] 34) = W30 at *
    generalize W29.heap.size = gx53 at *
    refine wpAnyH_ready (rs := [54]) (by kernel_rfl) (by simp) ?_
    refine AllReadyH.cons rfl (fun K hK => ?_) AllReadyH.nil
    try simp only [Act.put, List.setIfInBounds_toArray, List.set_cons_zero, List.set_cons_succ, List.getElem_toArray, List.getElem_cons_zero, List.getElem_cons_succ]
    go_simp
    go_at_call 15
    refine (live_rising (some ⟨gx53, 0, none⟩) 2 _ 2 [(0, 0), (0, 0)] false (by decide) rfl (by omega) (by omega) (by omega) (flatH.blk Hx53.out rfl)).mono ?_
    rintro e W31 ⟨rfl, hb⟩
    refine hK.out _ _ (Below.step hHeld hb) (fun hHeld2 => ?_)
    clear hK K hHeld
    have hHeld := hHeld2
    clear hHeld2
    try simp only [Act.put, List.setIfInBounds_toArray, List.set_cons_zero, List.set_cons_succ, List.getElem_toArray, List.getElem_cons_zero, List.getElem_cons_succ]
    replace Hx53 := hide (Hx53.out.below hb Hx53.out.lt)
    clear hb
    refine wpAnyH_take (i := 55) (v := .bool true) rfl (by kernel_rfl) (by kernel_rfl) (by kernel_rfl) (fun _ _ _ h => h) (Or.inl ⟨by rfl, fun W hS => by clear hS hHeld; go_simp⟩) hHeld ?_
    try simp only [Act.put, List.setIfInBounds_toArray, List.set_cons_zero, List.set_cons_succ, List.getElem_toArray, List.getElem_cons_zero, List.getElem_cons_succ]
    refine wpAnyH_take (i := 56) (v := .bool true) rfl (by kernel_rfl) (by kernel_rfl) (by kernel_rfl) (fun _ _ _ h => h) (Or.inl ⟨by rfl, fun W hS => by clear hS hHeld; go_simp⟩) hHeld ?_
    try simp only [Act.put, List.setIfInBounds_toArray, List.set_cons_zero, List.set_cons_succ, List.getElem_toArray, List.getElem_cons_zero, List.getElem_cons_succ]
    refine wpAnyH_take (i := 57) (v := .bool true) rfl (by kernel_rfl) (by kernel_rfl) (by kernel_rfl) (fun _ _ _ h => h) (Or.inl ⟨by rfl, fun W hS => by clear hS hHeld; go_simp⟩) hHeld ?_
    try simp only [Act.put, List.setIfInBounds_toArray, List.set_cons_zero, List.set_cons_succ, List.getElem_toArray, List.getElem_cons_zero, List.getElem_cons_succ]
    refine wpAnyH_done (by kernel_rfl) ?_ _
    go_wp2
    go_ret
    exact ⟨rfl, Below.step HBe.out hHeld⟩
  try simp only [Act.put, List.setIfInBounds_toArray, List.set_cons_zero, List.set_cons_succ, List.getElem_toArray, List.getElem_cons_zero, List.getElem_cons_succ] at htail
  refine wpAnyH_ready (rs := [16, 18]) (by kernel_rfl) (by simp) ?_
  refine AllReadyH.cons rfl (fun K hK => ?_) ?_
  · try simp only [Act.put, List.setIfInBounds_toArray, List.set_cons_zero, List.set_cons_succ, List.getElem_toArray, List.getElem_cons_zero, List.getElem_cons_succ]
    go_simp
    go_at_call 10
    refine (live_least Al cl _ hl1 hl2 1 1 (by decide) (by omega) (HL6.out.step hHeld)).mono ?_
    rintro e W5 ⟨A1, c1, rfl, h11, h12, h13, hb⟩
    refine hK.out _ _ (Below.step hHeld hb) (fun hHeld2 => ?_)
    clear hK K hHeld
    have hHeld := hHeld2
    clear hHeld2
    try simp only [Act.put, List.setIfInBounds_toArray, List.set_cons_zero, List.set_cons_succ, List.getElem_toArray, List.getElem_cons_zero, List.getElem_cons_succ]
    have HR1 := hide h13
    clear h13
    clear hb
    refine wpAnyH_ready (rs := [18]) (by kernel_rfl) (by simp) ?_
    refine AllReadyH.cons rfl (fun K hK => ?_) AllReadyH.nil
    try simp only [Act.put, List.setIfInBounds_toArray, List.set_cons_zero, List.set_cons_succ, List.getElem_toArray, List.getElem_cons_zero, List.getElem_cons_succ]
    go_simp
    refine hK.out _ _ (Below.alloc hHeld (Below.size hHeld) _) (fun hHeld2 => ?_)
    clear hK K hHeld
    have hHeld := hHeld2
    clear hHeld2
    try simp only [Act.put, List.setIfInBounds_toArray, List.set_cons_zero, List.set_cons_succ, List.getElem_toArray, List.getElem_cons_zero, List.getElem_cons_succ]
    replace HR1 := hide (Rd.step HR1.out (below1 W5 (.cells #[.int .u64 1, .int .u64 5, .int .i64 3] 36)))
    have Hx18 := hide (Blk.new W5 36 #[.int .u64 1, .int .u64 5, .int .i64 3])
    generalize W5.alloc (.cells #[.int .u64 1, .int .u64 5, .int .i64 3] 36) = W6 at *
    generalize W5.heap.size = gx18 at *
    refine wpAnyH_ready (rs := [19]) (by kernel_rfl) (by simp) ?_
    refine AllReadyH.cons rfl (fun K hK => ?_) AllReadyH.nil
    try simp only [Act.put, List.setIfInBounds_toArray, List.set_cons_zero, List.set_cons_succ, List.getElem_toArray, List.getElem_cons_zero, List.getElem_cons_succ]
    go_simp
    go_at_call 7
    refine (live_one A1 c1 _ gx18 h11 h12 HR1.out Hx18.out).mono ?_
    rintro e W7 ⟨rfl, hb⟩
    refine hK.out _ _ (Below.step hHeld hb) (fun hHeld2 => ?_)
    clear hK K hHeld
    have hHeld := hHeld2
    clear hHeld2
    try simp only [Act.put, List.setIfInBounds_toArray, List.set_cons_zero, List.set_cons_succ, List.getElem_toArray, List.getElem_cons_zero, List.getElem_cons_succ]
    replace Hx18 := hide (Hx18.out.below hb Hx18.out.lt)
    replace HR1 := hide (Rd.step HR1.out hb)
    clear hb
    exact wpAnyH_listed (by kernel_rfl) (htail _ _ undef undef _ hHeld trivial)
  refine AllReadyH.cons rfl (fun K hK => ?_) AllReadyH.nil
  try simp only [Act.put, List.setIfInBounds_toArray, List.set_cons_zero, List.set_cons_succ, List.getElem_toArray, List.getElem_cons_zero, List.getElem_cons_succ]
  go_simp
  refine hK.out _ _ (Below.alloc hHeld (Below.size hHeld) _) (fun hHeld2 => ?_)
  clear hK K hHeld
  have hHeld := hHeld2
  clear hHeld2
  try simp only [Act.put, List.setIfInBounds_toArray, List.set_cons_zero, List.set_cons_succ, List.getElem_toArray, List.getElem_cons_zero, List.getElem_cons_succ]
  have Hx18 := hide (Blk.new W4 36 #[.int .u64 1, .int .u64 5, .int .i64 3])
  generalize W4.alloc (.cells #[.int .u64 1, .int .u64 5, .int .i64 3] 36) = W5 at *
  generalize W4.heap.size = gx18 at *
  refine wpAnyH_ready (rs := [16]) (by kernel_rfl) (by simp) ?_
  refine AllReadyH.cons rfl (fun K hK => ?_) AllReadyH.nil
  try simp only [Act.put, List.setIfInBounds_toArray, List.set_cons_zero, List.set_cons_succ, List.getElem_toArray, List.getElem_cons_zero, List.getElem_cons_succ]
  go_simp
  go_at_call 10
  refine (live_least Al cl _ hl1 hl2 1 1 (by decide) (by omega) (HL6.out.step hHeld)).mono ?_
  rintro e W6 ⟨A1, c1, rfl, h11, h12, h13, hb⟩
  refine hK.out _ _ (Below.step hHeld hb) (fun hHeld2 => ?_)
  clear hK K hHeld
  have hHeld := hHeld2
  clear hHeld2
  try simp only [Act.put, List.setIfInBounds_toArray, List.set_cons_zero, List.set_cons_succ, List.getElem_toArray, List.getElem_cons_zero, List.getElem_cons_succ]
  replace Hx18 := hide (Hx18.out.below hb Hx18.out.lt)
  have HR1 := hide h13
  clear h13
  clear hb
  refine wpAnyH_ready (rs := [19]) (by kernel_rfl) (by simp) ?_
  refine AllReadyH.cons rfl (fun K hK => ?_) AllReadyH.nil
  try simp only [Act.put, List.setIfInBounds_toArray, List.set_cons_zero, List.set_cons_succ, List.getElem_toArray, List.getElem_cons_zero, List.getElem_cons_succ]
  go_simp
  go_at_call 7
  refine (live_one A1 c1 _ gx18 h11 h12 HR1.out Hx18.out).mono ?_
  rintro e W7 ⟨rfl, hb⟩
  refine hK.out _ _ (Below.step hHeld hb) (fun hHeld2 => ?_)
  clear hK K hHeld
  have hHeld := hHeld2
  clear hHeld2
  try simp only [Act.put, List.setIfInBounds_toArray, List.set_cons_zero, List.set_cons_succ, List.getElem_toArray, List.getElem_cons_zero, List.getElem_cons_succ]
  replace Hx18 := hide (Hx18.out.below hb Hx18.out.lt)
  replace HR1 := hide (Rd.step HR1.out hb)
  clear hb
  exact wpAnyH_listed (by kernel_rfl) (htail _ _ undef undef _ hHeld trivial)
end Go.Proofs.Ytohccblecgmdbaa
