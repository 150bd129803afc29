/-
  The package recall: the law's own probes (lives). No condition.
-/
import Derived.Test.YtggbokgacffamabRecO
import Derived.Deep.RegionHeld3
namespace Go.Proofs.Ytggbokgacffamab
open Go.RowKit ChangeMaps

theorem lit_hits {W : World} {g B : Nat} {t : TypeId} {cs : Array Value} (l : List Hit) (h : Blk W g t cs) (hB : g < B) (e : cs = (hcs l).toArray) : Rd SH W B (some ⟨g, 0, none⟩) l := by
  subst e
  exact hitsR_mk (R := fun b => b < B) (ad := ⟨g, 0, none⟩) hB fun j u hu => by rw [add_mk, Nat.zero_add, h.cell]; simpa using hu
def pcs (l : List (Int × Int)) : List Value := l.flatMap fun h => [.int .i64 h.1, .int .i64 h.2]
theorem pcs_at {l : List (Int × Int)} {k : Nat} {x : Int × Int} (h : l[k]? = some x) : (pcs l)[k * 2]? = some (.int .i64 x.1) ∧ (pcs l)[k * 2 + 1]? = some (.int .i64 x.2) := by
  induction l generalizing k with
  | nil => simp at h
  | cons y l ih =>
    rcases k with _ | k
    · simp at h; subst h; simp [pcs]
    · have e := ih (k := k) (by simpa using h)
      simp only [pcs] at e
      simp only [pcs, List.flatMap_cons, show (k + 1) * 2 = k * 2 + 1 + 1 by omega]
      simpa using e
theorem lit_pairs {W : World} {g B : Nat} {t : TypeId} {cs : Array Value} (l : List (Int × Int)) (h : Blk W g t cs) (hB : g < B) (e : cs = (pcs l).toArray) : Rd SPr W B (some ⟨g, 0, none⟩) l := by
  subst e
  exact fun _ => ⟨⟨g, 0, none⟩, rfl, hB, fun k x hx => ⟨[.int .i64 x.1] ++ [.int .i64 x.2], ⟨[.int .i64 x.1], [.int .i64 x.2], rfl, rfl, rfl⟩, fun j u hu => by
    obtain ⟨h1, h2⟩ := pcs_at hx
    rw [show SPr.size = 2 from rfl, add_mk, Nat.zero_add, h.cell]
    rcases j with _ | _ | j
    · simp at hu; subst hu; simpa using h1
    · simp at hu; subst hu; simpa using h2
    · simp at hu⟩⟩
theorem wfl {l : List Hit} (h : l.all (fun h => decide ((0 ≤ h.1 ∧ h.1 ≤ 18446744073709551615) ∧ 0 ≤ h.2 ∧ h.2 ≤ 18446744073709551615)) = true) : ∀ h ∈ l, wfH h := fun x hx => by
  have := List.all_eq_true.1 h x hx
  have h2 := of_decide_eq_true this
  exact h2
theorem live_per (a b r : Int) (h : perF (hA a b) (hB b) = r) (W : World) : Calls Try.prog 7 #[.int .i64 a, .int .i64 b] W fun e w' => e = .returned (.int .i64 r) ∧ Below W.heap.size W w' := by
  subst h; exact ePermille_any a b W
theorem live_count (g1 g2 : Nat) (W : World) (h1 : Blk W g1 36 #[.int .u64 1, .int .u64 1, .int .u64 5, .int .u64 3]) (h2 : Blk W g2 36 #[.int .u64 1, .int .u64 1, .int .u64 2, .int .u64 2]) :
    Calls Try.prog 6 #[.slice (some ⟨g1, 0, none⟩) 2 2, .slice (some ⟨g2, 0, none⟩) 2 2, .int .i64 2] W fun e w' => e = .returned (.tuple #[.int .i64 1, .int .i64 2]) ∧ Below W.heap.size W w' := by
  have := eRCount_any (some ⟨g1, 0, none⟩) (some ⟨g2, 0, none⟩) 2 2 2 2 [(1, 1), (5, 3)] [(1, 1), (2, 2)] 2 W (lit_hits _ h1 h1.lt rfl) rfl (by omega) (by omega) (wfl (by decide)) (lit_hits _ h2 h2.lt rfl) rfl (by omega) (by omega) (wfl (by decide))
  rwa [show cntR (List.take (fstN 2 2) [(1, 1), (5, 3)]) (List.take (fstN 2 2) [(1, 1), (2, 2)]) = 1 by decide, show fstN 2 2 = 2 by decide] at this
theorem live_missing (g1 g2 : Nat) (W : World) (h1 : Blk W g1 36 #[.int .u64 1, .int .u64 1]) (h2 : Blk W g2 36 #[.int .u64 2, .int .u64 2, .int .u64 1, .int .u64 1]) :
    Calls Try.prog 8 #[.slice (some ⟨g1, 0, none⟩) 1 1, .slice (some ⟨g2, 0, none⟩) 2 2] W fun e w' => ∃ A c, e = .returned (.slice A 1 c) ∧ 1 ≤ c ∧ c ≤ 9223372036854775807 ∧ Rd SH w' w'.heap.size A [(2, 2)] ∧ Below W.heap.size W w' :=
  (eMissing_any (some ⟨g1, 0, none⟩) (some ⟨g2, 0, none⟩) 1 1 2 2 [(1, 1)] [(2, 2), (1, 1)] W (lit_hits _ h1 h1.lt rfl) rfl (by omega) (by omega) (wfl (by decide)) (lit_hits _ h2 h2.lt rfl) rfl (by omega) (by omega) (by omega) (wfl (by decide))).mono fun e w' h => by
    obtain ⟨v, rfl, A, n, c, rfl, hl, hn, hm, hR, hb⟩ := h
    rw [show missR [(1, 1)] [(2, 2), (1, 1)] = [(2, 2)] by decide] at hl hR
    obtain rfl : 1 = n := hl
    exact ⟨A, c, rfl, hn, hm, hR.rd fun b hb => hb.2, hb⟩
theorem live_same (A : Option Addr) (c g : Nat) (W : World) (hc : 1 ≤ c) (hm : c ≤ 9223372036854775807) (hR : Rd SH W W.heap.size A [(2, 2)]) (h : Blk W g 36 #[.int .u64 2, .int .u64 2]) :
    Calls Try.prog 12 #[.slice A 1 c, .slice (some ⟨g, 0, none⟩) 1 1] W fun e w' => e = .returned (.bool true) ∧ Below W.heap.size W w' :=
  calls_drew (sameHits_any A (some ⟨g, 0, none⟩) 1 c 1 1 [(2, 2)] [(2, 2)] W hR rfl hc hm (lit_hits _ h h.lt rfl) rfl (by omega) (by omega))
theorem live_behind4 (g1 g2 : Nat) (W : World) (h1 : Blk W g1 36 #[.int .u64 2, .int .u64 2, .int .u64 5, .int .u64 3]) (h2 : Blk W g2 36 #[.int .u64 1, .int .u64 1, .int .u64 2, .int .u64 2]) :
    Calls Try.prog 10 #[.slice (some ⟨g1, 0, none⟩) 2 2, .slice (some ⟨g2, 0, none⟩) 2 2, .int .i64 9] W fun e w' => e = .returned (.int .u64 4) ∧ Below W.heap.size W w' := by
  have := calls_drew (behind_any (some ⟨g1, 0, none⟩) (some ⟨g2, 0, none⟩) 2 2 2 2 [(2, 2), (5, 3)] [(1, 1), (2, 2)] 9 W (lit_hits _ h1 h1.lt rfl) rfl (by omega) (by omega) (wfl (by decide)) (lit_hits _ h2 h2.lt rfl) rfl (by omega) (by omega) (wfl (by decide)))
  rwa [show hM (behK [(2, 2), (5, 3)] [(1, 1), (2, 2)] (min (fstN 9 2) (fstN 9 2))) = 4 by decide] at this
theorem live_behind0 (g1 g2 : Nat) (W : World) (h1 : Blk W g1 36 #[.int .u64 1, .int .u64 1]) (h2 : Blk W g2 36 #[.int .u64 2, .int .u64 2]) :
    Calls Try.prog 10 #[.slice (some ⟨g1, 0, none⟩) 1 1, .slice (some ⟨g2, 0, none⟩) 1 1, .int .i64 9] W fun e w' => e = .returned (.int .u64 0) ∧ Below W.heap.size W w' := by
  have := calls_drew (behind_any (some ⟨g1, 0, none⟩) (some ⟨g2, 0, none⟩) 1 1 1 1 [(1, 1)] [(2, 2)] 9 W (lit_hits _ h1 h1.lt rfl) rfl (by omega) (by omega) (wfl (by decide)) (lit_hits _ h2 h2.lt rfl) rfl (by omega) (by omega) (wfl (by decide)))
  rwa [show hM (behK [(1, 1)] [(2, 2)] (min (fstN 9 1) (fstN 9 1))) = 0 by decide] at this
def bA (n : Nat) : Array Value := if n = 1 then #[.int .u64 1, .int .u64 1] else #[.int .u64 2, .int .u64 2, .int .u64 5, .int .u64 3]
def bB (n : Nat) : Array Value := if n = 1 then #[.int .u64 2, .int .u64 2] else #[.int .u64 1, .int .u64 1, .int .u64 2, .int .u64 2]
def bR (n : Nat) : Int := if n = 1 then 0 else 4
theorem bR1 : bR 1 = 0 := rfl
theorem bR2 : bR 2 = 4 := rfl
theorem live_behind (n g1 g2 : Nat) (W : World) (hn : n = 1 ∨ n = 2) (h1 : Blk W g1 36 (bA n)) (h2 : Blk W g2 36 (bB n)) :
    Calls Try.prog 10 #[.slice (some ⟨g1, 0, none⟩) n n, .slice (some ⟨g2, 0, none⟩) n n, .int .i64 9] W fun e w' => e = .returned (.int .u64 (bR n)) ∧ Below W.heap.size W w' := by
  rcases hn with rfl | rfl
  · exact live_behind0 g1 g2 W h1 h2
  · exact live_behind4 g1 g2 W h1 h2
theorem live_score (g : Nat) (t : TypeId) (W : World) (h : Blk W g t #[.int .i64 1, .int .i64 2, .int .i64 0, .int .i64 2, .int .i64 7, .int .i64 0]) :
    Calls Try.prog 11 #[.slice (some ⟨g, 0, none⟩) 3 3] W fun e w' => e = .returned (.int .i64 250) ∧ Below W.heap.size W w' := by
  have := eScore_any (some ⟨g, 0, none⟩) 3 3 [(1, 2), (0, 2), (7, 0)] W (lit_pairs _ h h.lt rfl) rfl (by omega) (by omega)
  rwa [show scoF [(1, 2), (0, 2), (7, 0)] = 250 by decide] at this
theorem blk_over {w w' : World} {g : Nat} {t : TypeId} {cs : Array Value} (h : Blk w g t cs) (hb : Below w.heap.size w w') : Blk w' g t cs := h.below hb h.lt
section
variable {P : Program} {ops : Array Oper} {Q : Exit → Act → World → Prop} {md : Region.Mode} {S : World → Prop}
/-- several orders meet again: what is left is walked once -/
theorem wpAnyH_merge {fuel : Nat} {listed : Array Bool} {a : Act} {w : World} (fuel' : Nat) (listed' : Array Bool) (F : Value → Value → Value → Value → Act → Act)
    (h1 : ∀ (p1 p2 p3 p4 : Value) (W : World), S W → wpAnyH P md ops Q S fuel' listed' (F p1 p2 p3 p4 a) W)
    (h2 : (∀ (p1 p2 p3 p4 : Value) (W : World), S W → wpAnyH P md ops Q S fuel' listed' (F p1 p2 p3 p4 a) W) → wpAnyH P md ops Q S fuel listed a w) : wpAnyH P md ops Q S fuel listed a w := h2 h1
theorem wpAnyH_listed {fuel : Nat} {listed listed' : Array Bool} {a : Act} {w : World} (e : listed' = listed) (h : wpAnyH P md ops Q S fuel listed' a w) : wpAnyH P md ops Q S fuel listed a w := e ▸ h
end
/-- what the probes keep in memory -/
def LS (w : World) (a b c : Nat) (W : World) : Prop :=
  W.cell? ⟨a, 0, none⟩ = some (.int .u64 1) ∧ W.cell? ⟨a, 1, none⟩ = some (.int .u64 1) ∧ W.cell? ⟨b, 0, none⟩ = some (.int .u64 2) ∧ W.cell? ⟨b, 1, none⟩ = some (.int .u64 2) ∧ W.cell? ⟨c, 0, none⟩ = some (.int .u64 5) ∧ W.cell? ⟨c, 1, none⟩ = some (.int .u64 3) ∧ Below w.heap.size w W
theorem LS.step {w W W' : World} {a b c : Nat} (hb : Below W.heap.size W W') (h : LS w a b c W) : LS w a b c W' := by
  obtain ⟨h1, h2, h3, h4, h5, h6, h7⟩ := h
  have k : ∀ {g i : Nat} {v : Value}, W.cell? ⟨g, i, none⟩ = some v → W'.cell? ⟨g, i, none⟩ = some v := fun h => (hb.cell (World.block_lt_of_cell? W _ h)).trans h
  exact ⟨k h1, k h2, k h3, k h4, k h5, k h6, Below.step h7 hb⟩
theorem LS.alloc {w W : World} {a b c : Nat} (h : LS w a b c W) (o : Obj) : LS w a b c (W.alloc o) := LS.step (below1 W o) h
theorem LS.drew {w W : World} {a b c : Nat} (h : LS w a b c W) : LS w a b c W.drew := LS.step (below_drewN (Below.refl _ _) 1) h
theorem LS.of {w W : World} {a b c : Nat} (h1 : Blk W a 36 #[.int .u64 1, .int .u64 1]) (h2 : Blk W b 36 #[.int .u64 2, .int .u64 2]) (h3 : Blk W c 36 #[.int .u64 5, .int .u64 3]) (hb : Below w.heap.size w W) : LS w a b c W :=
  ⟨h1.cell 0, h1.cell 1, h2.cell 0, h2.cell 1, h3.cell 0, h3.cell 1, hb⟩
set_option maxHeartbeats 40000000 in
set_option maxRecDepth 100000 in
theorem lives_any (w : World) : Calls Try.prog 4 #[] w fun e w' => e = .returned (.bool true) ∧ Below w.heap.size w w' := by
  go_enter Try.func4, Try.ntmps4
  go_upto_region 2 with fail
  have H1 := Blk.new w 36 #[.int .u64 1, .int .u64 1]
  have H2 := Blk.new (w.alloc (.cells #[.int .u64 1, .int .u64 1] 36)) 36 #[.int .u64 2, .int .u64 2]
  have H3 := Blk.new ((w.alloc (.cells #[.int .u64 1, .int .u64 1] 36)).alloc (.cells #[.int .u64 2, .int .u64 2] 36)) 36 #[.int .u64 5, .int .u64 3]
  have HL := LS.of ((H1.alloc (.cells #[.int .u64 2, .int .u64 2] 36)).alloc (.cells #[.int .u64 5, .int .u64 3] 36)) (H2.alloc (.cells #[.int .u64 5, .int .u64 3] 36)) H3 (below3 w _ _ _)
  clear H1 H2 H3
  simp only [World.size_alloc] at HL
  generalize ((w.alloc (.cells #[.int .u64 1, .int .u64 1] 36)).alloc (.cells #[.int .u64 2, .int .u64 2] 36)).alloc (.cells #[.int .u64 5, .int .u64 3] 36) = w3 at *
  obtain ⟨gc, hc⟩ : ∃ b, b = w.heap.size + 1 + 1 := ⟨_, rfl⟩
  rw [← hc] at HL
  simp only [← hc]
  clear hc
  obtain ⟨gb, hb⟩ : ∃ b, b = w.heap.size + 1 := ⟨_, rfl⟩
  rw [← hb] at HL
  simp only [← hb]
  clear hb
  obtain ⟨ga, ha⟩ : ∃ b, b = w.heap.size := ⟨_, rfl⟩
  rw [← ha] at HL
  simp only [← ha]
  clear ha
  obtain ⟨a0, a1, b0, b1, c0, c1, hb0⟩ := HL
  have HL : LS w ga gb gc w3 := ⟨a0, a1, b0, b1, c0, c1, hb0⟩
  have HB0 := hide hb0
  clear hb0
  have la : ga < w3.heap.size := World.block_lt_of_cell? _ _ a0
  have lb : gb < w3.heap.size := World.block_lt_of_cell? _ _ b0
  have lc : gc < w3.heap.size := World.block_lt_of_cell? _ _ c0
  go_upto_region 3 with (go_at_call 6; refine (live_count _ _ _ ?h1 ?h2).mono ?_; (case h1 => (repeat' (first | exact Blk.new_at (by simp) _ _ | refine Blk.alloc ?_ _))); (case h2 => (repeat' (first | exact Blk.new_at (by simp) _ _ | refine Blk.alloc ?_ _))); rintro e w4 ⟨rfl, hb⟩; have HL4 := LS.step hb ((HL.alloc _).alloc _); clear hb HL)
  clear a0 a1 b0 b1 c0 c1 HB0 la lb lc
  obtain ⟨a0, a1, b0, b1, c0, c1, hb0⟩ := HL4
  have HB0 := hide hb0
  clear hb0
  -- by hand
  refine wp_region_held_drew (S := fun W => LS w ga gb gc W) (by kernel_rfl) (LS.drew ⟨a0, a1, b0, b1, c0, c1, HB0.out⟩) (fun hHeld => ?_)
  clear a0 a1 b0 b1 c0 c1 HB0
  generalize World.drew _ = wl5 at *
  refine wpAnyH_take (i := 0) (v := .int .i64 1) rfl (by kernel_rfl) (by kernel_rfl) (by kernel_rfl) (fun _ _ _ h => h) (Or.inl ⟨by rfl, fun W hS => by clear hS hHeld; go_simp⟩) hHeld ?_
  try simp only [Act.put, List.setIfInBounds_toArray, List.set_cons_zero, List.set_cons_succ, List.getElem_toArray, List.getElem_cons_zero, List.getElem_cons_succ]
  refine wpAnyH_take (i := 1) (v := .bool true) rfl (by kernel_rfl) (by kernel_rfl) (by kernel_rfl) (fun _ _ _ h => h) (Or.inl ⟨by rfl, fun W hS => by clear hS hHeld; go_simp⟩) hHeld ?_
  try simp only [Act.put, List.setIfInBounds_toArray, List.set_cons_zero, List.set_cons_succ, List.getElem_toArray, List.getElem_cons_zero, List.getElem_cons_succ]
  refine wpAnyH_take (i := 2) (v := .bool true) rfl (by kernel_rfl) (by kernel_rfl) (by kernel_rfl) (fun _ _ _ h => h) (Or.inl ⟨by rfl, fun W hS => by clear hS hHeld; go_simp⟩) hHeld ?_
  try simp only [Act.put, List.setIfInBounds_toArray, List.set_cons_zero, List.set_cons_succ, List.getElem_toArray, List.getElem_cons_zero, List.getElem_cons_succ]
  refine wpAnyH_take (i := 3) (v := .int .i64 2) rfl (by kernel_rfl) (by kernel_rfl) (by kernel_rfl) (fun _ _ _ h => h) (Or.inl ⟨by rfl, fun W hS => by clear hS hHeld; go_simp⟩) hHeld ?_
  try simp only [Act.put, List.setIfInBounds_toArray, List.set_cons_zero, List.set_cons_succ, List.getElem_toArray, List.getElem_cons_zero, List.getElem_cons_succ]
  refine wpAnyH_take (i := 4) (v := .bool true) rfl (by kernel_rfl) (by kernel_rfl) (by kernel_rfl) (fun _ _ _ h => h) (Or.inl ⟨by rfl, fun W hS => by clear hS hHeld; go_simp⟩) hHeld ?_
  try simp only [Act.put, List.setIfInBounds_toArray, List.set_cons_zero, List.set_cons_succ, List.getElem_toArray, List.getElem_cons_zero, List.getElem_cons_succ]
  refine wpAnyH_take (i := 5) (v := .bool true) rfl (by kernel_rfl) (by kernel_rfl) (by kernel_rfl) (fun _ _ _ h => h) (Or.inl ⟨by rfl, fun W hS => by clear hS hHeld; go_simp⟩) hHeld ?_
  try simp only [Act.put, List.setIfInBounds_toArray, List.set_cons_zero, List.set_cons_succ, List.getElem_toArray, List.getElem_cons_zero, List.getElem_cons_succ]
  refine wpAnyH_take (i := 6) (v := .bool true) rfl (by kernel_rfl) (by kernel_rfl) (by kernel_rfl) (fun _ _ _ h => h) (Or.inl ⟨by rfl, fun W hS => by clear hS hHeld; go_simp⟩) hHeld ?_
  try simp only [Act.put, List.setIfInBounds_toArray, List.set_cons_zero, List.set_cons_succ, List.getElem_toArray, List.getElem_cons_zero, List.getElem_cons_succ]
  refine wpAnyH_ready (rs := [7]) (by kernel_rfl) (by simp) ?_
  refine AllReadyH.cons rfl (fun K hK => ?_) AllReadyH.nil
  try simp only [Act.put, List.setIfInBounds_toArray, List.set_cons_zero, List.set_cons_succ, List.getElem_toArray, List.getElem_cons_zero, List.getElem_cons_succ]
  go_simp
  go_at_call 7
  refine (live_per 1 3 333 (by decide) _).mono ?_
  rintro e wl6 ⟨rfl, hb⟩
  refine hK.out _ _ (LS.step hb hHeld) (fun hHeld2 => ?_)
  clear hK K hHeld
  have hHeld := hHeld2
  clear hHeld2
  try simp only [Act.put, List.setIfInBounds_toArray, List.set_cons_zero, List.set_cons_succ, List.getElem_toArray, List.getElem_cons_zero, List.getElem_cons_succ]
  clear hb
  refine wpAnyH_take (i := 8) (v := .bool true) rfl (by kernel_rfl) (by kernel_rfl) (by kernel_rfl) (fun _ _ _ h => h) (Or.inl ⟨by rfl, fun W hS => by clear hS hHeld; go_simp⟩) hHeld ?_
  try simp only [Act.put, List.setIfInBounds_toArray, List.set_cons_zero, List.set_cons_succ, List.getElem_toArray, List.getElem_cons_zero, List.getElem_cons_succ]
  refine wpAnyH_take (i := 9) (v := .bool true) rfl (by kernel_rfl) (by kernel_rfl) (by kernel_rfl) (fun _ _ _ h => h) (Or.inl ⟨by rfl, fun W hS => by clear hS hHeld; go_simp⟩) hHeld ?_
  try simp only [Act.put, List.setIfInBounds_toArray, List.set_cons_zero, List.set_cons_succ, List.getElem_toArray, List.getElem_cons_zero, List.getElem_cons_succ]
  refine wpAnyH_take (i := 10) (v := .bool true) rfl (by kernel_rfl) (by kernel_rfl) (by kernel_rfl) (fun _ _ _ h => h) (Or.inl ⟨by rfl, fun W hS => by clear hS hHeld; go_simp⟩) hHeld ?_
  try simp only [Act.put, List.setIfInBounds_toArray, List.set_cons_zero, List.set_cons_succ, List.getElem_toArray, List.getElem_cons_zero, List.getElem_cons_succ]
  refine wpAnyH_ready (rs := [11]) (by kernel_rfl) (by simp) ?_
  refine AllReadyH.cons rfl (fun K hK => ?_) AllReadyH.nil
  try simp only [Act.put, List.setIfInBounds_toArray, List.set_cons_zero, List.set_cons_succ, List.getElem_toArray, List.getElem_cons_zero, List.getElem_cons_succ]
  go_simp
  go_at_call 7
  refine (live_per 5 0 1000 (by decide) _).mono ?_
  rintro e wl7 ⟨rfl, hb⟩
  refine hK.out _ _ (LS.step hb hHeld) (fun hHeld2 => ?_)
  clear hK K hHeld
  have hHeld := hHeld2
  clear hHeld2
  try simp only [Act.put, List.setIfInBounds_toArray, List.set_cons_zero, List.set_cons_succ, List.getElem_toArray, List.getElem_cons_zero, List.getElem_cons_succ]
  clear hb
  refine wpAnyH_take (i := 12) (v := .bool true) rfl (by kernel_rfl) (by kernel_rfl) (by kernel_rfl) (fun _ _ _ h => h) (Or.inl ⟨by rfl, fun W hS => by clear hS hHeld; go_simp⟩) hHeld ?_
  try simp only [Act.put, List.setIfInBounds_toArray, List.set_cons_zero, List.set_cons_succ, List.getElem_toArray, List.getElem_cons_zero, List.getElem_cons_succ]
  refine wpAnyH_take (i := 13) (v := .bool true) rfl (by kernel_rfl) (by kernel_rfl) (by kernel_rfl) (fun _ _ _ h => h) (Or.inl ⟨by rfl, fun W hS => by clear hS hHeld; go_simp⟩) hHeld ?_
  try simp only [Act.put, List.setIfInBounds_toArray, List.set_cons_zero, List.set_cons_succ, List.getElem_toArray, List.getElem_cons_zero, List.getElem_cons_succ]
  refine wpAnyH_take (i := 14) (v := .bool true) rfl (by kernel_rfl) (by kernel_rfl) (by kernel_rfl) (fun _ _ _ h => h) (Or.inl ⟨by rfl, fun W hS => by clear hS hHeld; go_simp⟩) hHeld ?_
  try simp only [Act.put, List.setIfInBounds_toArray, List.set_cons_zero, List.set_cons_succ, List.getElem_toArray, List.getElem_cons_zero, List.getElem_cons_succ]
  refine wpAnyH_ready (rs := [15]) (by kernel_rfl) (by simp) ?_
  refine AllReadyH.cons rfl (fun K hK => ?_) AllReadyH.nil
  try simp only [Act.put, List.setIfInBounds_toArray, List.set_cons_zero, List.set_cons_succ, List.getElem_toArray, List.getElem_cons_zero, List.getElem_cons_succ]
  go_simp
  go_at_call 7
  refine (live_per 9 3 1000 (by decide) _).mono ?_
  rintro e wl8 ⟨rfl, hb⟩
  refine hK.out _ _ (LS.step hb hHeld) (fun hHeld2 => ?_)
  clear hK K hHeld
  have hHeld := hHeld2
  clear hHeld2
  try simp only [Act.put, List.setIfInBounds_toArray, List.set_cons_zero, List.set_cons_succ, List.getElem_toArray, List.getElem_cons_zero, List.getElem_cons_succ]
  clear hb
  refine wpAnyH_take (i := 16) (v := .bool true) rfl (by kernel_rfl) (by kernel_rfl) (by kernel_rfl) (fun _ _ _ h => h) (Or.inl ⟨by rfl, fun W hS => by clear hS hHeld; go_simp⟩) hHeld ?_
  try simp only [Act.put, List.setIfInBounds_toArray, List.set_cons_zero, List.set_cons_succ, List.getElem_toArray, List.getElem_cons_zero, List.getElem_cons_succ]
  refine wpAnyH_take (i := 17) (v := .bool true) rfl (by kernel_rfl) (by kernel_rfl) (by kernel_rfl) (fun _ _ _ h => h) (Or.inl ⟨by rfl, fun W hS => by clear hS hHeld; go_simp⟩) hHeld ?_
  try simp only [Act.put, List.setIfInBounds_toArray, List.set_cons_zero, List.set_cons_succ, List.getElem_toArray, List.getElem_cons_zero, List.getElem_cons_succ]
  refine wpAnyH_take (i := 18) (v := .bool true) rfl (by kernel_rfl) (by kernel_rfl) (by kernel_rfl) (fun _ _ _ h => h) (Or.inl ⟨by rfl, fun W hS => by clear hS hHeld; go_simp⟩) hHeld ?_
  try simp only [Act.put, List.setIfInBounds_toArray, List.set_cons_zero, List.set_cons_succ, List.getElem_toArray, List.getElem_cons_zero, List.getElem_cons_succ]
  refine wpAnyH_ready (rs := [19]) (by kernel_rfl) (by simp) ?_
  refine AllReadyH.cons rfl (fun K hK => ?_) AllReadyH.nil
  try simp only [Act.put, List.setIfInBounds_toArray, List.set_cons_zero, List.set_cons_succ, List.getElem_toArray, List.getElem_cons_zero, List.getElem_cons_succ]
  go_simp
  go_at_call 7
  refine (live_per (-1) 3 0 (by decide) _).mono ?_
  rintro e wl9 ⟨rfl, hb⟩
  refine hK.out _ _ (LS.step hb hHeld) (fun hHeld2 => ?_)
  clear hK K hHeld
  have hHeld := hHeld2
  clear hHeld2
  try simp only [Act.put, List.setIfInBounds_toArray, List.set_cons_zero, List.set_cons_succ, List.getElem_toArray, List.getElem_cons_zero, List.getElem_cons_succ]
  clear hb
  refine wpAnyH_take (i := 20) (v := .bool true) rfl (by kernel_rfl) (by kernel_rfl) (by kernel_rfl) (fun _ _ _ h => h) (Or.inl ⟨by rfl, fun W hS => by clear hS hHeld; go_simp⟩) hHeld ?_
  try simp only [Act.put, List.setIfInBounds_toArray, List.set_cons_zero, List.set_cons_succ, List.getElem_toArray, List.getElem_cons_zero, List.getElem_cons_succ]
  refine wpAnyH_take (i := 21) (v := .bool true) rfl (by kernel_rfl) (by kernel_rfl) (by kernel_rfl) (fun _ _ _ h => h) (Or.inl ⟨by rfl, fun W hS => by clear hS hHeld; go_simp⟩) hHeld ?_
  try simp only [Act.put, List.setIfInBounds_toArray, List.set_cons_zero, List.set_cons_succ, List.getElem_toArray, List.getElem_cons_zero, List.getElem_cons_succ]
  refine wpAnyH_take (i := 22) (v := .bool true) rfl (by kernel_rfl) (by kernel_rfl) (by kernel_rfl) (fun _ _ _ h => h) (Or.inl ⟨by rfl, fun W hS => by clear hS hHeld; go_simp⟩) hHeld ?_
  try simp only [Act.put, List.setIfInBounds_toArray, List.set_cons_zero, List.set_cons_succ, List.getElem_toArray, List.getElem_cons_zero, List.getElem_cons_succ]
  refine wpAnyH_take (i := 23) (v := .agg #[.int .u64 1, .int .u64 1]) rfl (by kernel_rfl) (by kernel_rfl) (by kernel_rfl) (fun _ _ _ h => h) (Or.inl ⟨by rfl, fun W hS => by have z0 : W.cell? ⟨ga, 0, none⟩ = some (.int .u64 1) := hS.1; have z1 : W.cell? ⟨ga, 1, none⟩ = some (.int .u64 1) := hS.2.1; clear hS hHeld; go_simp⟩) hHeld ?_
  try simp only [Act.put, List.setIfInBounds_toArray, List.set_cons_zero, List.set_cons_succ, List.getElem_toArray, List.getElem_cons_zero, List.getElem_cons_succ]
  refine wpAnyH_take (i := 25) (v := .agg #[.int .u64 2, .int .u64 2]) rfl (by kernel_rfl) (by kernel_rfl) (by kernel_rfl) (fun _ _ _ h => h) (Or.inl ⟨by rfl, fun W hS => by have z0 : W.cell? ⟨gb, 0, none⟩ = some (.int .u64 2) := hS.2.2.1; have z1 : W.cell? ⟨gb, 1, none⟩ = some (.int .u64 2) := hS.2.2.2.1; clear hS hHeld; go_simp⟩) hHeld ?_
  try simp only [Act.put, List.setIfInBounds_toArray, List.set_cons_zero, List.set_cons_succ, List.getElem_toArray, List.getElem_cons_zero, List.getElem_cons_succ]
  refine wpAnyH_take (i := 26) (v := .agg #[.int .u64 1, .int .u64 1]) rfl (by kernel_rfl) (by kernel_rfl) (by kernel_rfl) (fun _ _ _ h => h) (Or.inl ⟨by rfl, fun W hS => by have z0 : W.cell? ⟨ga, 0, none⟩ = some (.int .u64 1) := hS.1; have z1 : W.cell? ⟨ga, 1, none⟩ = some (.int .u64 1) := hS.2.1; clear hS hHeld; go_simp⟩) hHeld ?_
  try simp only [Act.put, List.setIfInBounds_toArray, List.set_cons_zero, List.set_cons_succ, List.getElem_toArray, List.getElem_cons_zero, List.getElem_cons_succ]
  refine wpAnyH_take (i := 29) (v := .agg #[.int .u64 2, .int .u64 2]) rfl (by kernel_rfl) (by kernel_rfl) (by kernel_rfl) (fun _ _ _ h => h) (Or.inl ⟨by rfl, fun W hS => by have z0 : W.cell? ⟨gb, 0, none⟩ = some (.int .u64 2) := hS.2.2.1; have z1 : W.cell? ⟨gb, 1, none⟩ = some (.int .u64 2) := hS.2.2.2.1; clear hS hHeld; go_simp⟩) hHeld ?_
  try simp only [Act.put, List.setIfInBounds_toArray, List.set_cons_zero, List.set_cons_succ, List.getElem_toArray, List.getElem_cons_zero, List.getElem_cons_succ]
  refine wpAnyH_merge 28 #[true, true, true, true, true, true, true, true, true, true, true, true, true, true, true, true, true, true, true, true, true, true, true, true, true, true, true, true, true, true, true, true, false, false, false, false, false, false, false, false, false, false, false, false, false, false, false, false, false, false, false, false, false, false, false, false, false, false, false, false] (fun p1 p2 p3 p4 a => ⟨(((((a.tmps.setIfInBounds 43 (p1)).setIfInBounds 46 (p2)).setIfInBounds 47 (p3)).setIfInBounds 49 (p4)).setIfInBounds 50 (.bool true)), a.defers⟩) (fun p1 p2 p3 p4 W hHeld => ?_) (fun htail => ?_)
  · try simp only [Act.put, List.setIfInBounds_toArray, List.set_cons_zero, List.set_cons_succ, List.getElem_toArray, List.getElem_cons_zero, List.getElem_cons_succ]
    generalize W = wl10 at *
    refine wpAnyH_take (i := 32) (v := .bool true) rfl (by kernel_rfl) (by kernel_rfl) (by kernel_rfl) (fun _ _ _ h => h) (Or.inl ⟨by rfl, fun W hS => by clear hS hHeld; go_simp⟩) hHeld ?_
    try simp only [Act.put, List.setIfInBounds_toArray, List.set_cons_zero, List.set_cons_succ, List.getElem_toArray, List.getElem_cons_zero, List.getElem_cons_succ]
    refine wpAnyH_take (i := 33) (v := .bool true) rfl (by kernel_rfl) (by kernel_rfl) (by kernel_rfl) (fun _ _ _ h => h) (Or.inl ⟨by rfl, fun W hS => by clear hS hHeld; go_simp⟩) hHeld ?_
    try simp only [Act.put, List.setIfInBounds_toArray, List.set_cons_zero, List.set_cons_succ, List.getElem_toArray, List.getElem_cons_zero, List.getElem_cons_succ]
    refine wpAnyH_take (i := 34) (v := .agg #[.int .u64 2, .int .u64 2]) rfl (by kernel_rfl) (by kernel_rfl) (by kernel_rfl) (fun _ _ _ h => h) (Or.inl ⟨by rfl, fun W hS => by have z0 : W.cell? ⟨gb, 0, none⟩ = some (.int .u64 2) := hS.2.2.1; have z1 : W.cell? ⟨gb, 1, none⟩ = some (.int .u64 2) := hS.2.2.2.1; clear hS hHeld; go_simp⟩) hHeld ?_
    try simp only [Act.put, List.setIfInBounds_toArray, List.set_cons_zero, List.set_cons_succ, List.getElem_toArray, List.getElem_cons_zero, List.getElem_cons_succ]
    refine wpAnyH_take (i := 35) (v := .agg #[.int .u64 5, .int .u64 3]) rfl (by kernel_rfl) (by kernel_rfl) (by kernel_rfl) (fun _ _ _ h => h) (Or.inl ⟨by rfl, fun W hS => by have z0 : W.cell? ⟨gc, 0, none⟩ = some (.int .u64 5) := hS.2.2.2.2.1; have z1 : W.cell? ⟨gc, 1, none⟩ = some (.int .u64 3) := hS.2.2.2.2.2.1; clear hS hHeld; go_simp⟩) hHeld ?_
    try simp only [Act.put, List.setIfInBounds_toArray, List.set_cons_zero, List.set_cons_succ, List.getElem_toArray, List.getElem_cons_zero, List.getElem_cons_succ]
    refine wpAnyH_take (i := 37) (v := .agg #[.int .u64 1, .int .u64 1]) rfl (by kernel_rfl) (by kernel_rfl) (by kernel_rfl) (fun _ _ _ h => h) (Or.inl ⟨by rfl, fun W hS => by have z0 : W.cell? ⟨ga, 0, none⟩ = some (.int .u64 1) := hS.1; have z1 : W.cell? ⟨ga, 1, none⟩ = some (.int .u64 1) := hS.2.1; clear hS hHeld; go_simp⟩) hHeld ?_
    try simp only [Act.put, List.setIfInBounds_toArray, List.set_cons_zero, List.set_cons_succ, List.getElem_toArray, List.getElem_cons_zero, List.getElem_cons_succ]
    refine wpAnyH_take (i := 38) (v := .agg #[.int .u64 2, .int .u64 2]) rfl (by kernel_rfl) (by kernel_rfl) (by kernel_rfl) (fun _ _ _ h => h) (Or.inl ⟨by rfl, fun W hS => by have z0 : W.cell? ⟨gb, 0, none⟩ = some (.int .u64 2) := hS.2.2.1; have z1 : W.cell? ⟨gb, 1, none⟩ = some (.int .u64 2) := hS.2.2.2.1; clear hS hHeld; go_simp⟩) hHeld ?_
    try simp only [Act.put, List.setIfInBounds_toArray, List.set_cons_zero, List.set_cons_succ, List.getElem_toArray, List.getElem_cons_zero, List.getElem_cons_succ]
    refine wpAnyH_merge 19 #[true, true, true, true, true, true, true, true, true, true, true, true, true, true, true, true, true, true, true, true, true, true, true, true, true, true, true, true, true, true, true, true, true, true, true, true, true, true, true, true, true, false, false, false, false, false, false, false, false, false, false, false, false, false, false, false, false, false, false, false] (fun p1 p2 p3 p4 a => ⟨(((a.tmps.setIfInBounds 55 (p1)).setIfInBounds 58 (p2)).setIfInBounds 59 (.int .u64 4)), a.defers⟩) (fun p1 p2 p3 p4 W hHeld => ?_) (fun htail => ?_)
    · try simp only [Act.put, List.setIfInBounds_toArray, List.set_cons_zero, List.set_cons_succ, List.getElem_toArray, List.getElem_cons_zero, List.getElem_cons_succ]
      generalize W = wl11 at *
      refine wpAnyH_take (i := 41) (v := .bool true) rfl (by kernel_rfl) (by kernel_rfl) (by kernel_rfl) (fun _ _ _ h => h) (Or.inl ⟨by rfl, fun W hS => by clear hS hHeld; go_simp⟩) hHeld ?_
      try simp only [Act.put, List.setIfInBounds_toArray, List.set_cons_zero, List.set_cons_succ, List.getElem_toArray, List.getElem_cons_zero, List.getElem_cons_succ]
      refine wpAnyH_take (i := 42) (v := .bool true) rfl (by kernel_rfl) (by kernel_rfl) (by kernel_rfl) (fun _ _ _ h => h) (Or.inl ⟨by rfl, fun W hS => by clear hS hHeld; go_simp⟩) hHeld ?_
      try simp only [Act.put, List.setIfInBounds_toArray, List.set_cons_zero, List.set_cons_succ, List.getElem_toArray, List.getElem_cons_zero, List.getElem_cons_succ]
      refine wpAnyH_take (i := 43) (v := .bool true) rfl (by kernel_rfl) (by kernel_rfl) (by kernel_rfl) (fun _ _ _ h => h) (Or.inl ⟨by rfl, fun W hS => by clear hS hHeld; go_simp⟩) hHeld ?_
      try simp only [Act.put, List.setIfInBounds_toArray, List.set_cons_zero, List.set_cons_succ, List.getElem_toArray, List.getElem_cons_zero, List.getElem_cons_succ]
      refine wpAnyH_take (i := 44) (v := .agg #[.int .u64 1, .int .u64 1]) rfl (by kernel_rfl) (by kernel_rfl) (by kernel_rfl) (fun _ _ _ h => h) (Or.inl ⟨by rfl, fun W hS => by have z0 : W.cell? ⟨ga, 0, none⟩ = some (.int .u64 1) := hS.1; have z1 : W.cell? ⟨ga, 1, none⟩ = some (.int .u64 1) := hS.2.1; clear hS hHeld; go_simp⟩) hHeld ?_
      try simp only [Act.put, List.setIfInBounds_toArray, List.set_cons_zero, List.set_cons_succ, List.getElem_toArray, List.getElem_cons_zero, List.getElem_cons_succ]
      refine wpAnyH_take (i := 46) (v := .agg #[.int .u64 2, .int .u64 2]) rfl (by kernel_rfl) (by kernel_rfl) (by kernel_rfl) (fun _ _ _ h => h) (Or.inl ⟨by rfl, fun W hS => by have z0 : W.cell? ⟨gb, 0, none⟩ = some (.int .u64 2) := hS.2.2.1; have z1 : W.cell? ⟨gb, 1, none⟩ = some (.int .u64 2) := hS.2.2.2.1; clear hS hHeld; go_simp⟩) hHeld ?_
      try simp only [Act.put, List.setIfInBounds_toArray, List.set_cons_zero, List.set_cons_succ, List.getElem_toArray, List.getElem_cons_zero, List.getElem_cons_succ]
      refine wpAnyH_merge 11 #[true, true, true, true, true, true, true, true, true, true, true, true, true, true, true, true, true, true, true, true, true, true, true, true, true, true, true, true, true, true, true, true, true, true, true, true, true, true, true, true, true, true, true, true, true, true, true, true, true, false, false, false, false, false, false, false, false, false, false, false] (fun p1 p2 p3 p4 a => ⟨(((a.tmps.setIfInBounds 64 (p1)).setIfInBounds 66 (p2)).setIfInBounds 67 (.int .u64 0)), a.defers⟩) (fun p1 p2 p3 p4 W hHeld => ?_) (fun htail => ?_)
      · try simp only [Act.put, List.setIfInBounds_toArray, List.set_cons_zero, List.set_cons_succ, List.getElem_toArray, List.getElem_cons_zero, List.getElem_cons_succ]
        generalize W = wl12 at *
        refine wpAnyH_take (i := 49) (v := .bool true) rfl (by kernel_rfl) (by kernel_rfl) (by kernel_rfl) (fun _ _ _ h => h) (Or.inl ⟨by rfl, fun W hS => by clear hS hHeld; go_simp⟩) hHeld ?_
        try simp only [Act.put, List.setIfInBounds_toArray, List.set_cons_zero, List.set_cons_succ, List.getElem_toArray, List.getElem_cons_zero, List.getElem_cons_succ]
        refine wpAnyH_take (i := 50) (v := .bool true) rfl (by kernel_rfl) (by kernel_rfl) (by kernel_rfl) (fun _ _ _ h => h) (Or.inl ⟨by rfl, fun W hS => by clear hS hHeld; go_simp⟩) hHeld ?_
        try simp only [Act.put, List.setIfInBounds_toArray, List.set_cons_zero, List.set_cons_succ, List.getElem_toArray, List.getElem_cons_zero, List.getElem_cons_succ]
        refine wpAnyH_take (i := 51) (v := .bool true) rfl (by kernel_rfl) (by kernel_rfl) (by kernel_rfl) (fun _ _ _ h => h) (Or.inl ⟨by rfl, fun W hS => by clear hS hHeld; go_simp⟩) hHeld ?_
        try simp only [Act.put, List.setIfInBounds_toArray, List.set_cons_zero, List.set_cons_succ, List.getElem_toArray, List.getElem_cons_zero, List.getElem_cons_succ]
        refine wpAnyH_take (i := 52) (v := .agg #[.int .i64 1, .int .i64 2]) rfl (by kernel_rfl) (by kernel_rfl) (by kernel_rfl) (fun _ _ _ h => h) (Or.inl ⟨by rfl, fun W hS => by clear hS hHeld; go_simp⟩) hHeld ?_
        try simp only [Act.put, List.setIfInBounds_toArray, List.set_cons_zero, List.set_cons_succ, List.getElem_toArray, List.getElem_cons_zero, List.getElem_cons_succ]
        refine wpAnyH_take (i := 53) (v := .agg #[.int .i64 0, .int .i64 2]) rfl (by kernel_rfl) (by kernel_rfl) (by kernel_rfl) (fun _ _ _ h => h) (Or.inl ⟨by rfl, fun W hS => by clear hS hHeld; go_simp⟩) hHeld ?_
        try simp only [Act.put, List.setIfInBounds_toArray, List.set_cons_zero, List.set_cons_succ, List.getElem_toArray, List.getElem_cons_zero, List.getElem_cons_succ]
        refine wpAnyH_take (i := 54) (v := .agg #[.int .i64 7, .int .i64 0]) rfl (by kernel_rfl) (by kernel_rfl) (by kernel_rfl) (fun _ _ _ h => h) (Or.inl ⟨by rfl, fun W hS => by clear hS hHeld; go_simp⟩) hHeld ?_
        try simp only [Act.put, List.setIfInBounds_toArray, List.set_cons_zero, List.set_cons_succ, List.getElem_toArray, List.getElem_cons_zero, List.getElem_cons_succ]
        refine wpAnyH_ready (rs := [55]) (by kernel_rfl) (by simp) ?_
        refine AllReadyH.cons rfl (fun K hK => ?_) AllReadyH.nil
        try simp only [Act.put, List.setIfInBounds_toArray, List.set_cons_zero, List.set_cons_succ, List.getElem_toArray, List.getElem_cons_zero, List.getElem_cons_succ]
        go_simp
        refine hK.out _ _ (hHeld.alloc _) (fun hHeld2 => ?_)
        clear hK K hHeld
        have hHeld := hHeld2
        clear hHeld2
        try simp only [Act.put, List.setIfInBounds_toArray, List.set_cons_zero, List.set_cons_succ, List.getElem_toArray, List.getElem_cons_zero, List.getElem_cons_succ]
        have H55 := hide (Blk.new wl12 40 #[.int .i64 1, .int .i64 2, .int .i64 0, .int .i64 2, .int .i64 7, .int .i64 0])
        generalize wl12.alloc (.cells #[.int .i64 1, .int .i64 2, .int .i64 0, .int .i64 2, .int .i64 7, .int .i64 0] 40) = wl13 at *
        generalize wl12.heap.size = g55 at *
        refine wpAnyH_ready (rs := [56]) (by kernel_rfl) (by simp) ?_
        refine AllReadyH.cons rfl (fun K hK => ?_) AllReadyH.nil
        try simp only [Act.put, List.setIfInBounds_toArray, List.set_cons_zero, List.set_cons_succ, List.getElem_toArray, List.getElem_cons_zero, List.getElem_cons_succ]
        go_simp
        go_at_call 11
        refine (live_score g55 40 _ H55.out).mono ?_
        rintro e wl14 ⟨rfl, hb⟩
        refine hK.out _ _ (LS.step hb hHeld) (fun hHeld2 => ?_)
        clear hK K hHeld
        have hHeld := hHeld2
        clear hHeld2
        try simp only [Act.put, List.setIfInBounds_toArray, List.set_cons_zero, List.set_cons_succ, List.getElem_toArray, List.getElem_cons_zero, List.getElem_cons_succ]
        refine wpAnyH_take (i := 57) (v := .bool true) rfl (by kernel_rfl) (by kernel_rfl) (by kernel_rfl) (fun _ _ _ h => h) (Or.inl ⟨by rfl, fun W hS => by clear hS hHeld; go_simp⟩) hHeld ?_
        try simp only [Act.put, List.setIfInBounds_toArray, List.set_cons_zero, List.set_cons_succ, List.getElem_toArray, List.getElem_cons_zero, List.getElem_cons_succ]
        refine wpAnyH_take (i := 58) (v := .bool true) rfl (by kernel_rfl) (by kernel_rfl) (by kernel_rfl) (fun _ _ _ h => h) (Or.inl ⟨by rfl, fun W hS => by clear hS hHeld; go_simp⟩) hHeld ?_
        try simp only [Act.put, List.setIfInBounds_toArray, List.set_cons_zero, List.set_cons_succ, List.getElem_toArray, List.getElem_cons_zero, List.getElem_cons_succ]
        refine wpAnyH_take (i := 59) (v := .bool true) rfl (by kernel_rfl) (by kernel_rfl) (by kernel_rfl) (fun _ _ _ h => h) (Or.inl ⟨by rfl, fun W hS => by clear hS hHeld; go_simp⟩) hHeld ?_
        try simp only [Act.put, List.setIfInBounds_toArray, List.set_cons_zero, List.set_cons_succ, List.getElem_toArray, List.getElem_cons_zero, List.getElem_cons_succ]
        refine wpAnyH_done (by kernel_rfl) ?_ _
        go_wp2
        go_ret
        exact ⟨rfl, hHeld.2.2.2.2.2.2⟩
      try simp only [Act.put, List.setIfInBounds_toArray, List.set_cons_zero, List.set_cons_succ, List.getElem_toArray, List.getElem_cons_zero, List.getElem_cons_succ] at htail
      refine wpAnyH_ready (rs := [45, 47]) (by kernel_rfl) (by simp) ?_
      refine AllReadyH.cons rfl (fun K hK => ?_) ?_
      · try simp only [Act.put, List.setIfInBounds_toArray, List.set_cons_zero, List.set_cons_succ, List.getElem_toArray, List.getElem_cons_zero, List.getElem_cons_succ]
        go_simp
        refine hK.out _ _ (hHeld.alloc _) (fun hHeld2 => ?_)
        clear hK K hHeld
        have hHeld := hHeld2
        clear hHeld2
        try simp only [Act.put, List.setIfInBounds_toArray, List.set_cons_zero, List.set_cons_succ, List.getElem_toArray, List.getElem_cons_zero, List.getElem_cons_succ]
        have H45 := hide (Blk.new wl11 36 #[.int .u64 1, .int .u64 1])
        generalize wl11.alloc (.cells #[.int .u64 1, .int .u64 1] 36) = wl12 at *
        generalize wl11.heap.size = g45 at *
        refine wpAnyH_ready (rs := [47]) (by kernel_rfl) (by simp) ?_
        refine AllReadyH.cons rfl (fun K hK => ?_) AllReadyH.nil
        try simp only [Act.put, List.setIfInBounds_toArray, List.set_cons_zero, List.set_cons_succ, List.getElem_toArray, List.getElem_cons_zero, List.getElem_cons_succ]
        go_simp
        refine hK.out _ _ (hHeld.alloc _) (fun hHeld2 => ?_)
        clear hK K hHeld
        have hHeld := hHeld2
        clear hHeld2
        try simp only [Act.put, List.setIfInBounds_toArray, List.set_cons_zero, List.set_cons_succ, List.getElem_toArray, List.getElem_cons_zero, List.getElem_cons_succ]
        replace H45 := hide (H45.out.alloc (.cells #[.int .u64 2, .int .u64 2] 36))
        have H47 := hide (Blk.new wl12 36 #[.int .u64 2, .int .u64 2])
        generalize wl12.alloc (.cells #[.int .u64 2, .int .u64 2] 36) = wl13 at *
        generalize wl12.heap.size = g47 at *
        refine wpAnyH_ready (rs := [48]) (by kernel_rfl) (by simp) ?_
        refine AllReadyH.cons rfl (fun K hK => ?_) AllReadyH.nil
        try simp only [Act.put, List.setIfInBounds_toArray, List.set_cons_zero, List.set_cons_succ, List.getElem_toArray, List.getElem_cons_zero, List.getElem_cons_succ]
        go_simp
        go_at_call 10
        refine (live_behind0 g45 g47 _ H45.out H47.out).mono ?_
        rintro e wl14 ⟨rfl, hb⟩
        refine hK.out _ _ (LS.step hb hHeld) (fun hHeld2 => ?_)
        clear hK K hHeld
        have hHeld := hHeld2
        clear hHeld2
        try simp only [Act.put, List.setIfInBounds_toArray, List.set_cons_zero, List.set_cons_succ, List.getElem_toArray, List.getElem_cons_zero, List.getElem_cons_succ]
        exact wpAnyH_listed (by kernel_rfl) (htail _ _ undef undef _ hHeld)
      refine AllReadyH.cons rfl (fun K hK => ?_) AllReadyH.nil
      try simp only [Act.put, List.setIfInBounds_toArray, List.set_cons_zero, List.set_cons_succ, List.getElem_toArray, List.getElem_cons_zero, List.getElem_cons_succ]
      go_simp
      refine hK.out _ _ (hHeld.alloc _) (fun hHeld2 => ?_)
      clear hK K hHeld
      have hHeld := hHeld2
      clear hHeld2
      try simp only [Act.put, List.setIfInBounds_toArray, List.set_cons_zero, List.set_cons_succ, List.getElem_toArray, List.getElem_cons_zero, List.getElem_cons_succ]
      have H47 := hide (Blk.new wl11 36 #[.int .u64 2, .int .u64 2])
      generalize wl11.alloc (.cells #[.int .u64 2, .int .u64 2] 36) = wl12 at *
      generalize wl11.heap.size = g47 at *
      refine wpAnyH_ready (rs := [45]) (by kernel_rfl) (by simp) ?_
      refine AllReadyH.cons rfl (fun K hK => ?_) AllReadyH.nil
      try simp only [Act.put, List.setIfInBounds_toArray, List.set_cons_zero, List.set_cons_succ, List.getElem_toArray, List.getElem_cons_zero, List.getElem_cons_succ]
      go_simp
      refine hK.out _ _ (hHeld.alloc _) (fun hHeld2 => ?_)
      clear hK K hHeld
      have hHeld := hHeld2
      clear hHeld2
      try simp only [Act.put, List.setIfInBounds_toArray, List.set_cons_zero, List.set_cons_succ, List.getElem_toArray, List.getElem_cons_zero, List.getElem_cons_succ]
      replace H47 := hide (H47.out.alloc (.cells #[.int .u64 1, .int .u64 1] 36))
      have H45 := hide (Blk.new wl12 36 #[.int .u64 1, .int .u64 1])
      generalize wl12.alloc (.cells #[.int .u64 1, .int .u64 1] 36) = wl13 at *
      generalize wl12.heap.size = g45 at *
      refine wpAnyH_ready (rs := [48]) (by kernel_rfl) (by simp) ?_
      refine AllReadyH.cons rfl (fun K hK => ?_) AllReadyH.nil
      try simp only [Act.put, List.setIfInBounds_toArray, List.set_cons_zero, List.set_cons_succ, List.getElem_toArray, List.getElem_cons_zero, List.getElem_cons_succ]
      go_simp
      go_at_call 10
      refine (live_behind0 g45 g47 _ H45.out H47.out).mono ?_
      rintro e wl14 ⟨rfl, hb⟩
      refine hK.out _ _ (LS.step hb hHeld) (fun hHeld2 => ?_)
      clear hK K hHeld
      have hHeld := hHeld2
      clear hHeld2
      try simp only [Act.put, List.setIfInBounds_toArray, List.set_cons_zero, List.set_cons_succ, List.getElem_toArray, List.getElem_cons_zero, List.getElem_cons_succ]
      exact wpAnyH_listed (by kernel_rfl) (htail _ _ undef undef _ hHeld)
    try simp only [Act.put, List.setIfInBounds_toArray, List.set_cons_zero, List.set_cons_succ, List.getElem_toArray, List.getElem_cons_zero, List.getElem_cons_succ] at htail
    refine wpAnyH_ready (rs := [36, 39]) (by kernel_rfl) (by simp) ?_
    refine AllReadyH.cons rfl (fun K hK => ?_) ?_
    · try simp only [Act.put, List.setIfInBounds_toArray, List.set_cons_zero, List.set_cons_succ, List.getElem_toArray, List.getElem_cons_zero, List.getElem_cons_succ]
      go_simp
      refine hK.out _ _ (hHeld.alloc _) (fun hHeld2 => ?_)
      clear hK K hHeld
      have hHeld := hHeld2
      clear hHeld2
      try simp only [Act.put, List.setIfInBounds_toArray, List.set_cons_zero, List.set_cons_succ, List.getElem_toArray, List.getElem_cons_zero, List.getElem_cons_succ]
      have H36 := hide (Blk.new wl10 36 #[.int .u64 2, .int .u64 2, .int .u64 5, .int .u64 3])
      generalize wl10.alloc (.cells #[.int .u64 2, .int .u64 2, .int .u64 5, .int .u64 3] 36) = wl11 at *
      generalize wl10.heap.size = g36 at *
      refine wpAnyH_ready (rs := [39]) (by kernel_rfl) (by simp) ?_
      refine AllReadyH.cons rfl (fun K hK => ?_) AllReadyH.nil
      try simp only [Act.put, List.setIfInBounds_toArray, List.set_cons_zero, List.set_cons_succ, List.getElem_toArray, List.getElem_cons_zero, List.getElem_cons_succ]
      go_simp
      refine hK.out _ _ (hHeld.alloc _) (fun hHeld2 => ?_)
      clear hK K hHeld
      have hHeld := hHeld2
      clear hHeld2
      try simp only [Act.put, List.setIfInBounds_toArray, List.set_cons_zero, List.set_cons_succ, List.getElem_toArray, List.getElem_cons_zero, List.getElem_cons_succ]
      replace H36 := hide (H36.out.alloc (.cells #[.int .u64 1, .int .u64 1, .int .u64 2, .int .u64 2] 36))
      have H39 := hide (Blk.new wl11 36 #[.int .u64 1, .int .u64 1, .int .u64 2, .int .u64 2])
      generalize wl11.alloc (.cells #[.int .u64 1, .int .u64 1, .int .u64 2, .int .u64 2] 36) = wl12 at *
      generalize wl11.heap.size = g39 at *
      refine wpAnyH_ready (rs := [40]) (by kernel_rfl) (by simp) ?_
      refine AllReadyH.cons rfl (fun K hK => ?_) AllReadyH.nil
      try simp only [Act.put, List.setIfInBounds_toArray, List.set_cons_zero, List.set_cons_succ, List.getElem_toArray, List.getElem_cons_zero, List.getElem_cons_succ]
      go_simp
      go_at_call 10
      refine (live_behind4 g36 g39 _ H36.out H39.out).mono ?_
      rintro e wl13 ⟨rfl, hb⟩
      refine hK.out _ _ (LS.step hb hHeld) (fun hHeld2 => ?_)
      clear hK K hHeld
      have hHeld := hHeld2
      clear hHeld2
      try simp only [Act.put, List.setIfInBounds_toArray, List.set_cons_zero, List.set_cons_succ, List.getElem_toArray, List.getElem_cons_zero, List.getElem_cons_succ]
      exact wpAnyH_listed (by kernel_rfl) (htail _ _ undef undef _ hHeld)
    refine AllReadyH.cons rfl (fun K hK => ?_) AllReadyH.nil
    try simp only [Act.put, List.setIfInBounds_toArray, List.set_cons_zero, List.set_cons_succ, List.getElem_toArray, List.getElem_cons_zero, List.getElem_cons_succ]
    go_simp
    refine hK.out _ _ (hHeld.alloc _) (fun hHeld2 => ?_)
    clear hK K hHeld
    have hHeld := hHeld2
    clear hHeld2
    try simp only [Act.put, List.setIfInBounds_toArray, List.set_cons_zero, List.set_cons_succ, List.getElem_toArray, List.getElem_cons_zero, List.getElem_cons_succ]
    have H39 := hide (Blk.new wl10 36 #[.int .u64 1, .int .u64 1, .int .u64 2, .int .u64 2])
    generalize wl10.alloc (.cells #[.int .u64 1, .int .u64 1, .int .u64 2, .int .u64 2] 36) = wl11 at *
    generalize wl10.heap.size = g39 at *
    refine wpAnyH_ready (rs := [36]) (by kernel_rfl) (by simp) ?_
    refine AllReadyH.cons rfl (fun K hK => ?_) AllReadyH.nil
    try simp only [Act.put, List.setIfInBounds_toArray, List.set_cons_zero, List.set_cons_succ, List.getElem_toArray, List.getElem_cons_zero, List.getElem_cons_succ]
    go_simp
    refine hK.out _ _ (hHeld.alloc _) (fun hHeld2 => ?_)
    clear hK K hHeld
    have hHeld := hHeld2
    clear hHeld2
    try simp only [Act.put, List.setIfInBounds_toArray, List.set_cons_zero, List.set_cons_succ, List.getElem_toArray, List.getElem_cons_zero, List.getElem_cons_succ]
    replace H39 := hide (H39.out.alloc (.cells #[.int .u64 2, .int .u64 2, .int .u64 5, .int .u64 3] 36))
    have H36 := hide (Blk.new wl11 36 #[.int .u64 2, .int .u64 2, .int .u64 5, .int .u64 3])
    generalize wl11.alloc (.cells #[.int .u64 2, .int .u64 2, .int .u64 5, .int .u64 3] 36) = wl12 at *
    generalize wl11.heap.size = g36 at *
    refine wpAnyH_ready (rs := [40]) (by kernel_rfl) (by simp) ?_
    refine AllReadyH.cons rfl (fun K hK => ?_) AllReadyH.nil
    try simp only [Act.put, List.setIfInBounds_toArray, List.set_cons_zero, List.set_cons_succ, List.getElem_toArray, List.getElem_cons_zero, List.getElem_cons_succ]
    go_simp
    go_at_call 10
    refine (live_behind4 g36 g39 _ H36.out H39.out).mono ?_
    rintro e wl13 ⟨rfl, hb⟩
    refine hK.out _ _ (LS.step hb hHeld) (fun hHeld2 => ?_)
    clear hK K hHeld
    have hHeld := hHeld2
    clear hHeld2
    try simp only [Act.put, List.setIfInBounds_toArray, List.set_cons_zero, List.set_cons_succ, List.getElem_toArray, List.getElem_cons_zero, List.getElem_cons_succ]
    exact wpAnyH_listed (by kernel_rfl) (htail _ _ undef undef _ hHeld)
  try simp only [Act.put, List.setIfInBounds_toArray, List.set_cons_zero, List.set_cons_succ, List.getElem_toArray, List.getElem_cons_zero, List.getElem_cons_succ] at htail
  refine wpAnyH_ready (rs := [24, 27, 30]) (by kernel_rfl) (by simp) ?_
  refine AllReadyH.cons rfl (fun K hK => ?_) ?_
  · try simp only [Act.put, List.setIfInBounds_toArray, List.set_cons_zero, List.set_cons_succ, List.getElem_toArray, List.getElem_cons_zero, List.getElem_cons_succ]
    go_simp
    refine hK.out _ _ (hHeld.alloc _) (fun hHeld2 => ?_)
    clear hK K hHeld
    have hHeld := hHeld2
    clear hHeld2
    try simp only [Act.put, List.setIfInBounds_toArray, List.set_cons_zero, List.set_cons_succ, List.getElem_toArray, List.getElem_cons_zero, List.getElem_cons_succ]
    have H24 := hide (Blk.new wl9 36 #[.int .u64 1, .int .u64 1])
    generalize wl9.alloc (.cells #[.int .u64 1, .int .u64 1] 36) = wl10 at *
    generalize wl9.heap.size = g24 at *
    refine wpAnyH_ready (rs := [27, 30]) (by kernel_rfl) (by simp) ?_
    refine AllReadyH.cons rfl (fun K hK => ?_) ?_
    · try simp only [Act.put, List.setIfInBounds_toArray, List.set_cons_zero, List.set_cons_succ, List.getElem_toArray, List.getElem_cons_zero, List.getElem_cons_succ]
      go_simp
      refine hK.out _ _ (hHeld.alloc _) (fun hHeld2 => ?_)
      clear hK K hHeld
      have hHeld := hHeld2
      clear hHeld2
      try simp only [Act.put, List.setIfInBounds_toArray, List.set_cons_zero, List.set_cons_succ, List.getElem_toArray, List.getElem_cons_zero, List.getElem_cons_succ]
      replace H24 := hide (H24.out.alloc (.cells #[.int .u64 2, .int .u64 2, .int .u64 1, .int .u64 1] 36))
      have H27 := hide (Blk.new wl10 36 #[.int .u64 2, .int .u64 2, .int .u64 1, .int .u64 1])
      generalize wl10.alloc (.cells #[.int .u64 2, .int .u64 2, .int .u64 1, .int .u64 1] 36) = wl11 at *
      generalize wl10.heap.size = g27 at *
      refine wpAnyH_ready (rs := [28, 30]) (by kernel_rfl) (by simp) ?_
      refine AllReadyH.cons rfl (fun K hK => ?_) ?_
      · try simp only [Act.put, List.setIfInBounds_toArray, List.set_cons_zero, List.set_cons_succ, List.getElem_toArray, List.getElem_cons_zero, List.getElem_cons_succ]
        go_simp
        go_at_call 8
        refine (live_missing g24 g27 _ H24.out H27.out).mono ?_
        rintro e wl12 ⟨Am, cm, rfl, hm1, hm2, hmR, hb⟩
        refine hK.out _ _ (LS.step hb hHeld) (fun hHeld2 => ?_)
        clear hK K hHeld
        have hHeld := hHeld2
        clear hHeld2
        try simp only [Act.put, List.setIfInBounds_toArray, List.set_cons_zero, List.set_cons_succ, List.getElem_toArray, List.getElem_cons_zero, List.getElem_cons_succ]
        replace H24 := hide (H24.out.below hb H24.out.lt)
        replace H27 := hide (H27.out.below hb H27.out.lt)
        have HR := hide hmR
        clear hmR hb
        refine wpAnyH_ready (rs := [30]) (by kernel_rfl) (by simp) ?_
        refine AllReadyH.cons rfl (fun K hK => ?_) AllReadyH.nil
        try simp only [Act.put, List.setIfInBounds_toArray, List.set_cons_zero, List.set_cons_succ, List.getElem_toArray, List.getElem_cons_zero, List.getElem_cons_succ]
        go_simp
        refine hK.out _ _ (hHeld.alloc _) (fun hHeld2 => ?_)
        clear hK K hHeld
        have hHeld := hHeld2
        clear hHeld2
        try simp only [Act.put, List.setIfInBounds_toArray, List.set_cons_zero, List.set_cons_succ, List.getElem_toArray, List.getElem_cons_zero, List.getElem_cons_succ]
        replace H24 := hide (H24.out.alloc (.cells #[.int .u64 2, .int .u64 2] 36))
        replace H27 := hide (H27.out.alloc (.cells #[.int .u64 2, .int .u64 2] 36))
        replace HR := hide ((Rd.alloc HR.out (Nat.le_refl _) (.cells #[.int .u64 2, .int .u64 2] 36)).more (show wl12.heap.size ≤ (wl12.alloc (.cells #[.int .u64 2, .int .u64 2] 36)).heap.size by simp))
        have H30 := hide (Blk.new wl12 36 #[.int .u64 2, .int .u64 2])
        generalize wl12.alloc (.cells #[.int .u64 2, .int .u64 2] 36) = wl13 at *
        generalize wl12.heap.size = g30 at *
        refine wpAnyH_ready (rs := [31]) (by kernel_rfl) (by simp) ?_
        refine AllReadyH.cons rfl (fun K hK => ?_) AllReadyH.nil
        try simp only [Act.put, List.setIfInBounds_toArray, List.set_cons_zero, List.set_cons_succ, List.getElem_toArray, List.getElem_cons_zero, List.getElem_cons_succ]
        go_simp
        go_at_call 12
        refine (live_same Am cm g30 _ hm1 hm2 HR.out H30.out).mono ?_
        rintro e wl14 ⟨rfl, hb⟩
        refine hK.out _ _ (LS.step hb hHeld) (fun hHeld2 => ?_)
        clear hK K hHeld
        have hHeld := hHeld2
        clear hHeld2
        try simp only [Act.put, List.setIfInBounds_toArray, List.set_cons_zero, List.set_cons_succ, List.getElem_toArray, List.getElem_cons_zero, List.getElem_cons_succ]
        exact wpAnyH_listed (by kernel_rfl) (htail _ _ _ _ _ hHeld)
      refine AllReadyH.cons rfl (fun K hK => ?_) AllReadyH.nil
      try simp only [Act.put, List.setIfInBounds_toArray, List.set_cons_zero, List.set_cons_succ, List.getElem_toArray, List.getElem_cons_zero, List.getElem_cons_succ]
      go_simp
      refine hK.out _ _ (hHeld.alloc _) (fun hHeld2 => ?_)
      clear hK K hHeld
      have hHeld := hHeld2
      clear hHeld2
      try simp only [Act.put, List.setIfInBounds_toArray, List.set_cons_zero, List.set_cons_succ, List.getElem_toArray, List.getElem_cons_zero, List.getElem_cons_succ]
      replace H24 := hide (H24.out.alloc (.cells #[.int .u64 2, .int .u64 2] 36))
      replace H27 := hide (H27.out.alloc (.cells #[.int .u64 2, .int .u64 2] 36))
      have H30 := hide (Blk.new wl11 36 #[.int .u64 2, .int .u64 2])
      generalize wl11.alloc (.cells #[.int .u64 2, .int .u64 2] 36) = wl12 at *
      generalize wl11.heap.size = g30 at *
      refine wpAnyH_ready (rs := [28]) (by kernel_rfl) (by simp) ?_
      refine AllReadyH.cons rfl (fun K hK => ?_) AllReadyH.nil
      try simp only [Act.put, List.setIfInBounds_toArray, List.set_cons_zero, List.set_cons_succ, List.getElem_toArray, List.getElem_cons_zero, List.getElem_cons_succ]
      go_simp
      go_at_call 8
      refine (live_missing g24 g27 _ H24.out H27.out).mono ?_
      rintro e wl13 ⟨Am, cm, rfl, hm1, hm2, hmR, hb⟩
      refine hK.out _ _ (LS.step hb hHeld) (fun hHeld2 => ?_)
      clear hK K hHeld
      have hHeld := hHeld2
      clear hHeld2
      try simp only [Act.put, List.setIfInBounds_toArray, List.set_cons_zero, List.set_cons_succ, List.getElem_toArray, List.getElem_cons_zero, List.getElem_cons_succ]
      replace H24 := hide (H24.out.below hb H24.out.lt)
      replace H27 := hide (H27.out.below hb H27.out.lt)
      replace H30 := hide (H30.out.below hb H30.out.lt)
      have HR := hide hmR
      clear hmR hb
      refine wpAnyH_ready (rs := [31]) (by kernel_rfl) (by simp) ?_
      refine AllReadyH.cons rfl (fun K hK => ?_) AllReadyH.nil
      try simp only [Act.put, List.setIfInBounds_toArray, List.set_cons_zero, List.set_cons_succ, List.getElem_toArray, List.getElem_cons_zero, List.getElem_cons_succ]
      go_simp
      go_at_call 12
      refine (live_same Am cm g30 _ hm1 hm2 HR.out H30.out).mono ?_
      rintro e wl14 ⟨rfl, hb⟩
      refine hK.out _ _ (LS.step hb hHeld) (fun hHeld2 => ?_)
      clear hK K hHeld
      have hHeld := hHeld2
      clear hHeld2
      try simp only [Act.put, List.setIfInBounds_toArray, List.set_cons_zero, List.set_cons_succ, List.getElem_toArray, List.getElem_cons_zero, List.getElem_cons_succ]
      exact wpAnyH_listed (by kernel_rfl) (htail _ _ _ _ _ hHeld)
    refine AllReadyH.cons rfl (fun K hK => ?_) AllReadyH.nil
    try simp only [Act.put, List.setIfInBounds_toArray, List.set_cons_zero, List.set_cons_succ, List.getElem_toArray, List.getElem_cons_zero, List.getElem_cons_succ]
    go_simp
    refine hK.out _ _ (hHeld.alloc _) (fun hHeld2 => ?_)
    clear hK K hHeld
    have hHeld := hHeld2
    clear hHeld2
    try simp only [Act.put, List.setIfInBounds_toArray, List.set_cons_zero, List.set_cons_succ, List.getElem_toArray, List.getElem_cons_zero, List.getElem_cons_succ]
    replace H24 := hide (H24.out.alloc (.cells #[.int .u64 2, .int .u64 2] 36))
    have H30 := hide (Blk.new wl10 36 #[.int .u64 2, .int .u64 2])
    generalize wl10.alloc (.cells #[.int .u64 2, .int .u64 2] 36) = wl11 at *
    generalize wl10.heap.size = g30 at *
    refine wpAnyH_ready (rs := [27]) (by kernel_rfl) (by simp) ?_
    refine AllReadyH.cons rfl (fun K hK => ?_) AllReadyH.nil
    try simp only [Act.put, List.setIfInBounds_toArray, List.set_cons_zero, List.set_cons_succ, List.getElem_toArray, List.getElem_cons_zero, List.getElem_cons_succ]
    go_simp
    refine hK.out _ _ (hHeld.alloc _) (fun hHeld2 => ?_)
    clear hK K hHeld
    have hHeld := hHeld2
    clear hHeld2
    try simp only [Act.put, List.setIfInBounds_toArray, List.set_cons_zero, List.set_cons_succ, List.getElem_toArray, List.getElem_cons_zero, List.getElem_cons_succ]
    replace H24 := hide (H24.out.alloc (.cells #[.int .u64 2, .int .u64 2, .int .u64 1, .int .u64 1] 36))
    replace H30 := hide (H30.out.alloc (.cells #[.int .u64 2, .int .u64 2, .int .u64 1, .int .u64 1] 36))
    have H27 := hide (Blk.new wl11 36 #[.int .u64 2, .int .u64 2, .int .u64 1, .int .u64 1])
    generalize wl11.alloc (.cells #[.int .u64 2, .int .u64 2, .int .u64 1, .int .u64 1] 36) = wl12 at *
    generalize wl11.heap.size = g27 at *
    refine wpAnyH_ready (rs := [28]) (by kernel_rfl) (by simp) ?_
    refine AllReadyH.cons rfl (fun K hK => ?_) AllReadyH.nil
    try simp only [Act.put, List.setIfInBounds_toArray, List.set_cons_zero, List.set_cons_succ, List.getElem_toArray, List.getElem_cons_zero, List.getElem_cons_succ]
    go_simp
    go_at_call 8
    refine (live_missing g24 g27 _ H24.out H27.out).mono ?_
    rintro e wl13 ⟨Am, cm, rfl, hm1, hm2, hmR, hb⟩
    refine hK.out _ _ (LS.step hb hHeld) (fun hHeld2 => ?_)
    clear hK K hHeld
    have hHeld := hHeld2
    clear hHeld2
    try simp only [Act.put, List.setIfInBounds_toArray, List.set_cons_zero, List.set_cons_succ, List.getElem_toArray, List.getElem_cons_zero, List.getElem_cons_succ]
    replace H24 := hide (H24.out.below hb H24.out.lt)
    replace H30 := hide (H30.out.below hb H30.out.lt)
    replace H27 := hide (H27.out.below hb H27.out.lt)
    have HR := hide hmR
    clear hmR hb
    refine wpAnyH_ready (rs := [31]) (by kernel_rfl) (by simp) ?_
    refine AllReadyH.cons rfl (fun K hK => ?_) AllReadyH.nil
    try simp only [Act.put, List.setIfInBounds_toArray, List.set_cons_zero, List.set_cons_succ, List.getElem_toArray, List.getElem_cons_zero, List.getElem_cons_succ]
    go_simp
    go_at_call 12
    refine (live_same Am cm g30 _ hm1 hm2 HR.out H30.out).mono ?_
    rintro e wl14 ⟨rfl, hb⟩
    refine hK.out _ _ (LS.step hb hHeld) (fun hHeld2 => ?_)
    clear hK K hHeld
    have hHeld := hHeld2
    clear hHeld2
    try simp only [Act.put, List.setIfInBounds_toArray, List.set_cons_zero, List.set_cons_succ, List.getElem_toArray, List.getElem_cons_zero, List.getElem_cons_succ]
    exact wpAnyH_listed (by kernel_rfl) (htail _ _ _ _ _ hHeld)
  refine AllReadyH.cons rfl (fun K hK => ?_) ?_
  · try simp only [Act.put, List.setIfInBounds_toArray, List.set_cons_zero, List.set_cons_succ, List.getElem_toArray, List.getElem_cons_zero, List.getElem_cons_succ]
    go_simp
    refine hK.out _ _ (hHeld.alloc _) (fun hHeld2 => ?_)
    clear hK K hHeld
    have hHeld := hHeld2
    clear hHeld2
    try simp only [Act.put, List.setIfInBounds_toArray, List.set_cons_zero, List.set_cons_succ, List.getElem_toArray, List.getElem_cons_zero, List.getElem_cons_succ]
    have H27 := hide (Blk.new wl9 36 #[.int .u64 2, .int .u64 2, .int .u64 1, .int .u64 1])
    generalize wl9.alloc (.cells #[.int .u64 2, .int .u64 2, .int .u64 1, .int .u64 1] 36) = wl10 at *
    generalize wl9.heap.size = g27 at *
    refine wpAnyH_ready (rs := [24, 30]) (by kernel_rfl) (by simp) ?_
    refine AllReadyH.cons rfl (fun K hK => ?_) ?_
    · try simp only [Act.put, List.setIfInBounds_toArray, List.set_cons_zero, List.set_cons_succ, List.getElem_toArray, List.getElem_cons_zero, List.getElem_cons_succ]
      go_simp
      refine hK.out _ _ (hHeld.alloc _) (fun hHeld2 => ?_)
      clear hK K hHeld
      have hHeld := hHeld2
      clear hHeld2
      try simp only [Act.put, List.setIfInBounds_toArray, List.set_cons_zero, List.set_cons_succ, List.getElem_toArray, List.getElem_cons_zero, List.getElem_cons_succ]
      replace H27 := hide (H27.out.alloc (.cells #[.int .u64 1, .int .u64 1] 36))
      have H24 := hide (Blk.new wl10 36 #[.int .u64 1, .int .u64 1])
      generalize wl10.alloc (.cells #[.int .u64 1, .int .u64 1] 36) = wl11 at *
      generalize wl10.heap.size = g24 at *
      refine wpAnyH_ready (rs := [28, 30]) (by kernel_rfl) (by simp) ?_
      refine AllReadyH.cons rfl (fun K hK => ?_) ?_
      · try simp only [Act.put, List.setIfInBounds_toArray, List.set_cons_zero, List.set_cons_succ, List.getElem_toArray, List.getElem_cons_zero, List.getElem_cons_succ]
        go_simp
        go_at_call 8
        refine (live_missing g24 g27 _ H24.out H27.out).mono ?_
        rintro e wl12 ⟨Am, cm, rfl, hm1, hm2, hmR, hb⟩
        refine hK.out _ _ (LS.step hb hHeld) (fun hHeld2 => ?_)
        clear hK K hHeld
        have hHeld := hHeld2
        clear hHeld2
        try simp only [Act.put, List.setIfInBounds_toArray, List.set_cons_zero, List.set_cons_succ, List.getElem_toArray, List.getElem_cons_zero, List.getElem_cons_succ]
        replace H27 := hide (H27.out.below hb H27.out.lt)
        replace H24 := hide (H24.out.below hb H24.out.lt)
        have HR := hide hmR
        clear hmR hb
        refine wpAnyH_ready (rs := [30]) (by kernel_rfl) (by simp) ?_
        refine AllReadyH.cons rfl (fun K hK => ?_) AllReadyH.nil
        try simp only [Act.put, List.setIfInBounds_toArray, List.set_cons_zero, List.set_cons_succ, List.getElem_toArray, List.getElem_cons_zero, List.getElem_cons_succ]
        go_simp
        refine hK.out _ _ (hHeld.alloc _) (fun hHeld2 => ?_)
        clear hK K hHeld
        have hHeld := hHeld2
        clear hHeld2
        try simp only [Act.put, List.setIfInBounds_toArray, List.set_cons_zero, List.set_cons_succ, List.getElem_toArray, List.getElem_cons_zero, List.getElem_cons_succ]
        replace H27 := hide (H27.out.alloc (.cells #[.int .u64 2, .int .u64 2] 36))
        replace H24 := hide (H24.out.alloc (.cells #[.int .u64 2, .int .u64 2] 36))
        replace HR := hide ((Rd.alloc HR.out (Nat.le_refl _) (.cells #[.int .u64 2, .int .u64 2] 36)).more (show wl12.heap.size ≤ (wl12.alloc (.cells #[.int .u64 2, .int .u64 2] 36)).heap.size by simp))
        have H30 := hide (Blk.new wl12 36 #[.int .u64 2, .int .u64 2])
        generalize wl12.alloc (.cells #[.int .u64 2, .int .u64 2] 36) = wl13 at *
        generalize wl12.heap.size = g30 at *
        refine wpAnyH_ready (rs := [31]) (by kernel_rfl) (by simp) ?_
        refine AllReadyH.cons rfl (fun K hK => ?_) AllReadyH.nil
        try simp only [Act.put, List.setIfInBounds_toArray, List.set_cons_zero, List.set_cons_succ, List.getElem_toArray, List.getElem_cons_zero, List.getElem_cons_succ]
        go_simp
        go_at_call 12
        refine (live_same Am cm g30 _ hm1 hm2 HR.out H30.out).mono ?_
        rintro e wl14 ⟨rfl, hb⟩
        refine hK.out _ _ (LS.step hb hHeld) (fun hHeld2 => ?_)
        clear hK K hHeld
        have hHeld := hHeld2
        clear hHeld2
        try simp only [Act.put, List.setIfInBounds_toArray, List.set_cons_zero, List.set_cons_succ, List.getElem_toArray, List.getElem_cons_zero, List.getElem_cons_succ]
        exact wpAnyH_listed (by kernel_rfl) (htail _ _ _ _ _ hHeld)
      refine AllReadyH.cons rfl (fun K hK => ?_) AllReadyH.nil
      try simp only [Act.put, List.setIfInBounds_toArray, List.set_cons_zero, List.set_cons_succ, List.getElem_toArray, List.getElem_cons_zero, List.getElem_cons_succ]
      go_simp
      refine hK.out _ _ (hHeld.alloc _) (fun hHeld2 => ?_)
      clear hK K hHeld
      have hHeld := hHeld2
      clear hHeld2
      try simp only [Act.put, List.setIfInBounds_toArray, List.set_cons_zero, List.set_cons_succ, List.getElem_toArray, List.getElem_cons_zero, List.getElem_cons_succ]
      replace H27 := hide (H27.out.alloc (.cells #[.int .u64 2, .int .u64 2] 36))
      replace H24 := hide (H24.out.alloc (.cells #[.int .u64 2, .int .u64 2] 36))
      have H30 := hide (Blk.new wl11 36 #[.int .u64 2, .int .u64 2])
      generalize wl11.alloc (.cells #[.int .u64 2, .int .u64 2] 36) = wl12 at *
      generalize wl11.heap.size = g30 at *
      refine wpAnyH_ready (rs := [28]) (by kernel_rfl) (by simp) ?_
      refine AllReadyH.cons rfl (fun K hK => ?_) AllReadyH.nil
      try simp only [Act.put, List.setIfInBounds_toArray, List.set_cons_zero, List.set_cons_succ, List.getElem_toArray, List.getElem_cons_zero, List.getElem_cons_succ]
      go_simp
      go_at_call 8
      refine (live_missing g24 g27 _ H24.out H27.out).mono ?_
      rintro e wl13 ⟨Am, cm, rfl, hm1, hm2, hmR, hb⟩
      refine hK.out _ _ (LS.step hb hHeld) (fun hHeld2 => ?_)
      clear hK K hHeld
      have hHeld := hHeld2
      clear hHeld2
      try simp only [Act.put, List.setIfInBounds_toArray, List.set_cons_zero, List.set_cons_succ, List.getElem_toArray, List.getElem_cons_zero, List.getElem_cons_succ]
      replace H27 := hide (H27.out.below hb H27.out.lt)
      replace H24 := hide (H24.out.below hb H24.out.lt)
      replace H30 := hide (H30.out.below hb H30.out.lt)
      have HR := hide hmR
      clear hmR hb
      refine wpAnyH_ready (rs := [31]) (by kernel_rfl) (by simp) ?_
      refine AllReadyH.cons rfl (fun K hK => ?_) AllReadyH.nil
      try simp only [Act.put, List.setIfInBounds_toArray, List.set_cons_zero, List.set_cons_succ, List.getElem_toArray, List.getElem_cons_zero, List.getElem_cons_succ]
      go_simp
      go_at_call 12
      refine (live_same Am cm g30 _ hm1 hm2 HR.out H30.out).mono ?_
      rintro e wl14 ⟨rfl, hb⟩
      refine hK.out _ _ (LS.step hb hHeld) (fun hHeld2 => ?_)
      clear hK K hHeld
      have hHeld := hHeld2
      clear hHeld2
      try simp only [Act.put, List.setIfInBounds_toArray, List.set_cons_zero, List.set_cons_succ, List.getElem_toArray, List.getElem_cons_zero, List.getElem_cons_succ]
      exact wpAnyH_listed (by kernel_rfl) (htail _ _ _ _ _ hHeld)
    refine AllReadyH.cons rfl (fun K hK => ?_) AllReadyH.nil
    try simp only [Act.put, List.setIfInBounds_toArray, List.set_cons_zero, List.set_cons_succ, List.getElem_toArray, List.getElem_cons_zero, List.getElem_cons_succ]
    go_simp
    refine hK.out _ _ (hHeld.alloc _) (fun hHeld2 => ?_)
    clear hK K hHeld
    have hHeld := hHeld2
    clear hHeld2
    try simp only [Act.put, List.setIfInBounds_toArray, List.set_cons_zero, List.set_cons_succ, List.getElem_toArray, List.getElem_cons_zero, List.getElem_cons_succ]
    replace H27 := hide (H27.out.alloc (.cells #[.int .u64 2, .int .u64 2] 36))
    have H30 := hide (Blk.new wl10 36 #[.int .u64 2, .int .u64 2])
    generalize wl10.alloc (.cells #[.int .u64 2, .int .u64 2] 36) = wl11 at *
    generalize wl10.heap.size = g30 at *
    refine wpAnyH_ready (rs := [24]) (by kernel_rfl) (by simp) ?_
    refine AllReadyH.cons rfl (fun K hK => ?_) AllReadyH.nil
    try simp only [Act.put, List.setIfInBounds_toArray, List.set_cons_zero, List.set_cons_succ, List.getElem_toArray, List.getElem_cons_zero, List.getElem_cons_succ]
    go_simp
    refine hK.out _ _ (hHeld.alloc _) (fun hHeld2 => ?_)
    clear hK K hHeld
    have hHeld := hHeld2
    clear hHeld2
    try simp only [Act.put, List.setIfInBounds_toArray, List.set_cons_zero, List.set_cons_succ, List.getElem_toArray, List.getElem_cons_zero, List.getElem_cons_succ]
    replace H27 := hide (H27.out.alloc (.cells #[.int .u64 1, .int .u64 1] 36))
    replace H30 := hide (H30.out.alloc (.cells #[.int .u64 1, .int .u64 1] 36))
    have H24 := hide (Blk.new wl11 36 #[.int .u64 1, .int .u64 1])
    generalize wl11.alloc (.cells #[.int .u64 1, .int .u64 1] 36) = wl12 at *
    generalize wl11.heap.size = g24 at *
    refine wpAnyH_ready (rs := [28]) (by kernel_rfl) (by simp) ?_
    refine AllReadyH.cons rfl (fun K hK => ?_) AllReadyH.nil
    try simp only [Act.put, List.setIfInBounds_toArray, List.set_cons_zero, List.set_cons_succ, List.getElem_toArray, List.getElem_cons_zero, List.getElem_cons_succ]
    go_simp
    go_at_call 8
    refine (live_missing g24 g27 _ H24.out H27.out).mono ?_
    rintro e wl13 ⟨Am, cm, rfl, hm1, hm2, hmR, hb⟩
    refine hK.out _ _ (LS.step hb hHeld) (fun hHeld2 => ?_)
    clear hK K hHeld
    have hHeld := hHeld2
    clear hHeld2
    try simp only [Act.put, List.setIfInBounds_toArray, List.set_cons_zero, List.set_cons_succ, List.getElem_toArray, List.getElem_cons_zero, List.getElem_cons_succ]
    replace H27 := hide (H27.out.below hb H27.out.lt)
    replace H30 := hide (H30.out.below hb H30.out.lt)
    replace H24 := hide (H24.out.below hb H24.out.lt)
    have HR := hide hmR
    clear hmR hb
    refine wpAnyH_ready (rs := [31]) (by kernel_rfl) (by simp) ?_
    refine AllReadyH.cons rfl (fun K hK => ?_) AllReadyH.nil
    try simp only [Act.put, List.setIfInBounds_toArray, List.set_cons_zero, List.set_cons_succ, List.getElem_toArray, List.getElem_cons_zero, List.getElem_cons_succ]
    go_simp
    go_at_call 12
    refine (live_same Am cm g30 _ hm1 hm2 HR.out H30.out).mono ?_
    rintro e wl14 ⟨rfl, hb⟩
    refine hK.out _ _ (LS.step hb hHeld) (fun hHeld2 => ?_)
    clear hK K hHeld
    have hHeld := hHeld2
    clear hHeld2
    try simp only [Act.put, List.setIfInBounds_toArray, List.set_cons_zero, List.set_cons_succ, List.getElem_toArray, List.getElem_cons_zero, List.getElem_cons_succ]
    exact wpAnyH_listed (by kernel_rfl) (htail _ _ _ _ _ hHeld)
  refine AllReadyH.cons rfl (fun K hK => ?_) AllReadyH.nil
  try simp only [Act.put, List.setIfInBounds_toArray, List.set_cons_zero, List.set_cons_succ, List.getElem_toArray, List.getElem_cons_zero, List.getElem_cons_succ]
  go_simp
  refine hK.out _ _ (hHeld.alloc _) (fun hHeld2 => ?_)
  clear hK K hHeld
  have hHeld := hHeld2
  clear hHeld2
  try simp only [Act.put, List.setIfInBounds_toArray, List.set_cons_zero, List.set_cons_succ, List.getElem_toArray, List.getElem_cons_zero, List.getElem_cons_succ]
  have H30 := hide (Blk.new wl9 36 #[.int .u64 2, .int .u64 2])
  generalize wl9.alloc (.cells #[.int .u64 2, .int .u64 2] 36) = wl10 at *
  generalize wl9.heap.size = g30 at *
  refine wpAnyH_ready (rs := [24, 27]) (by kernel_rfl) (by simp) ?_
  refine AllReadyH.cons rfl (fun K hK => ?_) ?_
  · try simp only [Act.put, List.setIfInBounds_toArray, List.set_cons_zero, List.set_cons_succ, List.getElem_toArray, List.getElem_cons_zero, List.getElem_cons_succ]
    go_simp
    refine hK.out _ _ (hHeld.alloc _) (fun hHeld2 => ?_)
    clear hK K hHeld
    have hHeld := hHeld2
    clear hHeld2
    try simp only [Act.put, List.setIfInBounds_toArray, List.set_cons_zero, List.set_cons_succ, List.getElem_toArray, List.getElem_cons_zero, List.getElem_cons_succ]
    replace H30 := hide (H30.out.alloc (.cells #[.int .u64 1, .int .u64 1] 36))
    have H24 := hide (Blk.new wl10 36 #[.int .u64 1, .int .u64 1])
    generalize wl10.alloc (.cells #[.int .u64 1, .int .u64 1] 36) = wl11 at *
    generalize wl10.heap.size = g24 at *
    refine wpAnyH_ready (rs := [27]) (by kernel_rfl) (by simp) ?_
    refine AllReadyH.cons rfl (fun K hK => ?_) AllReadyH.nil
    try simp only [Act.put, List.setIfInBounds_toArray, List.set_cons_zero, List.set_cons_succ, List.getElem_toArray, List.getElem_cons_zero, List.getElem_cons_succ]
    go_simp
    refine hK.out _ _ (hHeld.alloc _) (fun hHeld2 => ?_)
    clear hK K hHeld
    have hHeld := hHeld2
    clear hHeld2
    try simp only [Act.put, List.setIfInBounds_toArray, List.set_cons_zero, List.set_cons_succ, List.getElem_toArray, List.getElem_cons_zero, List.getElem_cons_succ]
    replace H30 := hide (H30.out.alloc (.cells #[.int .u64 2, .int .u64 2, .int .u64 1, .int .u64 1] 36))
    replace H24 := hide (H24.out.alloc (.cells #[.int .u64 2, .int .u64 2, .int .u64 1, .int .u64 1] 36))
    have H27 := hide (Blk.new wl11 36 #[.int .u64 2, .int .u64 2, .int .u64 1, .int .u64 1])
    generalize wl11.alloc (.cells #[.int .u64 2, .int .u64 2, .int .u64 1, .int .u64 1] 36) = wl12 at *
    generalize wl11.heap.size = g27 at *
    refine wpAnyH_ready (rs := [28]) (by kernel_rfl) (by simp) ?_
    refine AllReadyH.cons rfl (fun K hK => ?_) AllReadyH.nil
    try simp only [Act.put, List.setIfInBounds_toArray, List.set_cons_zero, List.set_cons_succ, List.getElem_toArray, List.getElem_cons_zero, List.getElem_cons_succ]
    go_simp
    go_at_call 8
    refine (live_missing g24 g27 _ H24.out H27.out).mono ?_
    rintro e wl13 ⟨Am, cm, rfl, hm1, hm2, hmR, hb⟩
    refine hK.out _ _ (LS.step hb hHeld) (fun hHeld2 => ?_)
    clear hK K hHeld
    have hHeld := hHeld2
    clear hHeld2
    try simp only [Act.put, List.setIfInBounds_toArray, List.set_cons_zero, List.set_cons_succ, List.getElem_toArray, List.getElem_cons_zero, List.getElem_cons_succ]
    replace H30 := hide (H30.out.below hb H30.out.lt)
    replace H24 := hide (H24.out.below hb H24.out.lt)
    replace H27 := hide (H27.out.below hb H27.out.lt)
    have HR := hide hmR
    clear hmR hb
    refine wpAnyH_ready (rs := [31]) (by kernel_rfl) (by simp) ?_
    refine AllReadyH.cons rfl (fun K hK => ?_) AllReadyH.nil
    try simp only [Act.put, List.setIfInBounds_toArray, List.set_cons_zero, List.set_cons_succ, List.getElem_toArray, List.getElem_cons_zero, List.getElem_cons_succ]
    go_simp
    go_at_call 12
    refine (live_same Am cm g30 _ hm1 hm2 HR.out H30.out).mono ?_
    rintro e wl14 ⟨rfl, hb⟩
    refine hK.out _ _ (LS.step hb hHeld) (fun hHeld2 => ?_)
    clear hK K hHeld
    have hHeld := hHeld2
    clear hHeld2
    try simp only [Act.put, List.setIfInBounds_toArray, List.set_cons_zero, List.set_cons_succ, List.getElem_toArray, List.getElem_cons_zero, List.getElem_cons_succ]
    exact wpAnyH_listed (by kernel_rfl) (htail _ _ _ _ _ hHeld)
  refine AllReadyH.cons rfl (fun K hK => ?_) AllReadyH.nil
  try simp only [Act.put, List.setIfInBounds_toArray, List.set_cons_zero, List.set_cons_succ, List.getElem_toArray, List.getElem_cons_zero, List.getElem_cons_succ]
  go_simp
  refine hK.out _ _ (hHeld.alloc _) (fun hHeld2 => ?_)
  clear hK K hHeld
  have hHeld := hHeld2
  clear hHeld2
  try simp only [Act.put, List.setIfInBounds_toArray, List.set_cons_zero, List.set_cons_succ, List.getElem_toArray, List.getElem_cons_zero, List.getElem_cons_succ]
  replace H30 := hide (H30.out.alloc (.cells #[.int .u64 2, .int .u64 2, .int .u64 1, .int .u64 1] 36))
  have H27 := hide (Blk.new wl10 36 #[.int .u64 2, .int .u64 2, .int .u64 1, .int .u64 1])
  generalize wl10.alloc (.cells #[.int .u64 2, .int .u64 2, .int .u64 1, .int .u64 1] 36) = wl11 at *
  generalize wl10.heap.size = g27 at *
  refine wpAnyH_ready (rs := [24]) (by kernel_rfl) (by simp) ?_
  refine AllReadyH.cons rfl (fun K hK => ?_) AllReadyH.nil
  try simp only [Act.put, List.setIfInBounds_toArray, List.set_cons_zero, List.set_cons_succ, List.getElem_toArray, List.getElem_cons_zero, List.getElem_cons_succ]
  go_simp
  refine hK.out _ _ (hHeld.alloc _) (fun hHeld2 => ?_)
  clear hK K hHeld
  have hHeld := hHeld2
  clear hHeld2
  try simp only [Act.put, List.setIfInBounds_toArray, List.set_cons_zero, List.set_cons_succ, List.getElem_toArray, List.getElem_cons_zero, List.getElem_cons_succ]
  replace H30 := hide (H30.out.alloc (.cells #[.int .u64 1, .int .u64 1] 36))
  replace H27 := hide (H27.out.alloc (.cells #[.int .u64 1, .int .u64 1] 36))
  have H24 := hide (Blk.new wl11 36 #[.int .u64 1, .int .u64 1])
  generalize wl11.alloc (.cells #[.int .u64 1, .int .u64 1] 36) = wl12 at *
  generalize wl11.heap.size = g24 at *
  refine wpAnyH_ready (rs := [28]) (by kernel_rfl) (by simp) ?_
  refine AllReadyH.cons rfl (fun K hK => ?_) AllReadyH.nil
  try simp only [Act.put, List.setIfInBounds_toArray, List.set_cons_zero, List.set_cons_succ, List.getElem_toArray, List.getElem_cons_zero, List.getElem_cons_succ]
  go_simp
  go_at_call 8
  refine (live_missing g24 g27 _ H24.out H27.out).mono ?_
  rintro e wl13 ⟨Am, cm, rfl, hm1, hm2, hmR, hb⟩
  refine hK.out _ _ (LS.step hb hHeld) (fun hHeld2 => ?_)
  clear hK K hHeld
  have hHeld := hHeld2
  clear hHeld2
  try simp only [Act.put, List.setIfInBounds_toArray, List.set_cons_zero, List.set_cons_succ, List.getElem_toArray, List.getElem_cons_zero, List.getElem_cons_succ]
  replace H30 := hide (H30.out.below hb H30.out.lt)
  replace H27 := hide (H27.out.below hb H27.out.lt)
  replace H24 := hide (H24.out.below hb H24.out.lt)
  have HR := hide hmR
  clear hmR hb
  refine wpAnyH_ready (rs := [31]) (by kernel_rfl) (by simp) ?_
  refine AllReadyH.cons rfl (fun K hK => ?_) AllReadyH.nil
  try simp only [Act.put, List.setIfInBounds_toArray, List.set_cons_zero, List.set_cons_succ, List.getElem_toArray, List.getElem_cons_zero, List.getElem_cons_succ]
  go_simp
  go_at_call 12
  refine (live_same Am cm g30 _ hm1 hm2 HR.out H30.out).mono ?_
  rintro e wl14 ⟨rfl, hb⟩
  refine hK.out _ _ (LS.step hb hHeld) (fun hHeld2 => ?_)
  clear hK K hHeld
  have hHeld := hHeld2
  clear hHeld2
  try simp only [Act.put, List.setIfInBounds_toArray, List.set_cons_zero, List.set_cons_succ, List.getElem_toArray, List.getElem_cons_zero, List.getElem_cons_succ]
  exact wpAnyH_listed (by kernel_rfl) (htail _ _ _ _ _ hHeld)
end Go.Proofs.Ytggbokgacffamab
