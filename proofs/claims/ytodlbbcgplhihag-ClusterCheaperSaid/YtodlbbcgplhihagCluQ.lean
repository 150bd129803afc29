/-
  The plain law of ClusterCheaper: no step makes the cost greater. No program in sight.
-/
import Derived.Test.YtodlbbcgplhihagCluU
namespace Go.Proofs.Ytodlbbcgplhihag
open Go.RowKit

/-- distances of vectors to places F, each to that of its group -/
def gsum (l cs : List (List Int)) (F : Nat → List Int) : Int := (l.map fun v => distOf v (F (best v cs))).sum
def partF (l cs : List (List Int)) (F : Nat → List Int) : Nat → Int
  | 0 => 0
  | k + 1 => partF l cs F k + farSum (memb l cs k) (F k)
theorem partF_cons (v : List Int) (l cs : List (List Int)) (F : Nat → List Int) (k : Nat) : partF (v :: l) cs F k = partF l cs F k + if best v cs < k then distOf v (F (best v cs)) else 0 := by
  induction k with
  | zero => simp [partF]
  | succ k ih =>
    simp only [partF, ih, memb, List.filter_cons]
    by_cases e : best v cs = k
    · subst e
      simp [farSum]
      omega
    · have e' : (best v cs == k) = false := by rw [beq_eq_false_iff_ne]; exact e
      rw [e']
      by_cases h : best v cs < k
      · simp [h, show best v cs < k + 1 by omega]; omega
      · simp [h, show ¬ best v cs < k + 1 by omega]
theorem part_gsum (l cs : List (List Int)) (F : Nat → List Int) (h : cs ≠ []) : partF l cs F cs.length = gsum l cs F := by
  induction l with
  | nil =>
    have : ∀ k, partF [] cs F k = 0 := fun k => by
      induction k with
      | zero => rfl
      | succ k ih => simp only [partF, ih]; rfl
    rw [this]; rfl
  | cons v l ih =>
    rw [partF_cons, ih, if_pos (show best v cs < cs.length from bestTo_lt _ _ _ (List.length_pos_iff.2 h))]
    simp only [gsum, List.map_cons, List.sum_cons]
    omega
theorem gsum_self (l cs : List (List Int)) : gsum l cs (cAt cs) = costSum l cs := rfl
theorem cost_le_gsum (l cs ds : List (List Int)) (h : cs ≠ []) (hl : ds.length = cs.length) : costSum l ds ≤ gsum l cs (cAt ds) := by
  induction l with
  | nil => exact Int.le_refl _
  | cons v l ih =>
    have hb : best v cs < ds.length := by rw [hl]; exact bestTo_lt _ _ _ (List.length_pos_iff.2 h)
    have := (bestTo_min v ds ds.length (best v cs) hb).1
    simp only [costSum, gsum, List.map_cons, List.sum_cons] at ih ⊢
    have e : distOf v (cAt ds (best v ds)) = distOf v (cAt ds (bestTo v ds ds.length)) := rfl
    omega
theorem held_lt_lt {a b : Int} (ha : 0 ≤ a) (hb : 0 ≤ b) (h : held a < held b) : a < b := by
  unfold held at h
  split at h <;> split at h <;> omega
theorem move_le (g : List (List Int)) (c : List Int) : farSum g (moveC g c) ≤ farSum g c := by
  unfold moveC
  split
  · rename_i h
    exact Int.le_of_lt (held_lt_lt (farSum_nonneg _ _) (farSum_nonneg _ _) h.2)
  · exact Int.le_refl _
theorem move_lt {g : List (List Int)} {c : List Int} (h : moveC g c ≠ c) : farSum g (moveC g c) < farSum g c := by
  unfold moveC at h ⊢
  split
  · rename_i h'
    exact held_lt_lt (farSum_nonneg _ _) (farSum_nonneg _ _) h'.2
  · rename_i h'
    rw [if_neg h'] at h
    exact absurd rfl h
theorem cAt_step {l cs : List (List Int)} {i : Nat} (h : i < cs.length) : cAt (stepOfC l cs) i = moveC (memb l cs i) (cAt cs i) := by
  unfold stepOfC
  exact cAt_of (by rw [List.getElem?_map, List.getElem?_range h]; rfl)
theorem partF_le {l cs : List (List Int)} {F G : Nat → List Int} {k : Nat} (h : ∀ i, i < k → farSum (memb l cs i) (F i) ≤ farSum (memb l cs i) (G i)) : partF l cs F k ≤ partF l cs G k := by
  induction k with
  | zero => exact Int.le_refl _
  | succ k ih => have := ih fun i hi => h i (by omega); have := h k (by omega); simp only [partF]; omega
theorem partF_lt {l cs : List (List Int)} {F G : Nat → List Int} {k i : Nat} (h : ∀ i, i < k → farSum (memb l cs i) (F i) ≤ farSum (memb l cs i) (G i)) (hi : i < k) (hlt : farSum (memb l cs i) (F i) < farSum (memb l cs i) (G i)) : partF l cs F k < partF l cs G k := by
  induction k with
  | zero => omega
  | succ k ih =>
    simp only [partF]
    rcases Nat.lt_or_ge i k with hk | hk
    · have := ih (fun i hi => h i (by omega)) hk; have := h k (by omega); omega
    · obtain rfl : i = k := by omega
      have := partF_le (l := l) (cs := cs) (F := F) (G := G) (k := i) fun j hj => h j (by omega)
      omega
theorem step_sum_le {l cs : List (List Int)} (h : cs ≠ []) : costSum l (stepOfC l cs) ≤ costSum l cs := by
  have h1 := cost_le_gsum l cs (stepOfC l cs) h (stepC_len _ _)
  have h2 := partF_le (l := l) (cs := cs) (F := cAt (stepOfC l cs)) (G := cAt cs) (k := cs.length) fun i hi => by rw [cAt_step hi]; exact move_le _ _
  rw [part_gsum _ _ _ h, part_gsum _ _ _ h, gsum_self] at h2
  omega
theorem step_sum_lt {l cs : List (List Int)} (h : cs ≠ []) (hm : stepOfC l cs ≠ cs) : costSum l (stepOfC l cs) < costSum l cs := by
  have h1 := cost_le_gsum l cs (stepOfC l cs) h (stepC_len _ _)
  obtain ⟨i, hi, hne⟩ : ∃ i, i < cs.length ∧ moveC (memb l cs i) (cAt cs i) ≠ cAt cs i := by
    refine Classical.byContradiction fun hno => hm ?_
    have hall : ∀ i, i < cs.length → moveC (memb l cs i) (cAt cs i) = cAt cs i := fun i hi => Classical.byContradiction fun hne => hno ⟨i, hi, hne⟩
    have : stepOfC l cs = (List.range cs.length).map (cAt cs) := by
      unfold stepOfC
      exact List.map_congr_left fun i hi => hall i (by simpa using hi)
    rw [this, range_cAt]
  have h2 := partF_lt (l := l) (cs := cs) (F := cAt (stepOfC l cs)) (G := cAt cs) (k := cs.length) (i := i) (fun i hi => by rw [cAt_step hi]; exact move_le _ _) hi (by rw [cAt_step hi]; exact move_lt hne)
  rw [part_gsum _ _ _ h, part_gsum _ _ _ h, gsum_self] at h2
  omega
theorem costSum_nonneg (l cs : List (List Int)) : 0 ≤ costSum l cs := by rw [← List.take_length (l := l), ← costTo_take _ _ _ (Nat.le_refl _)]; exact costTo_nonneg _ _ _
theorem held_mono {a b : Int} (h : a ≤ b) : held a ≤ held b := by unfold held; split <;> split <;> omega
theorem stepC_nil (l : List (List Int)) : stepOfC l [] = [] := rfl
theorem cost_step_le (l cs : List (List Int)) : costOf l (stepOfC l cs) ≤ costOf l cs := by
  by_cases h : cs = []
  · subst h; exact Int.le_refl _
  · have h' : stepOfC l cs ≠ [] := fun e => h (List.eq_nil_of_length_eq_zero (by rw [← stepC_len l cs, e]; rfl))
    unfold costOf
    rw [if_neg h, if_neg h']
    exact held_mono (step_sum_le h)
theorem cost_step_lt {l cs : List (List Int)} (hm : stepOfC l cs ≠ cs) (ha : costOf l cs < 18446744073709551615) : costOf l (stepOfC l cs) < costOf l cs := by
  have h : cs ≠ [] := fun e => by subst e; exact hm rfl
  have h' : stepOfC l cs ≠ [] := fun e => h (List.eq_nil_of_length_eq_zero (by rw [← stepC_len l cs, e]; rfl))
  unfold costOf at ha ⊢
  rw [if_neg h] at ha ⊢
  rw [if_neg h']
  have := step_sum_lt h hm
  have := costSum_nonneg l (stepOfC l cs)
  unfold held at ha ⊢
  split at ha <;> (try split) <;> omega
theorem cost_iter_le (l cs : List (List Int)) (n : Nat) : costOf l (iterC l cs n) ≤ costOf l cs := by
  induction n with
  | zero => exact Int.le_refl _
  | succ n ih => exact Int.le_trans (cost_step_le _ _) ih
theorem costOf_range (l cs : List (List Int)) : 0 ≤ costOf l cs ∧ costOf l cs ≤ 18446744073709551615 := by
  unfold costOf
  split
  · omega
  · exact ⟨held_nonneg (costSum_nonneg _ _), held_le _⟩
theorem run_moved {l cs : List (List Int)} {q n : Nat} (h : RunIs l cs q n) (hm : stepOfC l cs ≠ cs) (hq : 0 < q) : n ≠ 0 := by
  rintro rfl
  exact hm (h.2.2 hq)
end Go.Proofs.Ytodlbbcgplhihag
