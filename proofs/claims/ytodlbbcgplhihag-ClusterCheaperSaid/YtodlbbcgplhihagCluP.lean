/-
  The plain law of package cluster: groups, costs, steps of centers. No program in sight.
-/
import Derived.Test.YtodlbbcgplhihagVecP
namespace Go.Proofs.Ytodlbbcgplhihag
open Go.RowKit

/-- a center, by its place -/
def cAt (cs : List (List Int)) (i : Nat) : List Int := cs.getD i []
/-- the nearest of the first k centers: the first of them -/
def bestTo (v : List Int) (cs : List (List Int)) : Nat → Nat
  | 0 => 0
  | k + 1 => if distOf v (cAt cs k) < distOf v (cAt cs (bestTo v cs k)) then k else bestTo v cs k
def best (v : List Int) (cs : List (List Int)) : Nat := bestTo v cs cs.length
theorem bestTo_le (v : List Int) (cs : List (List Int)) (k : Nat) : bestTo v cs k ≤ k - 1 := by
  induction k with
  | zero => simp [bestTo]
  | succ k ih => unfold bestTo; split <;> omega
theorem bestTo_lt (v : List Int) (cs : List (List Int)) (k : Nat) (h : 0 < k) : bestTo v cs k < k := by have := bestTo_le v cs k; omega
theorem bestTo_one (v : List Int) (cs : List (List Int)) : bestTo v cs 1 = 0 := by simp [bestTo]
theorem bestTo_min (v : List Int) (cs : List (List Int)) (k : Nat) : ∀ i, i < k → distOf v (cAt cs (bestTo v cs k)) ≤ distOf v (cAt cs i) ∧ (distOf v (cAt cs i) = distOf v (cAt cs (bestTo v cs k)) → bestTo v cs k ≤ i) := by
  induction k with
  | zero => intro i h; omega
  | succ k ih =>
    intro i hi
    unfold bestTo
    by_cases hc : distOf v (cAt cs k) < distOf v (cAt cs (bestTo v cs k))
    · rw [if_pos hc]
      rcases Nat.lt_or_ge i k with h | h
      · have := ih i h; omega
      · obtain rfl : i = k := by omega
        omega
    · rw [if_neg hc]
      have hb := bestTo_le v cs k
      rcases Nat.lt_or_ge i k with h | h
      · exact ih i h
      · obtain rfl : i = k := by omega
        omega
def groupsOf (l cs : List (List Int)) : List Int := if cs = [] then [] else l.map fun v => (best v cs : Int)

/-- a sum held at the greatest number -/
def addH (a b : Int) : Int := held (a + b)
theorem addH_held {a b : Int} (ha : 0 ≤ a) (hb : 0 ≤ b) : addH (held a) b = held (a + b) := by
  unfold addH held; split <;> split <;> (try split) <;> omega
theorem addH_held2 {a b : Int} (ha : 0 ≤ a) (hb : 0 ≤ b) : addH (held a) (held b) = held (a + b) := by
  unfold addH held; split <;> split <;> (try split) <;> (try split) <;> omega
/-- the sum of the distances of the first k vectors to a place -/
def farTo (l : List (List Int)) (c : List Int) : Nat → Int
  | 0 => 0
  | k + 1 => farTo l c k + distOf (cAt l k) c
theorem farTo_nonneg (l : List (List Int)) (c : List Int) (k : Nat) : 0 ≤ farTo l c k := by
  induction k with
  | zero => exact Int.le_refl _
  | succ k ih => have := (distOf_le (cAt l k) c).1; simp only [farTo]; omega
def farOf (l : List (List Int)) (c : List Int) : Int := farTo l c l.length
def farSum (l : List (List Int)) (c : List Int) : Int := (l.map fun v => distOf v c).sum
theorem farTo_take (l : List (List Int)) (c : List Int) (k : Nat) (h : k ≤ l.length) : farTo l c k = farSum (l.take k) c := by
  induction k with
  | zero => rfl
  | succ k ih =>
    have hk : l[k]? = some (cAt l k) := by rw [cAt, List.getD_eq_getElem?_getD, List.getElem?_eq_getElem (by omega)]; rfl
    rw [List.take_add_one, hk]
    simp only [farTo, farSum, List.map_append, List.sum_append] at ih ⊢
    rw [ih (by omega)]
    simp
theorem farOf_sum (l : List (List Int)) (c : List Int) : farOf l c = farSum l c := by unfold farOf; rw [farTo_take l c _ (Nat.le_refl _), List.take_length]
/-- the vectors of a group -/
def memb (l cs : List (List Int)) (g : Nat) : List (List Int) := l.filter fun v => best v cs == g
/-- the cost of the first k vectors -/
def costTo (l cs : List (List Int)) : Nat → Int
  | 0 => 0
  | k + 1 => costTo l cs k + distOf (cAt l k) (cAt cs (best (cAt l k) cs))
theorem costTo_nonneg (l cs : List (List Int)) (k : Nat) : 0 ≤ costTo l cs k := by
  induction k with
  | zero => exact Int.le_refl _
  | succ k ih => have := (distOf_le (cAt l k) (cAt cs (best (cAt l k) cs))).1; simp only [costTo]; omega
def costSum (l cs : List (List Int)) : Int := (l.map fun v => distOf v (cAt cs (best v cs))).sum
theorem costTo_take (l cs : List (List Int)) (k : Nat) (h : k ≤ l.length) : costTo l cs k = costSum (l.take k) cs := by
  induction k with
  | zero => rfl
  | succ k ih =>
    have hk : l[k]? = some (cAt l k) := by rw [cAt, List.getD_eq_getElem?_getD, List.getElem?_eq_getElem (by omega)]; rfl
    rw [List.take_add_one, hk]
    simp only [costTo, costSum, List.map_append, List.sum_append] at ih ⊢
    rw [ih (by omega)]
    simp
/-- the cost, group by group -/
def partTo (l cs : List (List Int)) : Nat → Int
  | 0 => 0
  | k + 1 => partTo l cs k + farSum (memb l cs k) (cAt cs k)
theorem farSum_nonneg (l : List (List Int)) (c : List Int) : 0 ≤ farSum l c := by rw [← farOf_sum]; exact farTo_nonneg _ _ _
theorem partTo_nonneg (l cs : List (List Int)) (k : Nat) : 0 ≤ partTo l cs k := by
  induction k with
  | zero => exact Int.le_refl _
  | succ k ih => have := farSum_nonneg (memb l cs k) (cAt cs k); simp only [partTo]; omega
theorem partTo_cons (v : List Int) (l cs : List (List Int)) (k : Nat) : partTo (v :: l) cs k = partTo l cs k + if best v cs < k then distOf v (cAt cs (best v cs)) else 0 := by
  induction k with
  | zero => simp [partTo]
  | succ k ih =>
    simp only [partTo, ih, memb, List.filter_cons]
    by_cases e : best v cs = k
    · subst e
      simp [farSum]
      omega
    · have e' : (best v cs == k) = false := by rw [beq_eq_false_iff_ne]; exact e
      rw [e']
      by_cases h : best v cs < k
      · simp [h, show best v cs < k + 1 by omega]; omega
      · simp [h, show ¬ best v cs < k + 1 by omega]
theorem part_cost (l cs : List (List Int)) (h : cs ≠ []) : partTo l cs cs.length = costSum l cs := by
  induction l with
  | nil =>
    have : ∀ k, partTo [] cs k = 0 := fun k => by
      induction k with
      | zero => rfl
      | succ k ih => simp only [partTo, ih]; rfl
    rw [this]; rfl
  | cons v l ih =>
    rw [partTo_cons, ih, if_pos (show best v cs < cs.length from bestTo_lt _ _ _ (List.length_pos_iff.2 h))]
    simp only [costSum, List.map_cons, List.sum_cons]
    omega
def costOf (l cs : List (List Int)) : Int := if cs = [] then 0 else held (costSum l cs)

/-- a center behind a step -/
def moveC (g : List (List Int)) (c : List Int) : List Int := if meanB g = true ∧ held (farSum g (meanR g)) < held (farSum g c) then meanR g else c
def stepOfC (l cs : List (List Int)) : List (List Int) := (List.range cs.length).map fun i => moveC (memb l cs i) (cAt cs i)
def runOf (l cs : List (List Int)) : Nat → List (List Int) × Nat
  | 0 => (cs, 0)
  | k + 1 => if stepOfC l cs = cs then (cs, 0) else ((runOf l (stepOfC l cs) k).1, (runOf l (stepOfC l cs) k).2 + 1)
end Go.Proofs.Ytodlbbcgplhihag
