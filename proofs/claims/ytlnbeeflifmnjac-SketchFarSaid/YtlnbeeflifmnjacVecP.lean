/-
  The plain law of package vec: distances, products, orders, middles of lists of whole numbers. No program in sight.
-/
import Derived.Test.YtlnbeeflifmnjacLib
namespace Go.Proofs.Ytlnbeeflifmnjac
open Go.RowKit

/-- a component; 0 beyond the end -/
def cmpAt (xs : List Int) (i : Nat) : Int := xs.getD i 0
/-- all are int32s -/
def I32 (xs : List Int) : Prop := ∀ x ∈ xs, -2147483648 ≤ x ∧ x ≤ 2147483647
theorem cmpAt_le {xs : List Int} (h : I32 xs) (i : Nat) : -2147483648 ≤ cmpAt xs i ∧ cmpAt xs i ≤ 2147483647 := by
  unfold cmpAt
  rw [List.getD_eq_getElem?_getD]
  cases hx : xs[i]? with
  | none => simp
  | some x => exact h x (List.mem_of_getElem? hx)
theorem cmpAt_of {xs : List Int} {i : Nat} {x : Int} (h : xs[i]? = some x) : cmpAt xs i = x := by simp [cmpAt, h]
theorem cmpAt_out {xs : List Int} {i : Nat} (h : xs.length ≤ i) : cmpAt xs i = 0 := by simp [cmpAt, List.getElem?_eq_none h]

def sq (x y : Int) : Int := (x - y) * (x - y)
theorem sq_nonneg (x y : Int) : 0 ≤ sq x y := by
  unfold sq
  rcases Int.le_total 0 (x - y) with h | h
  · exact Int.mul_nonneg h h
  · exact Int.mul_nonneg_of_nonpos_of_nonpos h h
theorem sq_comm (x y : Int) : sq x y = sq y x := by unfold sq; rw [show x - y = -(y - x) by omega, Int.neg_mul_neg]
theorem sq_lt {x y : Int} (hx : -2147483648 ≤ x ∧ x ≤ 2147483647) (hy : -2147483648 ≤ y ∧ y ≤ 2147483647) : sq x y < 18446744073709551616 := by
  unfold sq
  generalize hd : x - y = d
  have h1 : -4294967295 ≤ d ∧ d ≤ 4294967295 := by omega
  rcases Int.le_total 0 d with h | h
  · have := Int.mul_le_mul h1.2 h1.2 h (by omega); omega
  · have := Int.mul_le_mul (a := -d) (b := -d) (c := 4294967295) (d := 4294967295) (by omega) (by omega) (by omega) (by omega)
    rw [Int.neg_mul_neg] at this; omega
/-- the sum of the first squares -/
def sqTo (xs ys : List Int) : Nat → Int
  | 0 => 0
  | k + 1 => sqTo xs ys k + sq (cmpAt xs k) (cmpAt ys k)
theorem sqTo_nonneg (xs ys : List Int) (k : Nat) : 0 ≤ sqTo xs ys k := by
  induction k with
  | zero => exact Int.le_refl _
  | succ k ih => have := sq_nonneg (cmpAt xs k) (cmpAt ys k); simp only [sqTo]; omega
theorem sqTo_mono (xs ys : List Int) {k l : Nat} (h : k ≤ l) : sqTo xs ys k ≤ sqTo xs ys l := by
  induction l with
  | zero => obtain rfl : k = 0 := by omega
            exact Int.le_refl _
  | succ l ih =>
    rcases Nat.lt_or_ge l k with h' | h'
    · obtain rfl : k = l + 1 := by omega
      exact Int.le_refl _
    · have := ih h'; have := sq_nonneg (cmpAt xs l) (cmpAt ys l); simp only [sqTo]; omega
theorem sqTo_comm (xs ys : List Int) (k : Nat) : sqTo xs ys k = sqTo ys xs k := by
  induction k with
  | zero => rfl
  | succ k ih => simp only [sqTo, ih, sq_comm]
theorem sqTo_same (xs : List Int) (k : Nat) : sqTo xs xs k = 0 := by
  induction k with
  | zero => rfl
  | succ k ih => simp [sqTo, ih, sq]
/-- held at the greatest number -/
def held (n : Int) : Int := if n < 18446744073709551616 then n else 18446744073709551615
theorem held_small {n : Int} (h : n < 18446744073709551616) : held n = n := by simp [held, h]
theorem held_great {n : Int} (h : 18446744073709551616 ≤ n) : held n = 18446744073709551615 := by unfold held; rw [if_neg (by omega)]
theorem held_le (n : Int) : held n ≤ 18446744073709551615 := by unfold held; split <;> omega
theorem held_nonneg {n : Int} (h : 0 ≤ n) : 0 ≤ held n := by unfold held; split <;> omega
def distOf (xs ys : List Int) : Int := held (sqTo xs ys (max xs.length ys.length))
theorem distOf_comm (xs ys : List Int) : distOf xs ys = distOf ys xs := by unfold distOf; rw [sqTo_comm, Nat.max_comm]
theorem distOf_same (xs : List Int) : distOf xs xs = 0 := by unfold distOf; rw [sqTo_same]; rfl
theorem distOf_le (xs ys : List Int) : 0 ≤ distOf xs ys ∧ distOf xs ys ≤ 18446744073709551615 := ⟨held_nonneg (sqTo_nonneg _ _ _), held_le _⟩

/-- products, as int64s add up -/
def dotTo (xs ys : List Int) : Nat → Int
  | 0 => 0
  | k + 1 => IntKind.i64.wrap (dotTo xs ys k + cmpAt xs k * cmpAt ys k)
def dotOf (xs ys : List Int) : Int := dotTo xs ys (min xs.length ys.length)

def lessOf : List Int → List Int → Bool
  | [], [] => false
  | [], _ :: _ => true
  | _ :: _, [] => false
  | x :: xs, y :: ys => if x = y then lessOf xs ys else decide (x < y)
theorem less_asymm : ∀ (xs ys : List Int), lessOf xs ys = true → lessOf ys xs = false
  | [], [], h => by simp [lessOf] at h
  | [], _ :: _, _ => rfl
  | _ :: _, [], h => by simp [lessOf] at h
  | x :: xs, y :: ys, h => by
    simp only [lessOf] at h ⊢
    by_cases e : x = y
    · subst e; rw [if_pos rfl] at h ⊢; exact less_asymm xs ys h
    · rw [if_neg e] at h; rw [if_neg (Ne.symm e)]; have := of_decide_eq_true h; exact decide_eq_false (by omega)
theorem less_trans : ∀ (xs ys zs : List Int), lessOf xs ys = true → lessOf ys zs = true → lessOf xs zs = true
  | [], [], zs, h, _ => by simp [lessOf] at h
  | [], _ :: _, [], _, h => by simp [lessOf] at h
  | [], _ :: _, _ :: _, _, _ => rfl
  | _ :: _, [], _, h, _ => by simp [lessOf] at h
  | _ :: _, _ :: _, [], _, h => by simp [lessOf] at h
  | x :: xs, y :: ys, z :: zs, h, k => by
    simp only [lessOf] at h k ⊢
    by_cases e : x = y
    · subst e; rw [if_pos rfl] at h
      by_cases e2 : x = z
      · subst e2; rw [if_pos rfl] at k ⊢; exact less_trans xs ys zs h k
      · rw [if_neg e2] at k ⊢; exact k
    · rw [if_neg e] at h
      have h' := of_decide_eq_true h
      by_cases e2 : y = z
      · subst e2; rw [if_neg e]; exact h
      · rw [if_neg e2] at k; have := of_decide_eq_true k; rw [if_neg (by omega)]; exact decide_eq_true (by omega)
theorem less_tri : ∀ (xs ys : List Int), (lessOf xs ys || lessOf ys xs) = !decide (xs = ys)
  | [], [] => rfl
  | [], _ :: _ => by simp [lessOf]
  | _ :: _, [] => by simp [lessOf]
  | x :: xs, y :: ys => by
    simp only [lessOf]
    by_cases e : x = y
    · subst e
      have := less_tri xs ys
      simp only [if_true, this, List.cons.injEq, true_and]
    · rw [if_neg e, if_neg (Ne.symm e)]
      have : x < y ∨ y < x := by omega
      rcases this with h | h <;> simp [e, h]
/-- 'less' goes on at place k, if all ahead is equal -/
theorem less_drop : ∀ (xs ys : List Int) (k : Nat), xs.take k = ys.take k → k ≤ xs.length → k ≤ ys.length → lessOf xs ys = lessOf (xs.drop k) (ys.drop k)
  | xs, ys, 0, _, _, _ => rfl
  | [], ys, k + 1, _, h, _ => by simp at h
  | _ :: _, [], k + 1, _, _, h => by simp at h
  | x :: xs, y :: ys, k + 1, h, h1, h2 => by
    simp at h h1 h2
    simp only [lessOf, h.1, if_true, List.drop_succ_cons]
    exact less_drop xs ys k h.2 h1 h2
theorem take_more {xs ys : List Int} {k : Nat} {x : Int} (h : xs.take k = ys.take k) (hx : xs[k]? = some x) (hy : ys[k]? = some x) : xs.take (k + 1) = ys.take (k + 1) := by
  rw [List.take_add_one, List.take_add_one, h, hx, hy]
theorem same_of_take {xs ys : List Int} {k : Nat} (h : xs.take k = ys.take k) (hx : xs.length ≤ k) (hy : ys.length ≤ k) : xs = ys := by
  rwa [List.take_of_length_le hx, List.take_of_length_le hy] at h
theorem less_at {xs ys : List Int} {k : Nat} {x y : Int} (h : xs.take k = ys.take k) (hx : xs[k]? = some x) (hy : ys[k]? = some y) (hne : x ≠ y) : lessOf xs ys = decide (x < y) := by
  have h1 := (List.getElem?_eq_some_iff.1 hx)
  have h2 := (List.getElem?_eq_some_iff.1 hy)
  obtain ⟨l1, e1⟩ := h1
  obtain ⟨l2, e2⟩ := h2
  rw [less_drop xs ys k h (by omega) (by omega), List.drop_eq_getElem_cons l1, List.drop_eq_getElem_cons l2, e1, e2]
  simp [lessOf, hne]
theorem less_end {xs ys : List Int} {k : Nat} (h : xs.take k = ys.take k) (hk : k = min xs.length ys.length) : lessOf xs ys = decide (xs.length < ys.length) := by
  rw [less_drop xs ys k h (by omega) (by omega)]
  rcases Nat.lt_or_ge xs.length ys.length with hl | hl
  · rw [List.drop_of_length_le (by omega)]
    obtain ⟨y, zs, e⟩ : ∃ y zs, ys.drop k = y :: zs := by
      cases hd : ys.drop k with
      | nil => have := congrArg List.length hd; simp at this; omega
      | cons y zs => exact ⟨y, zs, rfl⟩
    rw [e]; simp [lessOf, hl]
  · rw [List.drop_of_length_le (l := ys) (by omega)]
    rw [decide_eq_false (by omega)]
    cases xs.drop k <;> rfl

/-- rounded down -/
def colTo (l : List (List Int)) (i : Nat) : Nat → Int
  | 0 => 0
  | k + 1 => colTo l i k + cmpAt (l.getD k []) i
theorem colTo_le {l : List (List Int)} (h : ∀ v ∈ l, I32 v) (i k : Nat) : -2147483648 * (k : Int) ≤ colTo l i k ∧ colTo l i k ≤ 2147483647 * (k : Int) := by
  induction k with
  | zero => simp [colTo]
  | succ k ih =>
    have : -2147483648 ≤ cmpAt (l.getD k []) i ∧ cmpAt (l.getD k []) i ≤ 2147483647 := by
      rw [List.getD_eq_getElem?_getD]
      cases hx : l[k]? with
      | none => simp [cmpAt]
      | some v => exact cmpAt_le (h v (List.mem_of_getElem? hx)) i
    simp only [colTo]; omega
def meanOf (l : List (List Int)) : List Int := (List.range (l.getD 0 []).length).map fun i => colTo l i l.length / (l.length : Int)
def evenLen (l : List (List Int)) : Bool := l.all fun v => v.length == (l.getD 0 []).length
theorem mean_i32 {l : List (List Int)} (h : ∀ v ∈ l, I32 v) (hl : 0 < l.length) (i : Nat) : -2147483648 ≤ colTo l i l.length / (l.length : Int) ∧ colTo l i l.length / (l.length : Int) ≤ 2147483647 := by
  have := colTo_le h i l.length
  have hp : (0 : Int) < l.length := by omega
  exact ⟨(Int.le_ediv_iff_mul_le hp).2 (by omega), Int.ediv_le_of_le_mul hp (by omega)⟩
theorem meanOf_i32 {l : List (List Int)} (h : ∀ v ∈ l, I32 v) (hl : 0 < l.length) : I32 (meanOf l) := by
  intro x hx
  simp only [meanOf, List.mem_map] at hx
  obtain ⟨i, _, rfl⟩ := hx
  exact mean_i32 h hl i

/-- there is a middle -/
def meanB (l : List (List Int)) : Bool := decide (0 < l.length) && evenLen l
def meanR (l : List (List Int)) : List Int := if meanB l then meanOf l else []
def meanE (l : List (List Int)) : Int := if meanB l then 0 else 7
theorem meanB_nil : meanB [] = false := rfl
theorem meanB_no {l : List (List Int)} {k : Nat} {v : List Int} (h : l[k]? = some v) (hv : v.length ≠ (l.getD 0 []).length) : meanB l = false := by
  unfold meanB evenLen
  have : l.all (fun v => v.length == (l.getD 0 []).length) = false := by
    rw [List.all_eq_false]
    exact ⟨v, List.mem_of_getElem? h, by simpa using hv⟩
  rw [this, Bool.and_false]
theorem meanB_yes {l : List (List Int)} (hl : 0 < l.length) (h : ∀ (k : Nat) (v : List Int), l[k]? = some v → v.length = (l.getD 0 []).length) : meanB l = true := by
  unfold meanB evenLen
  rw [decide_eq_true hl, Bool.true_and, List.all_eq_true]
  intro v hv
  obtain ⟨k, hk⟩ := List.getElem?_of_mem hv
  simpa using h k v hk

def vecOk (xs : List Int) (dim : Int) : Bool := decide (1 ≤ dim ∧ dim ≤ 4096 ∧ (xs.length : Int) = dim) && xs.all fun x => decide (-16777216 ≤ x ∧ x ≤ 16777216)
end Go.Proofs.Ytlnbeeflifmnjac
