/-
  The plain law of package explore: in how many orders workers may be picked, which is the n-th, at which place one is. No program in sight.
-/
import Derived.Test.YtpnekmkbedhooaaVecP
namespace Go.Proofs.Ytpnekmkbedhooaa
open Go.RowKit

/-- in how many ways k places of n may be chosen -/
def pas : Nat → Nat → Nat
  | _, 0 => 1
  | 0, _ + 1 => 0
  | n + 1, k + 1 => pas n k + pas n (k + 1)
theorem pas_zero (n : Nat) : pas n 0 = 1 := by cases n <;> rfl
theorem pas_out {n k : Nat} (h : n < k) : pas n k = 0 := by
  induction n generalizing k with
  | zero => obtain ⟨j, rfl⟩ : ∃ j, k = j + 1 := ⟨k - 1, by omega⟩
            rfl
  | succ n ih =>
    obtain ⟨j, rfl⟩ : ∃ j, k = j + 1 := ⟨k - 1, by omega⟩
    simp only [pas]
    rw [ih (by omega), ih (by omega)]
theorem pas_self (n : Nat) : pas n n = 1 := by
  induction n with
  | zero => rfl
  | succ n ih => simp only [pas]; rw [ih, pas_out (by omega)]
/-- the number of orders, s picks being laid already -/
def multi (s : Nat) : List Nat → Nat
  | [] => 1
  | n :: l => pas (s + n) n * multi (s + n) l
/-- one pick less of a worker -/
def dec (l : List Nat) (w : Nat) : List Nat := l.set w (l.getD w 0 - 1)
theorem dec_len (l : List Nat) (w : Nat) : (dec l w).length = l.length := by simp [dec]
/-- the orders that begin with one of the first k workers -/
def first (s : Nat) (l : List Nat) : Nat → Nat
  | 0 => 0
  | k + 1 => first s l k + if 0 < l.getD k 0 then multi s (dec l k) else 0
theorem first_cons (s n : Nat) (l : List Nat) (k : Nat) : first s (n :: l) (k + 1) = (if 0 < n then pas (s + (n - 1)) (n - 1) * multi (s + (n - 1)) l else 0) + pas (s + n) n * first (s + n) l k := by
  induction k with
  | zero => simp [first, dec, multi]
  | succ k ih =>
    rw [first, ih]
    simp only [first, Nat.mul_add]
    have e : (n :: l).getD (k + 1) 0 = l.getD k 0 := by simp
    have e2 : multi s (dec (n :: l) (k + 1)) = pas (s + n) n * multi (s + n) (dec l k) := by simp [dec, multi]
    rw [e, e2]
    by_cases h : 0 < l.getD k 0
    · rw [if_pos h, if_pos h]; omega
    · rw [if_neg h, if_neg h]; omega
theorem multi_split (s : Nat) (l : List Nat) (h : 0 < s + l.sum) : multi s l = (if 0 < s then multi (s - 1) l else 0) + first s l l.length := by
  induction l generalizing s with
  | nil => simp at h; simp [multi, first, h]
  | cons n l ih =>
    rw [List.length_cons, first_cons]
    simp only [multi]
    rcases Nat.eq_zero_or_pos (s + n) with h0 | h0
    · obtain rfl : s = 0 := by omega
      obtain rfl : n = 0 := by omega
      have := ih 0 (by simpa using h)
      simp [pas] at this ⊢
      exact this
    · have hi := ih (s + n) (by omega)
      rw [if_pos h0] at hi
      rw [hi, Nat.mul_add]
      rw [← Nat.add_assoc]
      congr 1
      rcases Nat.eq_zero_or_pos n with hn | hn
      · subst hn
        have hs : 0 < s := by omega
        simp only [Nat.add_zero, Nat.lt_irrefl, if_false, hs, if_true, pas_zero, Nat.one_mul]
      · obtain ⟨m, rfl⟩ : ∃ m, n = m + 1 := ⟨n - 1, by omega⟩
        simp only [Nat.zero_lt_succ, if_true, Nat.add_sub_cancel]
        rw [show s + (m + 1) - 1 = s + m by omega, show s + (m + 1) = (s + m) + 1 by omega, show pas (s + m + 1) (m + 1) = pas (s + m) m + pas (s + m) (m + 1) from rfl]
        rcases Nat.eq_zero_or_pos s with hs | hs
        · subst hs
          simp only [Nat.lt_irrefl, if_false, Nat.zero_add]
          rw [pas_out (show m < m + 1 by omega)]
          simp
        · rw [if_pos hs, show s - 1 + (m + 1) = s + m by omega, Nat.add_mul]
          omega
theorem multi_first {l : List Nat} (h : 0 < l.sum) : multi 0 l = first 0 l l.length := by
  have := multi_split 0 l (by omega)
  simpa using this
theorem multi_zero {l : List Nat} (h : l.sum = 0) (s : Nat) : multi s l = 1 := by
  induction l generalizing s with
  | nil => rfl
  | cons n l ih =>
    simp at h
    obtain rfl : n = 0 := by omega
    simp only [multi, Nat.add_zero, pas_zero, Nat.one_mul]
    exact ih (by omega) s
theorem dec_sum {l : List Nat} {w : Nat} (h : 0 < l.getD w 0) : (dec l w).sum + 1 = l.sum := by
  induction l generalizing w with
  | nil => simp at h
  | cons n l ih =>
    rcases w with _ | w
    · simp [dec] at h ⊢; omega
    · have := ih (w := w) (by simpa using h)
      simp [dec] at this ⊢; omega
theorem getD_le_sum (l : List Nat) (w : Nat) : l.getD w 0 ≤ l.sum := by
  induction l generalizing w with
  | nil => simp
  | cons n l ih =>
    rcases w with _ | w
    · simp
    · have := ih w; simp at this ⊢; omega
/-- workers without a turn at the end count for nothing -/
theorem multi_pad (s : Nat) (l : List Nat) (k : Nat) : multi s (l ++ List.replicate k 0) = multi s l := by
  induction l generalizing s with
  | nil =>
    induction k with
    | zero => rfl
    | succ k ih => simp only [List.nil_append, List.replicate_succ, multi, Nat.add_zero, pas_zero, Nat.one_mul] at ih ⊢; exact ih
  | cons n l ih => simp only [List.cons_append, multi, ih]
theorem first_mono (s : Nat) (l : List Nat) {k m : Nat} (h : k ≤ m) : first s l k ≤ first s l m := by
  induction m with
  | zero => obtain rfl : k = 0 := by omega
            exact Nat.le_refl _
  | succ m ih =>
    rcases Nat.lt_or_ge m k with h' | h'
    · obtain rfl : k = m + 1 := by omega
      exact Nat.le_refl _
    · have := ih h'; simp only [first]; omega
/-- the worker with whom the n-th order begins -/
def Begins (l : List Nat) (n w : Nat) : Prop := w < l.length ∧ 0 < l.getD w 0 ∧ first 0 l w ≤ n ∧ n < first 0 l (w + 1)
theorem begins_ex {l : List Nat} {n : Nat} (h : n < first 0 l l.length) : ∃ w, Begins l n w := by
  have key : ∀ k, k ≤ l.length → n < first 0 l k → ∃ w, Begins l n w := by
    intro k
    induction k with
    | zero => intro _ h; simp [first] at h
    | succ k ih =>
      intro hk hn
      rcases Nat.lt_or_ge n (first 0 l k) with h' | h'
      · exact ih (by omega) h'
      · refine ⟨k, by omega, ?_, h', hn⟩
        simp only [first] at hn
        split at hn
        · assumption
        · omega
  exact key _ (Nat.le_refl _) h
theorem begins_one {l : List Nat} {n v w : Nat} (h : Begins l n v) (k : Begins l n w) : v = w := by
  rcases Nat.lt_trichotomy v w with hl | hl | hl
  · have := first_mono 0 l (show v + 1 ≤ w by omega); have := h.2.2.2; have := k.2.2.1; omega
  · exact hl
  · have := first_mono 0 l (show w + 1 ≤ v by omega); have := k.2.2.2; have := h.2.2.1; omega
theorem begins_next {l : List Nat} {n w : Nat} (h : Begins l n w) : n - first 0 l w < multi 0 (dec l w) := by
  have := h.2.2.2
  simp only [first, h.2.1, if_true] at this
  have := h.2.2.1
  omega
/-- the n-th order of l -/
inductive Nth : List Nat → Nat → List Nat → Prop where
  | last {l : List Nat} : l.sum = 0 → Nth l 0 []
  | next {l : List Nat} {n w : Nat} {o : List Nat} : Begins l n w → Nth (dec l w) (n - first 0 l w) o → Nth l n (w :: o)
theorem nth_ex : ∀ (k : Nat) (l : List Nat) (n : Nat), l.sum = k → n < multi 0 l → ∃ o, Nth l n o := by
  intro k
  induction k with
  | zero =>
    intro l n hk hn
    rw [multi_zero hk] at hn
    obtain rfl : n = 0 := by omega
    exact ⟨[], .last hk⟩
  | succ k ih =>
    intro l n hk hn
    rw [multi_first (by omega)] at hn
    obtain ⟨w, hw⟩ := begins_ex hn
    obtain ⟨o, ho⟩ := ih (dec l w) (n - first 0 l w) (by have := dec_sum hw.2.1; omega) (begins_next hw)
    exact ⟨w :: o, .next hw ho⟩
theorem nth_len {l : List Nat} {n : Nat} {o : List Nat} (h : Nth l n o) : o.length = l.sum := by
  induction h with
  | last h => simp [h]
  | next hw _ ih => have := dec_sum hw.2.1; simp; omega
theorem nth_one {l : List Nat} {n : Nat} {o p : List Nat} (h : Nth l n o) (k : Nth l n p) : o = p := by
  induction h generalizing p with
  | last h =>
    cases k with
    | last _ => rfl
    | next hw _ => have := dec_sum hw.2.1; omega
  | next hw _ ih =>
    cases k with
    | last h => have := dec_sum hw.2.1; omega
    | next hv k' =>
      obtain rfl := begins_one hw hv
      rw [ih k']
/-- a right order, and its place -/
inductive Placed : List Nat → List Nat → Nat → Prop where
  | last {l : List Nat} : l.sum = 0 → Placed l [] 0
  | next {l : List Nat} {w n : Nat} {o : List Nat} : w < l.length → 0 < l.getD w 0 → Placed (dec l w) o n → Placed l (w :: o) (first 0 l w + n)
theorem nth_placed {l : List Nat} {n : Nat} {o : List Nat} (h : Nth l n o) : Placed l o n := by
  induction h with
  | last h => exact .last h
  | next hw _ ih =>
    have := Placed.next hw.1 hw.2.1 ih
    rwa [Nat.add_sub_cancel' hw.2.2.1] at this
theorem pas_pos {n k : Nat} (h : k ≤ n) : 0 < pas n k := by
  induction n generalizing k with
  | zero => obtain rfl : k = 0 := by omega
            exact Nat.one_pos
  | succ n ih =>
    rcases k with _ | k
    · exact Nat.one_pos
    · have := ih (show k ≤ n by omega); simp only [pas]; omega
/-- the product of the first k factors of 'multi' -/
def mt (s : Nat) (l : List Nat) : Nat → Nat
  | 0 => 1
  | k + 1 => mt s l k * pas (s + (l.take (k + 1)).sum) (l.getD k 0)
theorem mt_cons (s n : Nat) (l : List Nat) (k : Nat) : mt s (n :: l) (k + 1) = pas (s + n) n * mt (s + n) l k := by
  induction k with
  | zero => simp [mt]
  | succ k ih => rw [mt, ih, mt, Nat.mul_assoc]; simp [Nat.add_assoc]
theorem mt_all (s : Nat) (l : List Nat) : mt s l l.length = multi s l := by
  induction l generalizing s with
  | nil => rfl
  | cons n l ih => rw [List.length_cons, mt_cons, ih]; rfl
theorem getD_take_sum (l : List Nat) (k : Nat) : l.getD k 0 ≤ (l.take (k + 1)).sum := by
  induction l generalizing k with
  | nil => simp
  | cons n l ih =>
    rcases k with _ | k
    · simp
    · have := ih k; simp at this ⊢; omega
theorem mt_pos (s : Nat) (l : List Nat) (k : Nat) : 0 < mt s l k := by
  induction k with
  | zero => exact Nat.one_pos
  | succ k ih => exact Nat.mul_pos ih (pas_pos (by have := getD_take_sum l k; omega))
theorem multi_pos (s : Nat) (l : List Nat) : 0 < multi s l := by rw [← mt_all]; exact mt_pos _ _ _
end Go.Proofs.Ytpnekmkbedhooaa
