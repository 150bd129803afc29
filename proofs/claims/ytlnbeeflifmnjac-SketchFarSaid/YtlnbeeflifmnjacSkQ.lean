/-
  Sets of bits in words, plainly: one number more. No program in sight.
-/
import Derived.Test.YtlnbeeflifmnjacSkP
namespace Go.Proofs.Ytlnbeeflifmnjac
set_option linter.unusedSimpArgs false
set_option linter.unusedVariables false

theorem clear_low {y j : Nat} (h : y.testBit j = false) : y % 2 ^ (j + 1) < 2 ^ j := by
  rw [Nat.mod_pow_succ]
  rw [Nat.testBit_eq_decide_div_mod_eq] at h
  have h1 : y / 2 ^ j % 2 = 0 := by have := of_decide_eq_false h; omega
  rw [h1, Nat.mul_zero, Nat.add_zero]
  exact Nat.mod_lt _ (Nat.two_pow_pos j)
theorem add_bit {y j : Nat} (h : y.testBit j = false) (i : Nat) : (y + 2 ^ j).testBit i = (y.testBit i || decide (i = j)) := by
  have hb := clear_low h
  have e := Nat.div_add_mod y (2 ^ (j + 1))
  have hp : 2 ^ (j + 1) = 2 ^ j + 2 ^ j := by rw [Nat.pow_succ]; omega
  have h1 := Nat.testBit_two_pow_mul_add (y / 2 ^ (j + 1)) (show y % 2 ^ (j + 1) < 2 ^ (j + 1) by omega) i
  have h2 := Nat.testBit_two_pow_mul_add (y / 2 ^ (j + 1)) (show 2 ^ j + y % 2 ^ (j + 1) < 2 ^ (j + 1) by omega) i
  rw [e] at h1
  rw [show 2 ^ (j + 1) * (y / 2 ^ (j + 1)) + (2 ^ j + y % 2 ^ (j + 1)) = y + 2 ^ j by omega] at h2
  rw [h1, h2]
  rcases Nat.lt_trichotomy i j with c | c | c
  · rw [if_pos (by omega), if_pos (by omega), Nat.testBit_two_pow_add_gt c, decide_eq_false (by omega), Bool.or_false]
  · subst c
    rw [if_pos (by omega), if_pos (by omega), Nat.testBit_two_pow_add_eq, decide_eq_true rfl, Bool.or_true, Nat.testBit_lt_two_pow hb]
    rfl
  · rw [if_neg (by omega), if_neg (by omega), decide_eq_false (by omega), Bool.or_false]
theorem add_small {y j : Nat} (h : y.testBit j = false) (hj : j < 64) (hy : y < 2 ^ 64) : y + 2 ^ j < 2 ^ 64 := by
  have hb := clear_low h
  have e := Nat.div_add_mod y (2 ^ (j + 1))
  have hp : 2 ^ (j + 1) = 2 ^ j + 2 ^ j := by rw [Nat.pow_succ]; omega
  have h64 : 2 ^ (j + 1) * 2 ^ (63 - j) = 2 ^ 64 := by rw [← Nat.pow_add, show j + 1 + (63 - j) = 64 by omega]
  have h1 : y / 2 ^ (j + 1) < 2 ^ (63 - j) := Nat.div_lt_of_lt_mul (by rw [h64]; exact hy)
  have h2 : 2 ^ (j + 1) * (y / 2 ^ (j + 1) + 1) ≤ 2 ^ (j + 1) * 2 ^ (63 - j) := Nat.mul_le_mul_left _ h1
  rw [h64, Nat.mul_add, Nat.mul_one] at h2
  omega
theorem bit_small {j : Nat} (hj : j < 64) : 2 ^ j < 18446744073709551616 := Nat.lt_of_lt_of_le (Nat.pow_lt_pow_right (by omega) hj) (by decide)
theorem ltc (q : Nat) (h : q < 18446744073709551616) : (q : Int) < 18446744073709551616 := by omega
theorem tb_add {y : Int} {j : Nat} (hy : 0 ≤ y ∧ y < 18446744073709551616) (hj : j < 64) (h : tb y j = false) : (0 ≤ y + 2 ^ j ∧ y + 2 ^ j < 18446744073709551616) ∧ ∀ i, tb (y + 2 ^ j) i = (tb y i || decide (i = j)) := by
  obtain ⟨n, rfl⟩ : ∃ n : Nat, y = n := ⟨y.toNat, by omega⟩
  have e : (n : Int) + 2 ^ j = ((n + 2 ^ j : Nat) : Int) := by simp
  have h' : n.testBit j = false := by unfold tb at h; rwa [Int.toNat_natCast] at h
  have h1 : n + 2 ^ j < 18446744073709551616 := Nat.lt_of_lt_of_le (add_small h' hj (by omega)) (by decide)
  rw [e]
  refine ⟨⟨Int.natCast_nonneg _, ltc _ h1⟩, fun i => ?_⟩
  unfold tb
  rw [Int.toNat_natCast, Int.toNat_natCast, add_bit h']
theorem tb_orb {y : Int} {j : Nat} (hy : 0 ≤ y ∧ y < 18446744073709551616) (hj : j < 64) : (0 ≤ bits .or .u64 y (2 ^ j) ∧ bits .or .u64 y (2 ^ j) < 18446744073709551616) ∧ ∀ i, tb (bits .or .u64 y (2 ^ j)) i = (tb y i || decide (i = j)) := by
  have h1 := bit_small hj
  have e : (2 : Int) ^ j = ((2 ^ j : Nat) : Int) := by simp
  rw [e]
  have p0 : (0 : Int) ≤ ((2 ^ j : Nat) : Int) := Int.natCast_nonneg _
  have p1 : ((2 ^ j : Nat) : Int) < 18446744073709551616 := ltc _ h1
  refine ⟨or_in y _ hy.1 hy.2 p0 p1, fun i => ?_⟩
  rw [tb_or hy ⟨p0, p1⟩]
  congr 1
  unfold tb
  rw [Int.toNat_natCast, Nat.testBit_two_pow]
  exact decide_eq_decide.2 eq_comm
theorem tb_nz {z : Int} {j : Nat} (h : tb z j = true) : z ≠ 0 := by
  rintro rfl
  unfold tb at h
  rw [show (0 : Int).toNat = 0 from rfl, Nat.zero_testBit] at h
  cases h
/-- a word is put -/
theorem getD_set (t : List Int) (k : Nat) (z : Int) (hk : k < t.length) (i : Nat) : (t.set k z).getD i 0 = if i = k then z else t.getD i 0 := by
  rw [List.getD_eq_getElem?_getD, List.getD_eq_getElem?_getD]
  by_cases h : i = k
  · subst h
    rw [List.getElem?_set_self hk, if_pos rfl]
    rfl
  · rw [List.getElem?_set_ne (Ne.symm h), if_neg h]
theorem mw_set {t : List Int} {k : Nat} {z : Int} (hk : k / 64 < t.length) (hz : ∀ i, tb z i = (tb (t.getD (k / 64) 0) i || decide (i = k % 64))) (n : Nat) : mw (t.set (k / 64) z) n = (mw t n || decide (n = k)) := by
  unfold mw
  rw [getD_set _ _ _ hk]
  by_cases h : n / 64 = k / 64
  · rw [if_pos h, hz, h]
    congr 1
    rw [decide_eq_decide]
    omega
  · rw [if_neg h, decide_eq_false (show ¬ n = k by rintro rfl; exact h rfl), Bool.or_false]
theorem ul_set {t : List Int} {k : Nat} {z : Int} (h : UL t) (hz : 0 ≤ z ∧ z < 18446744073709551616) : UL (t.set k z) := fun x hx => by
  rcases List.mem_or_eq_of_mem_set hx with h1 | h1
  · exact h x h1
  · rw [h1]; exact hz
theorem mw_zeros (t : List Int) (j n : Nat) : mw (t ++ List.replicate j 0) n = mw t n := by
  unfold mw
  congr 1
  rw [List.getD_eq_getElem?_getD, List.getD_eq_getElem?_getD]
  rcases Nat.lt_or_ge (n / 64) t.length with c | c
  · rw [List.getElem?_append_left c]
  · rw [List.getElem?_append_right c, List.getElem?_eq_none c, List.getElem?_replicate]
    split <;> rfl
theorem ul_zeros {t : List Int} (h : UL t) (j : Nat) : UL (t ++ List.replicate j 0) := fun x hx => by
  rcases List.mem_append.1 hx with h1 | h1
  · exact h x h1
  · rw [List.eq_of_mem_replicate h1]; omega
theorem mw_len {t : List Int} {n : Nat} (h : mw t n = true) : n / 64 < t.length := by
  rcases Nat.lt_or_ge (n / 64) t.length with c | c
  · exact c
  · unfold mw at h
    rw [List.getD_eq_getElem?_getD, List.getElem?_eq_none c] at h
    exact absurd rfl (tb_nz h)
theorem canon_nil : Canon [] := ⟨fun x h => absurd h List.not_mem_nil, by simp, rfl⟩
theorem IsOf.nil : IsOf [] [] := ⟨canon_nil, fun n _ => by
  have : mw [] n = false := by
    cases h : mw [] n
    · rfl
    · have := mw_len h; simp at this
  rw [this]; rfl⟩
theorem last_is {t : List Int} (h : t = [] ∨ ∃ x, t[t.length - 1]? = some x ∧ x ≠ 0) : shortN t = t.length := by
  refine shortN_is (Nat.le_refl _) (fun i x hi hx => ?_) ?_
  · rw [List.getElem?_eq_none hi] at hx; cases hx
  · rcases h with rfl | h
    · exact .inl rfl
    · exact .inr h
theorem Canon.end_ {t : List Int} (h : Canon t) (hne : t ≠ []) : ∃ x, t[t.length - 1]? = some x ∧ x ≠ 0 :=
  shortN_last t (t.length - 1) (by have := List.length_pos_iff.2 hne; rw [h.last]; omega)
/-- a number that is none of a set's leaves it -/
theorem IsOf.skip {s l : List Int} {x : Int} (h : IsOf s l) (hx : x < 0 ∨ 4096 ≤ x) : IsOf s (l ++ [x]) := ⟨h.c, fun n hn => by
  rw [h.m n hn, decide_eq_decide]
  simp only [List.mem_append, List.mem_singleton]
  constructor
  · exact .inl
  · rintro (h | h)
    · exact h
    · omega⟩
theorem IsOf.again {s l : List Int} {k : Nat} (h : IsOf s l) (hk : k < 4096) (hm : mw s k = true) : IsOf s (l ++ [(k : Int)]) := ⟨h.c, fun n hn => by
  rw [h.m n hn, decide_eq_decide]
  simp only [List.mem_append, List.mem_singleton]
  constructor
  · exact .inl
  · rintro (h1 | h1)
    · exact h1
    · obtain rfl : n = k := by omega
      rw [h.m n hn] at hm
      exact of_decide_eq_true hm⟩
/-- one that is not yet there is put -/
theorem IsOf.put {s l : List Int} {k j : Nat} {z : Int} (h : IsOf s l) (hk : k < 4096) (hm : mw s k = false) (hl : (s ++ List.replicate j 0).length ≤ max s.length (k / 64 + 1)) (hl2 : k / 64 < (s ++ List.replicate j 0).length)
    (hz : 0 ≤ z ∧ z < 18446744073709551616) (hb : ∀ i, tb z i = (tb ((s ++ List.replicate j 0).getD (k / 64) 0) i || decide (i = k % 64))) : IsOf ((s ++ List.replicate j 0).set (k / 64) z) (l ++ [(k : Int)]) := by
  have hnz : z ≠ 0 := tb_nz (j := k % 64) (by rw [hb, decide_eq_true rfl, Bool.or_true])
  refine ⟨⟨ul_set (ul_zeros h.c.u j) hz, ?_, last_is (.inr ?_)⟩, fun n hn => ?_⟩
  · rw [List.length_set]
    have := h.c.len
    omega
  · rw [List.length_set]
    by_cases e : k / 64 = (s ++ List.replicate j 0).length - 1
    · exact ⟨z, by rw [← e, List.getElem?_set_self hl2], hnz⟩
    · rw [List.getElem?_set_ne e]
      have hj : j = 0 := by rw [List.length_append, List.length_replicate] at *; omega
      subst hj
      simp only [List.replicate_zero, List.append_nil] at *
      exact h.c.end_ (by rintro rfl; simp at hl2)
  · rw [mw_set hl2 hb, mw_zeros, h.m n hn, Bool.eq_iff_iff]
    simp only [Bool.or_eq_true, decide_eq_true_eq, List.mem_append, List.mem_singleton]
    exact or_congr Iff.rfl (by omega)
end Go.Proofs.Ytlnbeeflifmnjac
