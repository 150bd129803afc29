/-
  Sets of bits in words, plainly. No program in sight.
-/
import Derived.Test.YtlnbeeflifmnjacBitA
import Derived.Laws.BitsAllLaws
namespace Go.Proofs.Ytlnbeeflifmnjac
set_option linter.unusedSimpArgs false
set_option linter.unusedVariables false

/-- a word's bit -/
def tb (x : Int) (j : Nat) : Bool := x.toNat.testBit j
def UL (l : List Int) : Prop := ∀ x ∈ l, 0 ≤ x ∧ x < 18446744073709551616
theorem UL.getD {l : List Int} (h : UL l) (i : Nat) : 0 ≤ l.getD i 0 ∧ l.getD i 0 < 18446744073709551616 := by
  rw [List.getD_eq_getElem?_getD]
  rcases e : l[i]? with _ | x
  · simp
  · exact h x (List.mem_of_getElem? e)
theorem UL.take {l : List Int} (h : UL l) (n : Nat) : UL (l.take n) := fun x hx => h x (List.mem_of_mem_take hx)
/-- a number is in a set -/
def mw (s : List Int) (n : Nat) : Bool := tb (s.getD (n / 64) 0) (n % 64)
/-- .. that says nothing but its numbers -/
structure Canon (s : List Int) : Prop where
  u : UL s
  len : s.length ≤ 64
  last : shortN s = s.length
theorem tb_ext {x y : Int} (hx : 0 ≤ x ∧ x < 18446744073709551616) (hy : 0 ≤ y ∧ y < 18446744073709551616) (h : ∀ j, j < 64 → tb x j = tb y j) : x = y := by
  have e : x.toNat = y.toNat := by
    apply Nat.eq_of_testBit_eq
    intro j
    rcases Nat.lt_or_ge j 64 with hj | hj
    · exact h j hj
    · rw [Nat.testBit_lt_two_pow (show x.toNat < 2 ^ j from Nat.lt_of_lt_of_le (by omega : x.toNat < 2 ^ 64) (Nat.pow_le_pow_right (by omega) hj)),
        Nat.testBit_lt_two_pow (show y.toNat < 2 ^ j from Nat.lt_of_lt_of_le (by omega : y.toNat < 2 ^ 64) (Nat.pow_le_pow_right (by omega) hj))]
  omega
theorem mw_word {s t : List Int} (hs : UL s) (ht : UL t) (h : ∀ n, n < 4096 → mw s n = mw t n) (i : Nat) (hi : i < 64) : s.getD i 0 = t.getD i 0 := by
  refine tb_ext (hs.getD i) (ht.getD i) fun j hj => ?_
  have := h (64 * i + j) (by omega)
  unfold mw at this
  rwa [show (64 * i + j) / 64 = i by omega, show (64 * i + j) % 64 = j by omega] at this
theorem canon_len {s t : List Int} (ht : Canon t) (h : ∀ i, i < 64 → s.getD i 0 = t.getD i 0) : t.length ≤ s.length := by
  rcases Nat.lt_or_ge s.length t.length with c | c
  · obtain ⟨k, hk⟩ : ∃ k, t.length = k + 1 := ⟨t.length - 1, by omega⟩
    obtain ⟨x, h1, h2⟩ := shortN_last t k (by rw [ht.last, hk])
    have h3 := h k (by have := ht.len; omega)
    rw [List.getD_eq_getElem?_getD, List.getD_eq_getElem?_getD, h1, List.getElem?_eq_none (by omega)] at h3
    exact absurd h3.symm h2
  · exact c
/-- two that have the same numbers are one -/
theorem canon_ext {s t : List Int} (hs : Canon s) (ht : Canon t) (h : ∀ n, n < 4096 → mw s n = mw t n) : s = t := by
  have h1 := mw_word hs.u ht.u h
  have e1 := canon_len ht h1
  have e2 := canon_len hs fun i hi => (h1 i hi).symm
  apply List.ext_getElem? 
  intro i
  rcases Nat.lt_or_ge i s.length with c | c
  · have h3 := h1 i (by have := hs.len; omega)
    rw [List.getD_eq_getElem?_getD, List.getD_eq_getElem?_getD] at h3
    rw [List.getElem?_eq_getElem c, List.getElem?_eq_getElem (by omega)] at h3 ⊢
    exact congrArg some h3
  · rw [List.getElem?_eq_none c, List.getElem?_eq_none (by omega)]
theorem shL_getD (l : List Int) (i : Nat) : (shL l).getD i 0 = l.getD i 0 := by
  unfold shL
  rw [List.getD_eq_getElem?_getD, List.getD_eq_getElem?_getD, List.getElem?_take]
  split
  · rfl
  · rcases e : l[i]? with _ | x
    · rfl
    · rw [shortN_zero l i x (by omega) e]; rfl
theorem mw_shL (l : List Int) (n : Nat) : mw (shL l) n = mw l n := by unfold mw; rw [shL_getD]
theorem shL_canon {l : List Int} (hu : UL l) (hl : l.length ≤ 64) : Canon (shL l) := by
  have h := shortN_le l
  have e : (shL l).length = shortN l := by unfold shL; rw [List.length_take]; omega
  refine ⟨hu.take _, by omega, ?_⟩
  rw [e]
  refine shortN_is (by omega) (fun i x hi hx => ?_) ?_
  · unfold shL at hx
    rw [List.getElem?_take] at hx
    split at hx
    · omega
    · cases hx
  · rcases Nat.eq_zero_or_pos (shortN l) with h0 | h0
    · exact .inl h0
    · right
      obtain ⟨x, h1, h2⟩ := shortN_last l (shortN l - 1) (by omega)
      exact ⟨x, by unfold shL; rw [List.getElem?_take_of_lt (by omega)]; exact h1, h2⟩
theorem mw_take {s : List Int} {n : Nat} (hn : n < 4096) : mw (s.take 64) n = mw s n := by
  unfold mw
  rw [List.getD_eq_getElem?_getD, List.getD_eq_getElem?_getD, List.getElem?_take_of_lt (by omega)]
theorem putL_getD {op : Int → Int → Int} (h0 : op 0 0 = 0) (a b : List Int) (i : Nat) : (putL op a b).getD i 0 = op (a.getD i 0) (b.getD i 0) := by
  unfold putL
  rw [List.getD_eq_getElem?_getD, List.getElem?_map]
  rcases Nat.lt_or_ge i (max a.length b.length) with c | c
  · rw [List.getElem?_range c]; rfl
  · rw [List.getElem?_eq_none (by simpa using c)]
    rw [List.getD_eq_getElem?_getD, List.getD_eq_getElem?_getD, List.getElem?_eq_none (by omega), List.getElem?_eq_none (by omega)]
    exact h0.symm
theorem putL_u {op : Int → Int → Int} (h : ∀ x y : Int, 0 ≤ x → x < 18446744073709551616 → 0 ≤ y → y < 18446744073709551616 → 0 ≤ op x y ∧ op x y < 18446744073709551616) {a b : List Int} (ha : UL a) (hb : UL b) : UL (putL op a b) := by
  intro x hx
  obtain ⟨i, _, rfl⟩ := List.mem_map.1 hx
  exact h _ _ (ha.getD i).1 (ha.getD i).2 (hb.getD i).1 (hb.getD i).2
theorem or_in (x y : Int) (h1 : 0 ≤ x) (h2 : x < 18446744073709551616) (h3 : 0 ≤ y) (h4 : y < 18446744073709551616) : 0 ≤ bits .or .u64 x y ∧ bits .or .u64 x y < 18446744073709551616 := by
  rw [u64_or x y h1 h2 h3 h4]
  have := Nat.or_lt_two_pow (show x.toNat < 2 ^ 64 by omega) (show y.toNat < 2 ^ 64 by omega)
  omega
theorem andNot_in (x y : Int) (h1 : 0 ≤ x) (h2 : x < 18446744073709551616) (h3 : 0 ≤ y) (h4 : y < 18446744073709551616) : 0 ≤ bits .andNot .u64 x y ∧ bits .andNot .u64 x y < 18446744073709551616 := by
  rw [u64_andNot x y h1 h2 h3 h4]
  have := Nat.and_le_left (n := x.toNat) (m := 18446744073709551615 - y.toNat)
  omega
theorem tb_or {x y : Int} (h1 : 0 ≤ x ∧ x < 18446744073709551616) (h3 : 0 ≤ y ∧ y < 18446744073709551616) (j : Nat) : tb (bits .or .u64 x y) j = (tb x j || tb y j) := by
  rw [u64_or x y h1.1 h1.2 h3.1 h3.2]
  unfold tb
  rw [Int.toNat_natCast, Nat.testBit_or]
theorem tb_andNot {x y : Int} (h1 : 0 ≤ x ∧ x < 18446744073709551616) (h3 : 0 ≤ y ∧ y < 18446744073709551616) {j : Nat} (hj : j < 64) : tb (bits .andNot .u64 x y) j = (tb x j && !tb y j) := by
  rw [u64_andNot x y h1.1 h1.2 h3.1 h3.2]
  unfold tb
  have e : 18446744073709551615 - y.toNat = 2 ^ 64 - (y.toNat + 1) := by omega
  rw [Int.toNat_natCast, Nat.testBit_and, e, Nat.testBit_two_pow_sub_succ (by omega)]
  simp [hj]
/-- the sets that Less and Union give -/
def lessW (a b : List Int) : List Int := shL (putL (bits .andNot .u64) (a.take 64) (b.take 64))
def unionW (a b : List Int) : List Int := shL (putL (bits .or .u64) (a.take 64) (b.take 64))
theorem putL_len (op : Int → Int → Int) (a b : List Int) : (putL op a b).length = max a.length b.length := by unfold putL; simp
theorem lessW_canon {a b : List Int} (ha : UL a) (hb : UL b) : Canon (lessW a b) :=
  shL_canon (putL_u andNot_in (ha.take _) (hb.take _)) (by rw [putL_len, List.length_take, List.length_take]; omega)
theorem unionW_canon {a b : List Int} (ha : UL a) (hb : UL b) : Canon (unionW a b) :=
  shL_canon (putL_u or_in (ha.take _) (hb.take _)) (by rw [putL_len, List.length_take, List.length_take]; omega)
theorem mw_less {a b : List Int} (ha : UL a) (hb : UL b) {n : Nat} (hn : n < 4096) : mw (lessW a b) n = (mw a n && !mw b n) := by
  have h : mw (lessW a b) n = (mw (a.take 64) n && !mw (b.take 64) n) := by
    unfold lessW
    rw [mw_shL]
    unfold mw
    rw [putL_getD (by decide), tb_andNot ((ha.take 64).getD _) ((hb.take 64).getD _) (by omega)]
  rw [h, mw_take hn, mw_take hn]
theorem mw_union {a b : List Int} (ha : UL a) (hb : UL b) {n : Nat} (hn : n < 4096) : mw (unionW a b) n = (mw a n || mw b n) := by
  have h : mw (unionW a b) n = (mw (a.take 64) n || mw (b.take 64) n) := by
    unfold unionW
    rw [mw_shL]
    unfold mw
    rw [putL_getD (by decide), tb_or ((ha.take 64).getD _) ((hb.take 64).getD _)]
  rw [h, mw_take hn, mw_take hn]
/-- how many bits a word has -/
def oc (x : Int) : Nat := (List.range 64).countP (tb x)
theorem oc_zero : oc 0 = 0 := by decide
theorem oc_le (x : Int) : oc x ≤ 64 := by have h := List.countP_le_length (p := tb x) (l := List.range 64); rw [List.length_range] at h; exact h
theorem cnt_words (s : List Int) : ∀ k, (List.range (64 * k)).countP (mw s) = ((List.range k).map fun i => oc (s.getD i 0)).sum
  | 0 => rfl
  | k + 1 => by
    rw [show 64 * (k + 1) = 64 * k + 64 by omega, List.range_add, List.countP_append, cnt_words s k, List.range_succ (n := k), List.map_append, List.sum_append, List.countP_map]
    congr 1
    simp only [List.map_cons, List.map_nil, List.sum_cons, List.sum_nil, Nat.add_zero]
    unfold oc
    refine List.countP_congr fun j hj => ?_
    have hj := List.mem_range.1 hj
    simp only [Function.comp_apply, mw]
    rw [show (64 * k + j) / 64 = k by omega, show (64 * k + j) % 64 = j by omega]
theorem sum_getD {f : Int → Nat} (h0 : f 0 = 0) : ∀ (l : List Int) (k : Nat), ((List.range k).map fun i => f (l.getD i 0)).sum = ((l.take k).map f).sum
  | l, 0 => by simp
  | l, k + 1 => by
    rw [List.range_succ, List.map_append, List.sum_append, sum_getD h0 l k, List.take_add_one, List.map_append, List.sum_append]
    congr 1
    simp only [List.map_cons, List.map_nil, List.sum_cons, List.sum_nil, Nat.add_zero]
    rw [List.getD_eq_getElem?_getD]
    rcases l[k]? with _ | x
    · simpa using h0
    · simp
/-- a set's numbers -/
def listW (s : List Int) : List Nat := (List.range 4096).filter (mw s)
theorem count_list (s : List Int) : ((s.take 64).map oc).sum = (listW s).length := by
  have h := cnt_words s 64
  have e : 64 * 64 = 4096 := rfl
  rw [e] at h
  rw [← sum_getD oc_zero, ← h, List.countP_eq_length_filter]
  unfold listW
  exact rfl
/-- how far two are apart -/
def apartW (a b : List Int) : Nat := (List.range 4096).countP fun n => mw a n != mw b n
theorem apart_count {a b : List Int} (ha : UL a) (hb : UL b) : (((unionW (lessW a b) (lessW b a)).take 64).map oc).sum = apartW a b := by
  rw [count_list]
  unfold listW apartW
  rw [← List.countP_eq_length_filter]
  refine List.countP_congr fun n hn => ?_
  have hn := List.mem_range.1 hn
  rw [mw_union (lessW_canon ha hb).u (lessW_canon hb ha).u hn, mw_less ha hb hn, mw_less hb ha hn]
  cases mw a n <;> cases mw b n <;> simp
theorem countP_xor (p q : Nat → Bool) (l : List Nat) : l.countP (fun n => p n && !q n) + l.countP (fun n => q n && !p n) = l.countP fun n => p n != q n := by
  induction l with
  | nil => rfl
  | cons x l ih =>
    simp only [List.countP_cons]
    cases p x <;> cases q x <;> simp <;> omega
/-- .. as the document has it -/
theorem apart_less {a b : List Int} (ha : UL a) (hb : UL b) : (listW (lessW a b)).length + (listW (lessW b a)).length = apartW a b := by
  unfold apartW
  rw [← countP_xor]
  unfold listW
  rw [← List.countP_eq_length_filter, ← List.countP_eq_length_filter]
  rw [show (List.range 4096).countP (mw (lessW a b)) = (List.range 4096).countP fun n => mw a n && !mw b n from List.countP_congr fun n hn => by rw [mw_less ha hb (List.mem_range.1 hn)],
    show (List.range 4096).countP (mw (lessW b a)) = (List.range 4096).countP fun n => mw b n && !mw a n from List.countP_congr fun n hn => by rw [mw_less hb ha (List.mem_range.1 hn)]]
/-- the set of numbers -/
structure IsOf (s : List Int) (l : List Int) : Prop where
  c : Canon s
  m : ∀ n, n < 4096 → mw s n = decide ((n : Int) ∈ l)
theorem IsOf.one {s t l : List Int} (h : IsOf s l) (k : IsOf t l) : s = t := canon_ext h.c k.c fun n hn => (h.m n hn).trans (k.m n hn).symm
/-- what is left of a set -/
theorem less_is {a b : List Int} (ha : UL a) (hb : UL b) : IsOf (lessW a b) (((listW a).filter fun n => !mw b n).map Int.ofNat) where
  c := lessW_canon ha hb
  m n hn := by
    rw [mw_less ha hb hn]
    rcases e : (mw a n && !mw b n) with _ | _
    · symm
      refine decide_eq_false fun h => ?_
      obtain ⟨m, h1, h2⟩ := List.mem_map.1 h
      obtain rfl : m = n := Int.ofNat.inj h2
      obtain ⟨h3, h4⟩ := List.mem_filter.1 h1
      have h5 := (List.mem_filter.1 h3).2
      rw [h5, h4] at e
      cases e
    · symm
      rw [Bool.and_eq_true] at e
      exact decide_eq_true (List.mem_map.2 ⟨n, List.mem_filter.2 ⟨List.mem_filter.2 ⟨List.mem_range.2 hn, e.1⟩, e.2⟩, rfl⟩)
end Go.Proofs.Ytlnbeeflifmnjac
