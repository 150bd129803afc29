/-
  The plain law of SketchFar. No program in sight.
-/
import Derived.Test.YtlnbeeflifmnjacSkR
import Derived.Test.YtlnbeeflifmnjacSkS
namespace Go.Proofs.Ytlnbeeflifmnjac
set_option linter.unusedSimpArgs false
set_option linter.unusedVariables false

theorem apartW_comm (a b : List Int) : apartW a b = apartW b a := by
  unfold apartW
  exact List.countP_congr fun n _ => by rw [bne_comm]
theorem countP_or {α : Type} (p q r : α → Bool) (h : ∀ x, p x = true → q x = true ∨ r x = true) (l : List α) : l.countP p ≤ l.countP q + l.countP r := by
  induction l with
  | nil => simp
  | cons x l ih =>
    have hx := h x
    simp only [List.countP_cons]
    cases e : p x <;> cases e1 : q x <;> cases e2 : r x <;> simp [e, e1, e2] at hx ⊢ <;> omega
theorem apartW_tri (a b c : List Int) : apartW a c ≤ apartW a b + apartW b c := by
  unfold apartW
  refine countP_or _ _ _ (fun n h => ?_) _
  revert h
  cases mw a n <;> cases mw b n <;> cases mw c n <;> simp
theorem apartW_self (a : List Int) : apartW a a = 0 := by
  unfold apartW
  rw [List.countP_eq_zero]
  intro n _
  simp
def twiceF (v : List Int) : List Int := v.map (2 * ·)
def backF (v : List Int) : List Int := v.map (- ·)
theorem sumP_twice (v : List Int) (seed p : Int) : ∀ k, sumP (twiceF v) seed p k = 2 * sumP v seed p k
  | 0 => rfl
  | k + 1 => by
    have e : (twiceF v).getD k 0 = 2 * v.getD k 0 := by
      unfold twiceF
      rw [List.getD_eq_getElem?_getD, List.getD_eq_getElem?_getD, List.getElem?_map]
      rcases v[k]? with _ | x <;> simp
    unfold sumP
    rw [sumP_twice v seed p k, e, Int.mul_add]
    congr 1
    rw [← Int.mul_assoc, ← Int.mul_assoc, Int.mul_comm (sgn seed p k) 2]
theorem sumP_back (v : List Int) (seed p : Int) : ∀ k, sumP (backF v) seed p k = - sumP v seed p k
  | 0 => rfl
  | k + 1 => by
    have e : (backF v).getD k 0 = - v.getD k 0 := by
      unfold backF
      rw [List.getD_eq_getElem?_getD, List.getD_eq_getElem?_getD, List.getElem?_map]
      rcases v[k]? with _ | x <;> simp
    unfold sumP
    rw [sumP_back v seed p k, e, Int.neg_add, Int.mul_neg]
theorem above_twice (v : List Int) (seed p : Int) : aboveP (twiceF v) seed p = aboveP v seed p := by
  unfold aboveP
  rw [show (twiceF v).length = v.length by simp [twiceF], sumP_twice, decide_eq_decide]
  omega
theorem above_back (v : List Int) (seed p : Int) : aboveP v seed p = true ∨ aboveP (backF v) seed p = true := by
  unfold aboveP
  rw [show (backF v).length = v.length by simp [backF], sumP_back, decide_eq_true_iff, decide_eq_true_iff]
  omega
theorem planes_twice (v : List Int) (seed : Int) (N : Nat) : planesK (twiceF v) seed N = planesK v seed N := by
  unfold planesK
  exact congrArg _ (List.filter_congr fun p _ => above_twice v seed p)
theorem planes_mem {v : List Int} {seed : Int} {N n : Nat} : (n : Int) ∈ planesK v seed N ↔ n < N ∧ aboveP v seed n = true := by
  unfold planesK
  rw [List.mem_map]
  constructor
  · rintro ⟨q, hq, e⟩
    obtain rfl : q = n := Int.ofNat.inj e
    rw [List.mem_filter, List.mem_range] at hq
    exact hq
  · rintro ⟨h1, h2⟩
    exact ⟨n, List.mem_filter.2 ⟨List.mem_range.2 h1, h2⟩, rfl⟩
theorem filter_lt (N : Nat) : ∀ m, N ≤ m → ((List.range m).filter fun n => decide (n < N)).length = N := by
  intro m h
  obtain ⟨d, rfl⟩ : ∃ d, m = N + d := ⟨m - N, by omega⟩
  rw [List.range_add, List.filter_append, List.filter_eq_self.2 (fun x hx => decide_eq_true (List.mem_range.1 hx)), List.filter_eq_nil_iff.2 (fun x hx => by
    obtain ⟨y, _, rfl⟩ := List.mem_map.1 hx
    simp)]
  simp
/-- each plane is below one or the other -/
theorem both_count {v : List Int} {seed : Int} {N : Nat} {s u : List Int} (hN : N ≤ 4096) (hs : IsOf s (planesK v seed N)) (hu : IsOf u (planesK (backF v) seed N)) : (listW (unionW s u)).length = N := by
  unfold listW
  rw [List.filter_congr (q := fun n => decide (n < N)) fun n hn => ?_]
  · exact filter_lt N 4096 hN
  · have hn := List.mem_range.1 hn
    rw [mw_union hs.c.u hu.c.u hn, hs.m n hn, hu.m n hn, Bool.eq_iff_iff, Bool.or_eq_true, decide_eq_true_iff, decide_eq_true_iff, decide_eq_true_iff, planes_mem, planes_mem]
    have := above_back v seed n
    constructor
    · rintro (h | h) <;> exact h.1
    · intro h
      exact this.imp (fun e => ⟨h, e⟩) fun e => ⟨h, e⟩
theorem has_plane {v : List Int} {seed : Int} {N : Nat} {s : List Int} (hs : IsOf s (planesK v seed N)) {p : Nat} (hp : p < N) (h4 : p < 4096) : mw s p = decide (0 ≤ sumP v seed p v.length) := by
  rw [hs.m p h4, Bool.eq_iff_iff, decide_eq_true_iff, planes_mem]
  exact ⟨fun h => h.2, fun h => ⟨hp, h⟩⟩
/-- more planes add to a sketch -/
theorem more_planes {v : List Int} {seed n : Int} {N M : Nat} {s t o : List Int} (hs : IsOf s (planesK v seed N)) (ht : IsOf t (planesK v seed M)) (ho : IsOf o [n]) (hN : min (max n 0) 4096 = N) (hM : min (max (n + 1) 0) 4096 = M) (h3 : n ≤ 300) : s = lessW t o := by
  refine canon_ext hs.c (lessW_canon ht.c.u ho.c.u) fun k hk => ?_
  rw [mw_less ht.c.u ho.c.u hk, hs.m k hk, ht.m k hk, ho.m k hk, Bool.eq_iff_iff, Bool.and_eq_true, Bool.not_eq_true', decide_eq_true_iff, decide_eq_true_iff, decide_eq_false_iff_not, planes_mem, planes_mem, List.mem_singleton]
  constructor
  · rintro ⟨h1, h2⟩
    exact ⟨⟨by omega, h2⟩, by omega⟩
  · rintro ⟨⟨h1, h2⟩, h4⟩
    exact ⟨by omega, h2⟩
end Go.Proofs.Ytlnbeeflifmnjac
