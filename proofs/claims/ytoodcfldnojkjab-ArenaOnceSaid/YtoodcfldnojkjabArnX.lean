/-
  The arena's plain law for ArenaOnce: the references that were told; the counts' sum. Conditions: as said.
-/
import Derived.Test.YtoodcfldnojkjabArnP
namespace Go.Proofs.Ytoodcfldnojkjab
open Go.RowKit

/-- each reference told is of an elder generation, or its slot is in use -/
def Told (ts : List (Nat × Int)) (s : Arn) : Prop := ∀ x ∈ ts, ∃ g, s.G[x.1]? = some g ∧ x.2 ≤ g ∧ (x.2 = g → ∃ u, s.S[x.1]? = some u ∧ u ≠ 0)
def refs (ts : List (Nat × Int)) : List Value := ts.flatMap fun x => [.int .i64 x.1, .int .i64 x.2]
theorem refs_len (ts : List (Nat × Int)) : (refs ts).length = ts.length * 2 := by
  induction ts with
  | nil => rfl
  | cons x ts ih => simp only [refs, List.flatMap_cons, List.length_append, List.length_cons, List.length_nil] at ih ⊢; omega
theorem refs_get {ts : List (Nat × Int)} {i : Nat} {x : Nat × Int} (h : ts[i]? = some x) : (refs ts)[i * 2]? = some (.int .i64 x.1) ∧ (refs ts)[i * 2 + 1]? = some (.int .i64 x.2) := by
  induction ts generalizing i with
  | nil => simp at h
  | cons y ts ih =>
    rcases i with _ | i
    · simp at h; subst h; exact ⟨rfl, rfl⟩
    · simp at h
      have := ih h
      simp only [refs, List.flatMap_cons] at this ⊢
      rw [show (i + 1) * 2 = i * 2 + 1 + 1 by omega]
      exact this
theorem refs_more (ts : List (Nat × Int)) (q : Nat) (g : Int) : refs (ts ++ [(q, g)]) = refs ts ++ [.int .i64 q, .int .i64 g] := by simp [refs]
theorem set_get {S : List Int} {i k : Nat} {z u : Int} (h : S[i]? = some u) : (S.set k z)[i]? = some (if k = i then z else u) := by
  have := (List.getElem?_eq_some_iff.1 h).1
  rw [List.getElem?_set]
  split
  · rw [if_pos (by omega)]
  · exact h
theorem told_use {ts : List (Nat × Int)} {s : Arn} (h : Told ts s) (k : Nat) (z : Int) (hz : z ≠ 0) (K : List Int) : Told ts ⟨s.S.set k z, s.G, K⟩ := fun x hx => by
  obtain ⟨g, h1, h2, h3⟩ := h x hx
  refine ⟨g, h1, h2, fun e => ?_⟩
  obtain ⟨u, h4, h5⟩ := h3 e
  refine ⟨_, set_get h4, ?_⟩
  split <;> assumption
theorem told_alloc {ts : List (Nat × Int)} {s : Arn} (h : Told ts s) {q : Nat} {g : Int} (hq : q < s.S.length) (hg : s.G[q]? = some g) : Told (ts ++ [(q, g)]) (s.alloc q) := fun x hx => by
  rcases List.mem_append.1 hx with hx | hx
  · exact told_use h q 1 (by decide) _ x hx
  · simp at hx
    subst hx
    exact ⟨g, hg, Int.le_refl _, fun _ => ⟨1, by show (s.S.set q 1)[q]? = _; rw [List.getElem?_set, if_pos rfl, if_pos hq], by decide⟩⟩
theorem told_new {ts : List (Nat × Int)} {s : Arn} (h : Told ts s) {q : Nat} {g : Int} (hs : s.S[q]? = some 0) (hg : s.G[q]? = some g) (x : Nat × Int) (hx : x ∈ ts) (e1 : x.1 = q) (e2 : x.2 = g) : False := by
  obtain ⟨g', h1, h2, h3⟩ := h x hx
  rw [e1, hg] at h1
  injection h1 with h1
  obtain ⟨u, h4, h5⟩ := h3 (by rw [e2, h1])
  rw [e1, hs] at h4
  injection h4 with h4
  exact h5 h4.symm
theorem told_free {ts : List (Nat × Int)} {s : Arn} (h : Told ts s) {q : Nat} {g : Int} (hg : s.G[q]? = some g) : Told ts (s.free q g) := fun x hx => by
  obtain ⟨g', h1, h2, h3⟩ := h x hx
  by_cases hq : q = x.1
  · rw [← hq, hg] at h1
    injection h1 with h1
    refine ⟨g + 1, ?_, by omega, fun e => by omega⟩
    show (s.G.set q (g + 1))[x.1]? = _
    rw [← hq, set_get hg, if_pos rfl]
  · refine ⟨g', ?_, h2, fun e => ?_⟩
    · show (s.G.set q (g + 1))[x.1]? = _
      rw [set_get h1, if_neg hq]
    · obtain ⟨u, h4, h5⟩ := h3 e
      exact ⟨u, by show (s.S.set q 0)[x.1]? = _; rw [set_get h4, if_neg hq], h5⟩
/-- the counts below k -/
def sumTo (S : List Int) : Nat → Nat
  | 0 => 0
  | k + 1 => sumTo S k + cnt S k
theorem count5 (l : List Int) (h : ∀ x ∈ l, 0 ≤ x ∧ x ≤ 4) : l.count 0 + l.count 1 + l.count 2 + l.count 3 + l.count 4 = l.length := by
  induction l with
  | nil => rfl
  | cons x l ih =>
    have := ih fun y hy => h y (List.mem_cons_of_mem _ hy)
    have hx := h x (List.mem_cons_self ..)
    have h5 : x = 0 ∨ x = 1 ∨ x = 2 ∨ x = 3 ∨ x = 4 := by omega
    rcases h5 with rfl | rfl | rfl | rfl | rfl <;> simp [List.count_cons] <;> omega
theorem sum_all {s : Arn} {n m : Nat} (ok : s.Ok n m) : sumTo s.S 5 = n := by
  have h := count5 s.S.tail fun x hx => by
    obtain ⟨i, hi⟩ := List.getElem?_of_mem hx
    rw [List.getElem?_tail] at hi
    exact ok.st _ _ hi
  have h1 := ok.hS
  simp only [List.length_tail, h1] at h
  simp only [sumTo, cnt]
  have c0 : ((0 : Nat) : Int) = 0 := rfl
  have c1 : ((1 : Nat) : Int) = 1 := rfl
  have c2 : ((2 : Nat) : Int) = 2 := rfl
  have c3 : ((3 : Nat) : Int) = 3 := rfl
  have c4 : ((4 : Nat) : Int) = 4 := rfl
  rw [c0, c1, c2, c3, c4]
  omega
theorem sum_le {s : Arn} {n m : Nat} (ok : s.Ok n m) {k : Nat} (hk : k ≤ 5) : sumTo s.S k ≤ n := by
  have h := sum_all ok
  have h5 : k = 0 ∨ k = 1 ∨ k = 2 ∨ k = 3 ∨ k = 4 ∨ k = 5 := by omega
  simp only [sumTo] at h
  rcases h5 with rfl | rfl | rfl | rfl | rfl | rfl <;> simp only [sumTo] <;> omega
theorem told_nil (s : Arn) : Told [] s := fun x hx => by cases hx
end Go.Proofs.Ytoodcfldnojkjab
