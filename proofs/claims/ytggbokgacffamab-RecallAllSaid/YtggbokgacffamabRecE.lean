/-
  The package recall: what was not found: the document's. Conditions: the slices read as lists of hits.
-/
import Derived.Test.YtggbokgacffamabRecD
namespace Go.Proofs.Ytggbokgacffamab
open Go.RowKit

/-- the cells of hits -/
def hcs (l : List Hit) : List Value := l.flatMap fun h => [.int .u64 h.1, .int .u64 h.2]
theorem hcs_len (l : List Hit) : (hcs l).length = l.length * 2 := by
  induction l with
  | nil => rfl
  | cons a l ih => simp only [hcs, List.flatMap_cons, List.length_append, List.length_cons] at ih ⊢; rw [ih]; simp; omega
theorem hcs_snoc (l : List Hit) (x : Hit) : hcs (l ++ [x]) = hcs l ++ [.int .u64 x.1, .int .u64 x.2] := by simp [hcs]
theorem hcs_at {l : List Hit} {k : Nat} {x : Hit} (h : l[k]? = some x) : (hcs l)[k * 2]? = some (.int .u64 x.1) ∧ (hcs l)[k * 2 + 1]? = some (.int .u64 x.2) := by
  induction l generalizing k with
  | nil => simp at h
  | cons a l ih =>
    have e : hcs (a :: l) = .int .u64 a.1 :: .int .u64 a.2 :: hcs l := rfl
    rw [e]
    cases k with
    | zero => simp at h; subst h; simp
    | succ k =>
      simp at h
      have := ih h
      rw [show (k + 1) * 2 = k * 2 + 1 + 1 by omega]
      simpa using this
theorem hcs_one (l : List Hit) : ∀ u ∈ hcs l, u.oneCell' = true := by
  intro u hu
  simp only [hcs, List.mem_flatMap] at hu
  obtain ⟨x, _, hx⟩ := hu
  simp at hx
  rcases hx with rfl | rfl <;> rfl
theorem hitsR_mk {w : World} {R : Nat → Prop} {ad : Addr} {l : List Hit} (hR : R ad.block) (h : ∀ (j : Nat) (u : Value), (hcs l)[j]? = some u → w.cell? (ad.add j) = some u) : RdR SH w R (some ad) l := fun _ =>
  ⟨ad, rfl, hR, fun k x hx => ⟨[.int .u64 x.1] ++ [.int .u64 x.2], ⟨[.int .u64 x.1], [.int .u64 x.2], rfl, rfl, rfl⟩, fun j u hu => by
    obtain ⟨h1, h2⟩ := hcs_at hx
    rw [show SH.size = 2 from rfl]
    rcases j with _ | _ | j
    · simp at hu; subst hu; exact h _ _ h1
    · simp at hu; subst hu; exact h _ _ h2
    · simp at hu⟩⟩
theorem hitsR_own {w : World} {base : Nat} {e : TypeId} {A : Option Addr} {n c : Nat} {l : List Hit} (h : w.ownsRow base e 2 (.slice A n c) n (hcs l)) : RdR SH w (Btw base w.heap.size) A l := fun hne => by
  have hl : l.length = n := by have := h.1; rw [hcs_len] at this; omega
  obtain ⟨g, cap, hv, hg, hlt⟩ := h.form (by have := List.length_pos_iff.2 hne; omega)
  have hA : A = some ⟨g, 0, none⟩ := by injection hv
  subst hA
  exact hitsR_mk (R := Btw base w.heap.size) (ad := ⟨g, 0, none⟩) ⟨hg, hlt⟩ (fun j u hu => h.cells (g := g) rfl j _ hu) hne
def NewHits (w : World) (l : List Hit) (v : Value) (w' : World) : Prop :=
  ∃ A n c, v = .slice A n c ∧ l.length = n ∧ n ≤ c ∧ c ≤ 9223372036854775807 ∧ RdR SH w' (Btw w.heap.size w'.heap.size) A l ∧ Below w.heap.size w w'
theorem NewHits.of_own {w w' : World} {e : TypeId} {v : Value} {n : Nat} {l : List Hit} (h : w'.ownsRow w.heap.size e 2 v n (hcs l)) (hb : Below w.heap.size w w') : NewHits w l v w' := by
  obtain ⟨A, c, rfl, h1, h2⟩ := own_form h
  exact ⟨A, n, c, rfl, by have := h.1; rw [hcs_len] at this; omega, h1, h2, hitsR_own h, hb⟩
/-- what was not found -/
def missR (f t : List Hit) : List Hit := t.filter fun h => decide (h ∉ f)
theorem missR_snoc {f t : List Hit} {k : Nat} {x : Hit} (h : t[k]? = some x) : missR f (t.take (k + 1)) = missR f (t.take k) ++ if x ∈ f then [] else [x] := by
  unfold missR
  rw [take_snoc h, List.filter_append]
  by_cases e : x ∈ f
  · rw [if_pos e, List.filter_cons_of_neg (by simpa using e)]; simp
  · rw [if_neg e, List.filter_cons_of_pos (by simpa using e)]; simp
theorem missR_le (f t : List Hit) : (missR f t).length ≤ t.length := List.length_filter_le _ _
theorem info_hit : (Try.prog.info? 36).map (fun i => (i.zero, i.size, i.bytes)) = some (some (.agg #[.int .u64 0, .int .u64 0]), 2, 16) := by kernel_rfl

end Go.Proofs.Ytggbokgacffamab
