/-
  Rows of hits in a block of the call's own; lists of hits without equal neighbours. No condition.
-/
import Derived.Test.YtohccblecgmdbaaRnkH
import Derived.Test.YtohccblecgmdbaaRnkI
namespace Go.Proofs.Ytohccblecgmdbaa
open Go.RowKit

theorem encH_at {l : List Hit} {i : Nat} {x : Hit} (h : l[i]? = some x) : (fcs encH l)[i * 2]? = some (.int .u64 x.1) ∧ (fcs encH l)[i * 2 + 1]? = some (.int .u64 x.2) :=
  ⟨flatH.at_ h (j := 0) (by decide), flatH.at_ h (j := 1) (by decide)⟩
theorem fcsH_set (l : List Hit) (i : Nat) (x : Hit) (hi : i < l.length) : fcs encH (l.set i x) = ((fcs encH l).set (i * 2) (.int .u64 x.1)).set (i * 2 + 1) (.int .u64 x.2) := by
  induction l generalizing i with
  | nil => simp at hi
  | cons y l ih =>
    rcases i with _ | i
    · simp [fcs, encH]
    · have e := ih i (by simpa using hi)
      rw [List.set_cons_succ, fcs_cons, e, fcs_cons, show (i + 1) * 2 = i * 2 + 1 + 1 by omega]
      simp [encH]
theorem fcsH_take (l : List Hit) (i : Nat) : fcs encH (l.take i) = (fcs encH l).take (i * 2) := by
  induction l generalizing i with
  | nil => simp [fcs]
  | cons y l ih =>
    rcases i with _ | i
    · simp [fcs]
    · rw [List.take_succ_cons, fcs_cons, ih i, fcs_cons, show (i + 1) * 2 = i * 2 + 1 + 1 by omega]
      simp [encH]
/-- a row of hits in a block of the call's own -/
def RowH (w : World) (base g n cap : Nat) (l : List Hit) : Prop := w.ownsRow base 34 2 (.slice (some ⟨g, 0, none⟩) n cap) n (fcs encH l)
section
variable {w w' : World} {base g n cap : Nat} {l : List Hit}
theorem RowH.len (h : RowH w base g n cap l) : l.length = n := by have := h.1; rw [flatH.clen] at this; exact Nat.eq_of_mul_eq_mul_right flatH.pos this
theorem RowH.blk (h : RowH w base g n cap l) : base ≤ g ∧ ∃ cur, Blk w g 34 cur ∧ cur.size = cap * 2 ∧ cur.toList.take (n * 2) = fcs encH l ∧ n ≤ cap ∧ cap ≤ maxLen := by
  rcases h.2 with ⟨h, _⟩ | ⟨g', cap', cur, e, h0, h1, h2, h5, h3, h4⟩
  · cases h
  · injection e with e _ e3
    injection e with e
    injection e with e
    subst e e3
    exact ⟨h0, cur, h1, h3, h4, h2, h5⟩
theorem RowH.lt (h : RowH w base g n cap l) : g < w.heap.size := by obtain ⟨_, cur, h1, _⟩ := h.blk; exact h1.lt
theorem RowH.below {B : Nat} (h : RowH w base g n cap l) (hb : Below B w w') (hB : g < B) : RowH w' base g n cap l := by
  obtain ⟨h0, cur, h1, h3, h4, h2, h5⟩ := h.blk
  exact ⟨h.1, .inr ⟨g, cap, cur, rfl, h0, (hb.block g hB).trans h1, h2, h5, h3, h4⟩⟩
theorem RowH.cell (h : RowH w base g n cap l) {j : Nat} {u : Value} (hu : (fcs encH l)[j]? = some u) : w.cell? ⟨g, j, none⟩ = some u := by
  obtain ⟨h0, cur, h1, h3, h4, _⟩ := h.blk
  rw [h1.cell j, ← Array.getElem?_toList]
  rw [← h4, List.getElem?_take] at hu
  split at hu
  · exact hu
  · cases hu
theorem RowH.cells (h : RowH w base g n cap l) {i : Nat} {x : Hit} (hx : l[i]? = some x) : w.cell? ⟨g, i * 2, none⟩ = some (.int .u64 x.1) ∧ w.cell? ⟨g, i * 2 + 1, none⟩ = some (.int .u64 x.2) :=
  ⟨h.cell (encH_at hx).1, h.cell (encH_at hx).2⟩
theorem RowH.frozen (h : RowH w base g n cap l) (j : Nat) : w.frozen? ⟨g, j, none⟩ = false := by obtain ⟨_, cur, h1, _⟩ := h.blk; exact h1.frozen j
theorem RowH.set (h : RowH w base g n cap l) {i : Nat} (hi : i < n) (x : Hit) : RowH ((w.setCell ⟨g, i * 2, none⟩ (.int .u64 x.1)).setCell ⟨g, i * 2 + 1, none⟩ (.int .u64 x.2)) base g n cap (l.set i x) := by
  obtain ⟨h0, cur, h1, h3, h4, h2, h5⟩ := h.blk
  have k1 := h1.set_ (i * 2) (.int .u64 x.1)
  have k2 := k1.set_ (i * 2 + 1) (.int .u64 x.2)
  have hl := h.len
  refine ⟨by rw [flatH.clen, List.length_set, hl]; rfl, .inr ⟨g, cap, _, rfl, h0, k2, h2, h5, by simpa using h3, ?_⟩⟩
  rw [fcsH_set _ _ _ (by omega), ← h4]
  simp only [Array.toList_setIfInBounds, List.take_set]
theorem RowH.take (h : RowH w base g n cap l) {i : Nat} (hi : i ≤ n) : RowH w base g i cap (l.take i) := by
  obtain ⟨h0, cur, h1, h3, h4, h2, h5⟩ := h.blk
  have hl := h.len
  refine ⟨by rw [flatH.clen, List.length_take, hl, Nat.min_eq_left hi]; rfl, .inr ⟨g, cap, _, rfl, h0, h1, by omega, h5, h3, ?_⟩⟩
  rw [fcsH_take, ← h4, List.take_take, Nat.min_eq_left (by omega)]
theorem RowH.rdr (h : RowH w base g n cap l) {R : Nat → Prop} (hR : R g) : RdR SH w R (some ⟨g, 0, none⟩) l :=
  flatH.mk_ (R := R) (ad := ⟨g, 0, none⟩) hR fun j u hu => by rw [add_mk, Nat.zero_add]; exact h.cell hu
theorem zeros2 (n : Nat) : ∀ v ∈ (Builtin.zeroCells #[Value.int .u64 0, Value.int .u64 0] n).toList, v = .int .u64 0 := by
  intro v hv
  simp only [Builtin.zeroCells, Array.toList_map, List.mem_map] at hv
  obtain ⟨i, _, rfl⟩ := hv
  have : i % #[Value.int .u64 0, Value.int .u64 0].size = 0 ∨ i % #[Value.int .u64 0, Value.int .u64 0].size = 1 := by simp; omega
  rcases this with h | h <;> rw [h] <;> rfl
theorem RowH.clear (h : RowH w base g n cap l) {i : Nat} (hi : i < n) (ty : TypeId) (c : Nat) : ∃ w', (Builtin.clear_ #[23] ty #[.slice (some ⟨g, i * 2, none⟩) (n - i) c]).run Try.prog w = .ok (.tuple #[]) w' ∧ (∀ R : Nat → Prop, R g → RdR SH w' R (some ⟨g, 0, none⟩) (l.take i)) ∧ Below g w w' := by
  have hl := h.len
  obtain ⟨m, hm⟩ : ∃ m, n - i = m + 1 := ⟨n - i - 1, by omega⟩
  have hzl : (Builtin.zeroCells #[Value.int .u64 0, Value.int .u64 0] (n - i)).toList.length = (n - i) * 2 := by simp [Builtin.zeroCells]
  have hv : ∀ W : World, (zeroValue 34).run Try.prog W = .ok (.agg #[.int .u64 0, .int .u64 0]) W := fun W => by kernel_rfl
  have hst := run_storeCells_cells (P := Try.prog) g (i * 2) (Builtin.zeroCells #[Value.int .u64 0, Value.int .u64 0] (n - i)).toList 0 w
    (fun j hj => by
      rw [hzl] at hj
      have : i * 2 + 0 + j < (fcs encH l).length := by rw [flatH.clen, hl]; show _ < n * 2; omega
      rw [h.cell (List.getElem?_eq_getElem this)]; rfl)
    (fun j _ => h.frozen _) (fun v hv => by rw [zeros2 _ v hv]; rfl)
  simp only [Nat.add_zero] at hst
  refine ⟨w.setCells g (i * 2) (Builtin.zeroCells #[Value.int .u64 0, Value.int .u64 0] (n - i)).toList, ?_, fun R hR => ?_, Lib.below_setCells _ (Nat.le_refl _) _ _ (Below.refl _ _)⟩
  · rw [hm] at hst ⊢
    simp [Builtin.clear_, run_underlying Try.underlying23, hv, Value.cells, hst]
  · refine flatH.mk_ (R := R) (ad := ⟨g, 0, none⟩) hR fun j u hu => ?_
    have hj : j < i * 2 := by
      have := (List.getElem?_eq_some_iff.1 hu).1
      rw [flatH.clen, List.length_take] at this
      have : j < min i l.length * 2 := this
      omega
    rw [add_mk, Nat.zero_add, World.cell?_setCells_out g _ _ _ ⟨g, j, none⟩ (fun _ _ => .inl hj)]
    exact (h.take (Nat.le_of_lt hi)).cell hu
end
/-- each one once, of those that are equal and stand beside each other -/
def dd (l : List Hit) : List Hit := l.foldl (fun o x => if o.getLast? = some x then o else o ++ [x]) []
theorem snoc_ind {P : List Hit → Prop} (h0 : P []) (hs : ∀ (l : List Hit) (x : Hit), P l → P (l ++ [x])) (l : List Hit) : P l := by
  have h : ∀ m : List Hit, P m.reverse := fun m => by
    induction m with
    | nil => exact h0
    | cons x m ih => rw [List.reverse_cons]; exact hs _ x ih
  have := h l.reverse
  rwa [List.reverse_reverse] at this
theorem dd_snoc (l : List Hit) (x : Hit) : dd (l ++ [x]) = if (dd l).getLast? = some x then dd l else dd l ++ [x] := by
  unfold dd; rw [List.foldl_append]; rfl
theorem dd_last (l : List Hit) : (dd l).getLast? = l.getLast? := by
  refine snoc_ind (P := fun l => (dd l).getLast? = l.getLast?) ?_ ?_ l
  · rfl
  · intro l x ih
    rw [dd_snoc, List.getLast?_concat]
    split
    · assumption
    · simp
theorem dd_mem (l : List Hit) (y : Hit) : y ∈ dd l ↔ y ∈ l := by
  refine snoc_ind (P := fun l => y ∈ dd l ↔ y ∈ l) ?_ ?_ l
  · simp [dd]
  · intro l x ih
    rw [dd_snoc]
    split
    · rename_i h
      rw [ih, List.mem_append, List.mem_singleton]
      constructor
      · exact .inl
      · rintro (h' | rfl)
        · exact h'
        · rw [← ih]; exact List.mem_of_getLast? h
    · simp [ih]
theorem dd_len (l : List Hit) : (dd l).length ≤ l.length := by
  refine snoc_ind (P := fun l => (dd l).length ≤ l.length) ?_ ?_ l
  · simp [dd]
  · intro l x ih
    rw [dd_snoc]
    split <;> simp <;> omega
theorem take_last {l : List Hit} {k : Nat} {x : Hit} (h : l[k]? = some x) : (l.take (k + 1)).getLast? = some x := by
  rw [take_snoc h]; simp
theorem dd_next {l : List Hit} {k : Nat} {x y : Hit} (hx : l[k]? = some x) (hy : l[k + 1]? = some y) : dd (l.take (k + 2)) = if x = y then dd (l.take (k + 1)) else dd (l.take (k + 1)) ++ [y] := by
  rw [take_snoc hy, dd_snoc, dd_last, take_last hx]
  by_cases e : x = y <;> simp [e]
theorem dd_one (l : List Hit) : dd (l.take 1) = l.take 1 := by
  rcases l with _ | ⟨x, l⟩
  · rfl
  · simp [dd]
/-- what Compact's inner loop keeps: i are written, p are read -/
def CI (t : List Hit) (p i : Nat) (l : List Hit) : Prop := l.length = t.length ∧ i < p ∧ p ≤ t.length ∧ l.take i = dd (t.take p) ∧ ∀ k, p ≤ k + 1 → l[k]? = t[k]?
theorem CI.start {t : List Hit} {k : Nat} {x : Hit} (hx : t[k]? = some x) (hy : t[k + 1]? = some x) (h : dd (t.take (k + 1)) = t.take (k + 1)) : CI t (k + 2) (k + 1) t := by
  have := (List.getElem?_eq_some_iff.1 hy).1
  exact ⟨rfl, by omega, by omega, by rw [dd_next hx hy, if_pos rfl, h], fun _ _ => rfl⟩
theorem CI.skip {t : List Hit} {p i : Nat} {l : List Hit} {x : Hit} (h : CI t (p + 1) i l) (hx : l[p]? = some x) (hy : l[p + 1]? = some x) : CI t (p + 2) i l := by
  obtain ⟨h1, h2, h3, h4, h5⟩ := h
  rw [h5 _ (by omega)] at hx hy
  have := (List.getElem?_eq_some_iff.1 hy).1
  exact ⟨h1, by omega, by omega, by rw [dd_next hx hy, if_pos rfl, h4], fun k hk => h5 k (by omega)⟩
theorem CI.keep {t : List Hit} {p i : Nat} {l : List Hit} {x y : Hit} (h : CI t (p + 1) i l) (hx : l[p]? = some x) (hy : l[p + 1]? = some y) (e : x ≠ y) : CI t (p + 2) (i + 1) (l.set i y) := by
  obtain ⟨h1, h2, h3, h4, h5⟩ := h
  rw [h5 _ (by omega)] at hx hy
  have := (List.getElem?_eq_some_iff.1 hy).1
  refine ⟨by simpa using h1, by omega, by omega, ?_, fun k hk => ?_⟩
  · rw [dd_next hx hy, if_neg e, ← h4, take_snoc (x := y) (by rw [List.getElem?_set, if_pos rfl, if_pos (by omega)])]
    rw [List.take_set, List.set_eq_of_length_le (by rw [List.length_take]; omega)]
  · rw [List.getElem?_set, if_neg (by omega)]; exact h5 k (by omega)
end Go.Proofs.Ytohccblecgmdbaa
