/-
  Slices of structs of integers that come in, opened to their cells.
-/
import Derived.Deep.Slices
import Derived.Deep.Fields
import Derived.ChangeSame
import Derived.Deep.Draws
namespace Go.Proofs.Ytoodcfldnojkjab
open Go.ChangeShapes Go.WideShapes Go.Deep
section
variable {H : Type} {enc : TypeId × Value → H} {P : Program} {w : World} {base : Nat} {spare : Nat → Bool} {held : Bool}
theorem open_slice_fields {t e : TypeId} {fs : Array Field} {fuel : Nat} {cs : List Value} {x : DataW H × List MemPlace} (ht : P.underlying t = some (.slice e)) (he : P.underlying e = some (.struct fs))
    (hone : oneCellFields P fs = true) (hC : P.cellsOf e = fs.size) (h : DataW.trod enc P w base spare held fuel t cs = some x) :
    (cs = [.slice none 0 0] ∧ x = (.nil, [])) ∨
    ∃ (a : Addr) (len cap m : Nat) (D : Nat → DataW H) (Pl : Nat → List MemPlace), cs = [.slice (some a) len cap] ∧ base ≤ a.block ∧ len ≤ cap ∧ cap ≤ maxLen ∧ m = (if spare a.block then cap else len) ∧
      x = (.slice ((List.range len).map D) ((List.range (m - len)).map fun j => D (len + j)), MemPlace.row a (m * fs.size) ++ (List.range m).flatMap Pl) ∧
      ∀ i, i < m → ∃ (ys : List (DataW H × List MemPlace)) (n : Nat), D i = .agg (ys.map (·.1)) ∧ Pl i = ys.flatMap (·.2) ∧ ys.length = fs.size ∧
        ∀ (j : Nat) (f : Field), fs[j]? = some f → ∃ (v : Value) (y : DataW H × List MemPlace), w.cell? (a.add (i * fs.size + j)) = some v ∧ ys[j]? = some y ∧ DataW.trod enc P w base spare held n f.type [v] = some y := by
  rcases open_slice ht h with h0 | ⟨a, len, cap, m, n, D, Pl, hcs, hb, hl, hm, hmm, hx, hi⟩
  · exact .inl h0
  · refine .inr ⟨a, len, cap, m, D, Pl, hcs, hb, hl, hm, hmm, by rw [hC] at hx; exact hx, fun i him => ?_⟩
    obtain ⟨cs', hc, ht'⟩ := hi i him
    rw [hC] at hc
    obtain ⟨ys, n', hn', hy, hlen, hyl, hf⟩ := DataW.trod_struct he ht'
    obtain ⟨_, hcl, hat⟩ := World.cells?_some hc
    simp only [Prod.mk.injEq] at hy
    refine ⟨ys, n', hy.1, hy.2, hyl, fun j f hj => ?_⟩
    obtain ⟨ho, hk⟩ := hone_of hone j f hj
    have hjl : j < fs.size := (Array.getElem?_eq_some_iff.1 hj).1
    have hcell := hat j hjl
    have hv : cs'[j]? = some (cs'[j]'(by omega)) := List.getElem?_eq_getElem (by omega)
    have h1 := hf j f hj
    rw [ho, hk] at h1
    have hone' : (cs'.drop j).take 1 = [cs'[j]'(by omega)] := by
      rw [List.drop_eq_getElem_cons (by omega)]
      rfl
    rw [hone'] at h1
    have hys : ys[j]? = some (ys[j]'(by omega)) := List.getElem?_eq_getElem (by omega)
    refine ⟨_, _, ?_, hys, h1.trans hys⟩
    rw [← Go.Deep.add_add, hcell, hv]
end

/-- a slice of structs of nf integers -/
def IsCells (w : World) (a : Option Addr) (len cap nf : Nat) : Prop :=
  (a = none ∧ len = 0 ∧ cap = 0) ∨
  ∃ x, a = some x ∧ len ≤ cap ∧ cap ≤ 9223372036854775807 ∧ ∀ i, i < len → ∀ j, j < nf → ∃ n, w.cell? (x.add (i * nf + j)) = some (.int .i64 n) ∧ (Lit.int .i64 n).wf = true
section
variable {H : Type} {enc : TypeId × Value → H} {P : Program} {w : World} {base : Nat} {spare : Nat → Bool} {held : Bool}
theorem isCells_of {t e ti : TypeId} {fs : Array Field} {fuel nf : Nat} {a : Option Addr} {len cap : Nat} {x : DataW H × List MemPlace} (ht : P.underlying t = some (.slice e)) (he : P.underlying e = some (.struct fs))
    (hone : oneCellFields P fs = true) (hC : P.cellsOf e = fs.size) (hn : fs.size = nf) (hti : P.underlying ti = some (.int .i64)) (hk : ∀ (j : Nat) (f : Field), fs[j]? = some f → f.type = ti)
    (h : DataW.trod enc P w base spare held fuel t (Value.slice a len cap).cells.toList = some x) : IsCells w a len cap nf := by
  subst hn
  rcases open_slice_fields ht he hone hC h with ⟨hcs, _⟩ | ⟨x, l, c, m, D, Pl, hcs, _, hl, hm, hmm, _, hf⟩
  · simp [Value.cells] at hcs
    exact .inl hcs
  · simp [Value.cells] at hcs
    obtain ⟨rfl, rfl, rfl⟩ := hcs
    refine .inr ⟨x, rfl, hl, by simpa [maxLen] using hm, fun i hi j hj => ?_⟩
    have him : i < m := by rw [hmm]; split <;> omega
    obtain ⟨ys, n, _, _, _, hg⟩ := hf i him
    obtain ⟨v, y, hc, _, ht'⟩ := hg j _ (Array.getElem?_eq_getElem hj)
    rw [hk j _ (Array.getElem?_eq_getElem hj)] at ht'
    obtain ⟨z, hz, _, hw⟩ := DataW.trod_int hti ht'
    simp at hz
    subst hz
    exact ⟨z, hc, hw⟩
end
theorem IsCells.le {w : World} {a : Option Addr} {len cap nf : Nat} (h : IsCells w a len cap nf) : len ≤ cap ∧ cap ≤ 9223372036854775807 := by
  rcases h with ⟨_, rfl, rfl⟩ | ⟨x, _, h1, h2, _⟩
  · exact ⟨Nat.le_refl _, by decide⟩
  · exact ⟨h1, h2⟩
theorem block_lt_cell {w : World} {p : Addr} {v : Value} (h : w.cell? p = some v) : p.block < w.heap.size := by
  rcases Nat.lt_or_ge p.block w.heap.size with h' | h'
  · exact h'
  · simp [World.cell?, Array.getElem?_eq_none h'] at h
/-- the integer at a cell -/
noncomputable def intAt (w : World) (p : Addr) : Int := match w.cell? p with
  | some (.int _ n) => n
  | _ => 0
theorem intAt_of {w : World} {p : Addr} {n : Int} (h : w.cell? p = some (.int .i64 n)) : intAt w p = n := by simp [intAt, h]
theorem block_add (x : Addr) (i : Nat) : (x.add i).block = x.block := by unfold Addr.add; split <;> rfl
theorem rows3_of {w : World} {a : Option Addr} {len cap : Nat} (h : IsCells w a len cap 3) : ∃ ds : List (Int × Int × Int), ds.length = len ∧
    ∀ k, k < ds.length → ∃ ad a' b c, a = some ad ∧ ad.block < w.heap.size ∧ ds[k]? = some (a', b, c) ∧ w.cell? (ad.add (k * 3)) = some (.int .i64 a') ∧ w.cell? (ad.add (k * 3 + 1)) = some (.int .i64 b) ∧ w.cell? (ad.add (k * 3 + 2)) = some (.int .i64 c) ∧
      (Lit.int .i64 a').wf = true ∧ (Lit.int .i64 b).wf = true ∧ (Lit.int .i64 c).wf = true := by
  rcases h with ⟨_, rfl, rfl⟩ | ⟨x, rfl, h1, h2, hc⟩
  · exact ⟨[], rfl, fun k hk => by simp at hk⟩
  · refine ⟨(List.range len).map fun i => (intAt w (x.add (i * 3)), intAt w (x.add (i * 3 + 1)), intAt w (x.add (i * 3 + 2))), by simp, fun k hk => ?_⟩
    have hk' : k < len := by simpa using hk
    obtain ⟨n0, e0, w0⟩ := hc k hk' 0 (by decide)
    obtain ⟨n1, e1, w1⟩ := hc k hk' 1 (by decide)
    obtain ⟨n2, e2, w2⟩ := hc k hk' 2 (by decide)
    rw [Nat.add_zero] at e0
    refine ⟨x, n0, n1, n2, rfl, ?_, ?_, e0, e1, e2, w0, w1, w2⟩
    · have := block_lt_cell e0
      rwa [block_add] at this
    · simp [List.getElem?_map, List.getElem?_range hk', intAt_of e0, intAt_of e1, intAt_of e2]
end Go.Proofs.Ytoodcfldnojkjab
