/-
  Rows that a call owns, behind the library's sort: they are owned still, and nothing else has changed. No condition.
-/
import Derived.Test.YtlnbeeflifmnjacFlat
namespace Go.Proofs.Ytlnbeeflifmnjac
set_option linter.unusedSimpArgs false
set_option linter.unusedVariables false
open Go.RowKit

section
variable {α : Type} [Inhabited α] {S : Sh α} {enc : α → List Value} {l l' : List α} {w w' : World}
theorem sortW_block (enc : α → List Value) (k : Nat) (w : World) (g m : Nat) (d : Array α) (os : Array Obj) {e : TypeId} {cur : Array Value} (hg : w.heap[g]? = some (.cells cur e (0, 0))) :
    (sortWorldK enc k w g 0 m d os).heap[g]? = some (.cells (Go.Sort.putCells id 0 (Go.Sort.flatK enc k d) cur) e (0, 0)) := by
  have hl : g < w.heap.size := (Array.getElem?_eq_some_iff.1 hg).1
  unfold sortWorldK Go.Sort.putRowK Go.Sort.putRow Go.Sort.mapBlock Go.Sort.ahead Go.Sort.grow
  simp only
  rw [Array.getElem?_append_left (by simpa using hl), Array.getElem?_modify]
  simp [hg, Go.Sort.onCells]
theorem sortW_grown (enc : α → List Value) (k : Nat) (w : World) (g m : Nat) (d : Array α) (os : Array Obj) : w.grownBy (sortWorldK enc k w g 0 m d os) (some g) := by
  unfold sortWorldK Go.Sort.putRowK Go.Sort.putRow Go.Sort.mapBlock Go.Sort.ahead Go.Sort.grow
  refine ⟨rfl, rfl, rfl, by simp, fun i hi hne => ?_⟩
  simp only
  rw [Array.getElem?_append_left (by simpa using hi), Array.getElem?_modify]
  simp only [ne_eq, Option.some.injEq] at hne
  rw [if_neg (fun h => hne h.symm)]
theorem putCells_take (F cur : Array Value) (h : F.size ≤ cur.size) : (Go.Sort.putCells id 0 F cur).size = cur.size ∧ (Go.Sort.putCells id 0 F cur).toList.take F.size = F.toList := by
  refine ⟨by simp [Go.Sort.putCells], ?_⟩
  apply List.ext_getElem?
  intro t
  rw [List.getElem?_take]
  by_cases ht : t < F.size
  · rw [if_pos ht, Array.getElem?_toList, Array.getElem?_toList]
    have : t < cur.size := by omega
    simp [Go.Sort.putCells, Array.getElem?_mapIdx, ht, this]
  · rw [if_neg ht, Array.getElem?_toList, Array.getElem?_eq_none (by omega)]
theorem Flat.sorted (h : Flat S enc) {base g n cap : Nat} {e : TypeId} (ho : w.ownsRow base e S.size (.slice (some ⟨g, 0, none⟩) n cap) n (fcs enc l)) (hl : l'.length = l.length) (m : Nat) (os : Array Obj) :
    (sortWorldK enc S.size w g 0 m l'.toArray os).ownsRow base e S.size (.slice (some ⟨g, 0, none⟩) n cap) n (fcs enc l') := by
  have hn : l.length = n := by have := ho.1; rw [h.clen] at this; exact Nat.eq_of_mul_eq_mul_right h.pos this
  refine ⟨by rw [h.clen, hl, hn], ?_⟩
  rcases ho.2 with ⟨hv, _⟩ | ⟨g', cap', cur, hv, hb, hg, h1, h2, h3, h4⟩
  · cases hv
  · injection hv with hv _ e3
    injection hv with hv
    injection hv with hv
    subst hv e3
    have hF : (Go.Sort.flatK enc S.size l'.toArray).size = n * S.size := by simp [hl, hn]
    obtain ⟨p1, p2⟩ := putCells_take (Go.Sort.flatK enc S.size l'.toArray) cur (by rw [hF, h3]; exact Nat.mul_le_mul_right _ h1)
    refine .inr ⟨g, cap, _, rfl, hb, sortW_block enc S.size w g m l'.toArray os hg, h1, h2, by rw [p1, h3], ?_⟩
    rw [← hF, p2, h.flatK]
end
end Go.Proofs.Ytlnbeeflifmnjac
