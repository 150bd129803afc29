/-
  slices.Sort at ints, on a row that the call owns. Condition: at most a million of them.
-/
import Derived.Test.YtoadcfjkommlkacLib2
import Derived.Test.YtoadcfjkommlkacSrL
import Derived.Shelf.Sort.Plain
import Derived.Shelf.Slices.In.SortNone
namespace Go.Proofs.Ytoadcfjkommlkac
open Go.RowKit

def srtI (l : List Int) : List Int := l.mergeSort fun x y => decide (x ≤ y)
theorem srtI_perm (l : List Int) : (srtI l).Perm l := List.mergeSort_perm _ _
theorem srtI_len (l : List Int) : (srtI l).length = l.length := by simp [srtI]
theorem srtI_pw (l : List Int) : (srtI l).Pairwise (· ≤ ·) :=
  (List.pairwise_mergeSort (le := fun x y => decide (x ≤ y)) (fun a b c h1 h2 => by simp at *; omega) (fun a b => by simp; omega) l).imp fun h => by simpa using h
theorem srtI_eq {l m : List Int} (hp : m.Perm l) (h : m.Pairwise (· ≤ ·)) : srtI l = m :=
  List.Perm.eq_of_pairwise (le := fun a b => a ≤ b) (fun a b _ _ h1 h2 => Int.le_antisymm h1 h2) (srtI_pw l) h ((srtI_perm l).trans hp.symm)

def sortIW (w : World) (g m : Nat) (l : List Int) (os : Array Obj) : World := Go.Sort.grow (Go.Sort.putRow (Value.int .i64) (Go.Sort.ahead w m) g 0 l.toArray) os
theorem sortIW_block (w : World) (g m : Nat) (l : List Int) (os : Array Obj) {e : TypeId} {cur : Array Value} (hg : w.heap[g]? = some (.cells cur e (0, 0))) :
    (sortIW w g m l os).heap[g]? = some (.cells (Go.Sort.putCells (Value.int .i64) 0 l.toArray cur) e (0, 0)) := by
  have hl : g < w.heap.size := (Array.getElem?_eq_some_iff.1 hg).1
  unfold sortIW Go.Sort.putRow Go.Sort.mapBlock Go.Sort.ahead Go.Sort.grow
  simp only
  rw [Array.getElem?_append_left (by simpa using hl), Array.getElem?_modify]
  simp [hg, Go.Sort.onCells]
theorem sortIW_grown (w : World) (g m : Nat) (l : List Int) (os : Array Obj) : w.grownBy (sortIW w g m l os) (some g) := by
  unfold sortIW Go.Sort.putRow Go.Sort.mapBlock Go.Sort.ahead Go.Sort.grow
  refine ⟨rfl, rfl, rfl, by simp, fun i hi hne => ?_⟩
  simp only
  rw [Array.getElem?_append_left (by simpa using hi), Array.getElem?_modify]
  simp only [ne_eq, Option.some.injEq] at hne
  rw [if_neg (fun h => hne h.symm)]
theorem putCellsI_take (l : List Int) (cur : Array Value) (h : l.length ≤ cur.size) : (Go.Sort.putCells (Value.int .i64) 0 l.toArray cur).size = cur.size ∧ (Go.Sort.putCells (Value.int .i64) 0 l.toArray cur).toList.take l.length = l.map (Value.int .i64) := by
  refine ⟨by simp [Go.Sort.putCells], ?_⟩
  apply List.ext_getElem?
  intro t
  rw [List.getElem?_take, List.getElem?_map]
  by_cases ht : t < l.length
  · rw [if_pos ht, Array.getElem?_toList]
    have : t < cur.size := by omega
    simp [Go.Sort.putCells, Array.getElem?_mapIdx, ht, this, getElem!_pos]
  · rw [if_neg ht, List.getElem?_eq_none (by omega)]; rfl
theorem sortI_any (base : Nat) (v : Value) (n : Nat) (l : List Int) (w : World) (ho : w.ownsRow base 3 1 v n (l.map (Value.int .i64))) (h6 : n ≤ 1000000) :
    Calls Try.prog 38 #[v] w fun e w' => e = .returned (.tuple #[]) ∧ w'.ownsRow base 3 1 v n ((srtI l).map (Value.int .i64)) ∧ w.grownBy w' v.ownBlock := by
  have hl : l.length = n := by simpa using ho.1
  rcases ho.2 with ⟨rfl, h0⟩ | ⟨g, cap, cur, rfl, hb, hg, h1, h2, h3, h4⟩
  · have hl0 : l = [] := by
      have : n = 0 := by simpa using h0
      exact List.eq_nil_of_length_eq_zero (by omega)
    subst hl0
    simp only [List.length_nil] at hl
    subst hl
    exact (Any.slices_Sort_int_none sortInt none 0 w).mono fun _ _ ⟨he, hw⟩ => by subst hw; exact ⟨he, by simpa [srtI] using ho, World.grownBy.refl _ _⟩
  · have hlt : g < w.heap.size := (Array.getElem?_eq_some_iff.1 hg).1
    have hh : Go.Sort.Holds (Value.int .i64) w g 0 l.toArray := fun j hj => by
      have hj' : j < l.length := by simpa using hj
      rw [Nat.zero_add]
      refine ⟨?_, Blk.frozen (t := 3) (cs := cur) hg j⟩
      rw [Blk.cell (t := 3) (cs := cur) hg j, ← Array.getElem?_toList]
      have e1 : (l.map (Value.int .i64))[j]? = some (Value.int .i64 l[j]) := by simp [hj']
      rw [← h4, List.getElem?_take, if_pos (by omega)] at e1
      rw [e1, getElem!_pos l.toArray j hj]; simp
    have hc := Any.slices_Sort_int sortInt g 0 cap l w hh hlt (by omega)
    rw [hl] at hc
    refine Calls.mono hc ?_
    rintro e w' ⟨he, m, os, rfl⟩
    obtain ⟨p1, p2⟩ := putCellsI_take (srtI l) cur (by rw [srtI_len]; omega)
    rw [srtI_len, hl] at p2
    refine ⟨he, ⟨by simp [srtI_len, hl], .inr ⟨g, cap, _, rfl, hb, sortIW_block w g m (srtI l) os hg, h1, h2, by rw [p1, h3], by rw [Nat.mul_one]; exact p2⟩⟩, ?_⟩
    exact sortIW_grown w g m (srtI l) os
end Go.Proofs.Ytoadcfjkommlkac
