/-
  The package recall: how many were found: the document's; by how much what was found is farther: both. Conditions: the slices read as lists of hits.
-/
import Derived.Test.YtggbokgacffamabRecC
import Derived.Laws.Externs
import Derived.Deep.RegionLaw
namespace Go.Proofs.Ytggbokgacffamab
open Go.RowKit

/-- how many of the truth were found -/
def cntR (f t : List Hit) : Nat := (t.filter fun h => decide (h ∈ f)).length
theorem cntR_snoc {f t : List Hit} {k : Nat} {x : Hit} (h : t[k]? = some x) : cntR f (t.take (k + 1)) = cntR f (t.take k) + if x ∈ f then 1 else 0 := by
  unfold cntR
  rw [take_snoc h, List.filter_append, List.length_append]
  by_cases e : x ∈ f
  · rw [if_pos e, List.filter_cons_of_pos (by simpa using e)]; simp
  · rw [if_neg e, List.filter_cons_of_neg (by simpa using e)]; simp
theorem cntR_le (f t : List Hit) : cntR f t ≤ t.length := List.length_filter_le _ _
end Go.Proofs.Ytggbokgacffamab
