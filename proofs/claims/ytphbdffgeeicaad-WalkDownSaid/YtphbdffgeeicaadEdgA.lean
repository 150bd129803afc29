/-
  The package edges: Most, Has, and the reference's. Conditions: the slices read as lists of ints.
-/
import Derived.Test.YtphbdffgeeicaadLib2
import Derived.Test.YtphbdffgeeicaadLib3
import Derived.Test.YtphbdffgeeicaadEqI
namespace Go.Proofs.Ytphbdffgeeicaad
open Go.RowKit

/-- how many neighbours there may be -/
def mostF (links level : Int) : Int := if level = 0 then 2 * min (max links 1) 32 else min (max links 1) 32
theorem mem_take_snoc {l : List Int} {k : Nat} {x y : Int} (h : l[k]? = some x) : y ∈ l.take (k + 1) ↔ y ∈ l.take k ∨ y = x := by
  rw [List.take_add_one, h]; simp
end Go.Proofs.Ytphbdffgeeicaad
