/-
  The package rank: Least, and the reference's. Conditions: the slice reads as a list of spots; at most a million of them.
-/
import Derived.Test.YtclpmpikeadnpaaRnkE
import Derived.Test.YtclpmpikeadnpaaRnkF
namespace Go.Proofs.Ytclpmpikeadnpaa
open Go.RowKit

/-- how many are the least -/
def lstN (k : Int) (n : Nat) : Nat := min k.toNat n
theorem lstN_le (k : Int) (n : Nat) : lstN k n ≤ n := Nat.min_le_right _ _
end Go.Proofs.Ytclpmpikeadnpaa
