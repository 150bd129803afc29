/-
  The package rank: Least, and the reference's. Conditions: the slice reads as a list of spots; at most a million of them.
-/
import Derived.Test.YtggbokgacffamabRnkE
import Derived.Test.YtggbokgacffamabRnkF
namespace Go.Proofs.Ytggbokgacffamab
open Go.RowKit

/-- how many are the least -/
def lstN (k : Int) (n : Nat) : Nat := min k.toNat n
theorem lstN_le (k : Int) (n : Nat) : lstN k n ≤ n := Nat.min_le_right _ _
end Go.Proofs.Ytggbokgacffamab
