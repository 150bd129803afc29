/-
  The package recall: whether a hit is among hits; whether two lists of hits are equal. Conditions: the slices read as lists of hits.
-/
import Derived.Test.YtggbokgacffamabRecB
import Derived.Test.YtggbokgacffamabHitS
namespace Go.Proofs.Ytggbokgacffamab
open Go.RowKit

end Go.Proofs.Ytggbokgacffamab
