/-
  The document's distance. Conditions: the slices read as lists of int32s.
-/
import Derived.Test.YtggbokgacffamabVecD
namespace Go.Proofs.Ytggbokgacffamab
open Go.RowKit

end Go.Proofs.Ytggbokgacffamab
