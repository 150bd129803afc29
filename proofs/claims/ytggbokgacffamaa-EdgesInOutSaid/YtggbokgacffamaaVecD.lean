/-
  The document's answer for vec: equal lists, the middle. Conditions: the slices read as lists of int32s, not too many.
-/
import Derived.Test.YtggbokgacffamaaVecC
namespace Go.Proofs.Ytggbokgacffamaa
open Go.RowKit

end Go.Proofs.Ytggbokgacffamaa
