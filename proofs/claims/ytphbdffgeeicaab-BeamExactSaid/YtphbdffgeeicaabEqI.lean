/-
  Whether two lists of numbers are equal: the functions that tell it. Conditions: the slices read as lists.
-/
import Derived.Test.YtphbdffgeeicaabMgA
namespace Go.Proofs.Ytphbdffgeeicaab
open Go.RowKit

end Go.Proofs.Ytphbdffgeeicaab
