/-
  Whether two lists of numbers are equal: the functions that tell it. Conditions: the slices read as lists.
-/
import Derived.Test.YtphbdffgeeicaabGreatMgA
namespace Go.Proofs.YtphbdffgeeicaabGreat
open Go.RowKit

end Go.Proofs.YtphbdffgeeicaabGreat
