/-
  Whether two lists of numbers are equal: the functions that tell it. Conditions: the slices read as lists.
-/
import Derived.Test.YtgiplahhalgbdaaGreatMgA
namespace Go.Proofs.YtgiplahhalgbdaaGreat
open Go.RowKit

end Go.Proofs.YtgiplahhalgbdaaGreat
