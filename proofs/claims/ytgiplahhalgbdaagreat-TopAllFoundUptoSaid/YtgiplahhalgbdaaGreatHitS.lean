/-
  Whether two lists of hits are equal. Conditions: the slices read as lists of hits.
-/
import Derived.Test.YtgiplahhalgbdaaGreatHit
import Derived.Test.YtgiplahhalgbdaaGreatSmall
namespace Go.Proofs.YtgiplahhalgbdaaGreat
set_option linter.unusedSimpArgs false
set_option linter.unusedVariables false
open Go.RowKit

end Go.Proofs.YtgiplahhalgbdaaGreat
