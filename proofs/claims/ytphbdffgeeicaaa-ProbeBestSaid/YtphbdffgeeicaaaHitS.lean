/-
  Whether two lists of hits are equal. Conditions: the slices read as lists of hits.
-/
import Derived.Test.YtphbdffgeeicaaaHit
import Derived.Test.YtphbdffgeeicaaaSmall
namespace Go.Proofs.Ytphbdffgeeicaaa
set_option linter.unusedSimpArgs false
set_option linter.unusedVariables false
open Go.RowKit

end Go.Proofs.Ytphbdffgeeicaaa
