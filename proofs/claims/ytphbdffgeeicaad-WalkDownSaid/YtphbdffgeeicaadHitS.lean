/-
  Whether two lists of hits are equal. Conditions: the slices read as lists of hits.
-/
import Derived.Test.YtphbdffgeeicaadHit
import Derived.Test.YtphbdffgeeicaadSmall
namespace Go.Proofs.Ytphbdffgeeicaad
set_option linter.unusedSimpArgs false
set_option linter.unusedVariables false
open Go.RowKit

end Go.Proofs.Ytphbdffgeeicaad
