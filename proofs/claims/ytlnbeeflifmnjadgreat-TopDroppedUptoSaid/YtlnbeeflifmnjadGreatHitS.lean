/-
  Whether two lists of hits are equal. Conditions: the slices read as lists of hits.
-/
import Derived.Test.YtlnbeeflifmnjadGreatHit
import Derived.Test.YtlnbeeflifmnjadGreatSmall
namespace Go.Proofs.YtlnbeeflifmnjadGreat
set_option linter.unusedSimpArgs false
set_option linter.unusedVariables false
open Go.RowKit

end Go.Proofs.YtlnbeeflifmnjadGreat
