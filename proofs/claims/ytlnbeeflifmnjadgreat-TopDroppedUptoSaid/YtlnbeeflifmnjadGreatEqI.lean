/-
  Whether two lists of numbers are equal: the functions that tell it. Conditions: the slices read as lists.
-/
import Derived.Test.YtlnbeeflifmnjadGreatMgA
namespace Go.Proofs.YtlnbeeflifmnjadGreat
open Go.RowKit

end Go.Proofs.YtlnbeeflifmnjadGreat
