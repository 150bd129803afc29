/-
  No cell of these rows narrows 'for every input' (looked for: loops, veiled, ifaces, maps, wideKeys, modest, calm, conditions, laid).
  DERIVED. THE GIVEN ROWS OF THIS SEAT. 2 by the template 'for every input the law returns true; each argument reads behind the call as it read before'; 0 by the template 'total and deterministic' (their statements: YtodlbbcgplhihaaTotals.lean).
  GIVEN WITH THE SEED: the statements are not yours to turn. If you find one false, say at which input.
  Laid BY PROGRAM, IN A SANDBOX (cutbox-rows.mjs): the forced cells as the released guide's own fill.sh prints them over the translation 4104e77574261926… (all of the seat's roots in one cut). By AI agents, Wed Nov 11 2026. No macro, syntax, notation, axiom, sorry.
-/
import Derived.Test.YtodlbbcgplhihaaChecked
import GoSem.Claim
import GoSem.ClaimJoined
import GoSem.ClaimMapViews
import Derived.JoinedTies
import Derived.KernelRfl
namespace Go.Proofs.Ytodlbbcgplhihaa
/- THE CELL 'sum', in the pinned program and in every row, IS THE sha256 OF THE DUMP (.gsa) THAT YtodlbbcgplhihaaProg.lean LOADS. Nothing in Lean hashes anything: it is a label: what it is worth is what the hold of that sum in a sandbox is worth. -/
noncomputable def Try.pinned : Pinned := { name := "ytodlbbcgplhihaa", sum := "4104e775742619267defd5cf6bf1f95b3fded576cf4bc5d4462672c8446e79aa", checked := Try.checked }
namespace Rows
def none {H : Type} : Left H := { results := [], args := [] }

/-- 'ganglionlaw05.VecExact': WHATEVER THE INPUT: true; the input reads as it did. -/
def vecExactSpec : ChangeSpec := { name := "vecExact", fn := fun _ => fun
  | [d1, d2, d3] => { results := [.lit (.bool true)], args := [d1, d2, d3] }
  | _ => none }
def vecExactRow : OpenClaim := { program := "ytodlbbcgplhihaa", sum := "4104e775742619267defd5cf6bf1f95b3fded576cf4bc5d4462672c8446e79aa", func := "ganglion/ganglionlaw05.VecExact", spec := "vecExact", inPlace := ["math/bits.Add64"], unfollowed := true, recurses := true, apart := false }
def VecExactSaid : Prop := vecExactRow.holds Try.pinned (OpenSpec.ofChange vecExactSpec)

/-- ITS FALSE NEIGHBOUR: 'it returns false'. Refute it at one input. -/
def vecExactWrong : ChangeSpec := { name := "vecExact", fn := fun _ => fun
  | [d1, d2, d3] => { results := [.lit (.bool false)], args := [d1, d2, d3] }
  | _ => none }
def VecExactWrongFalsely : Prop := vecExactRow.holds Try.pinned (OpenSpec.ofChange vecExactWrong)

/-- 'ganglionlaw05.VecMeans': WHATEVER THE INPUT: true; the input reads as it did. -/
def vecMeansSpec : ChangeSpec := { name := "vecMeans", fn := fun _ => fun
  | [d] => { results := [.lit (.bool true)], args := [d] }
  | _ => none }
def vecMeansRow : OpenClaim := { program := "ytodlbbcgplhihaa", sum := "4104e775742619267defd5cf6bf1f95b3fded576cf4bc5d4462672c8446e79aa", func := "ganglion/ganglionlaw05.VecMeans", spec := "vecMeans", inPlace := ["math/bits.Add64"], unfollowed := true, recurses := true, apart := false }
def VecMeansSaid : Prop := vecMeansRow.holds Try.pinned (OpenSpec.ofChange vecMeansSpec)

/-- ITS FALSE NEIGHBOUR: 'it returns false'. Refute it at one input. -/
def vecMeansWrong : ChangeSpec := { name := "vecMeans", fn := fun _ => fun
  | [d] => { results := [.lit (.bool false)], args := [d] }
  | _ => none }
def VecMeansWrongFalsely : Prop := vecMeansRow.holds Try.pinned (OpenSpec.ofChange vecMeansWrong)

/- THE SECOND FORM. 'bulk': how many values and letters a reading holds, each counted each time it is reached (what is shared counts as often as it is met; a slice's spare places count too). A statement '..UptoSaid' is the law's where the arguments, and the package variables that the reading takes, are together of bulk at most 1048576: NARROWER than '..Said'. Prove '..Said' where nothing that the law and all that it calls make is longer than what came in: it says more and counts as full. Else prove '..UptoSaid'. A law counts once. -/
mutual
def uptoBulk {H : Type} : DataW H → Nat
  | .lit (.string bytes) => bytes.length + 1
  | .lit _ => 1
  | .nil => 1
  | .ptr d => uptoBulk d + 1
  | .slice elems spare => uptoBulkAll elems + uptoBulkAll spare + 1
  | .agg parts => uptoBulkAll parts + 1
  | .iface _ d => uptoBulk d + 1
  | .map entries => uptoBulkEntries entries + 1
  | .held _ => 1
def uptoBulkAll {H : Type} : List (DataW H) → Nat
  | [] => 0
  | d :: r => uptoBulk d + uptoBulkAll r
def uptoBulkEntries {H : Type} : List (Lit × DataW H) → Nat
  | [] => 0
  | x :: r => uptoBulkEntry x + uptoBulkEntries r
def uptoBulkEntry {H : Type} : Lit × DataW H → Nat
  | (.string bytes, d) => bytes.length + uptoBulk d + 1
  | (_, d) => uptoBulk d + 1
 end
def uptoSmall : (H : Type) → List (DataW H) → Bool := fun _ ds => decide (uptoBulkAll ds ≤ 1048576)
def OpenSpec.upto (s : _root_.Go.ChangeSpec) : _root_.Go.OpenSpec := { _root_.Go.OpenSpec.ofChange s with cond := some uptoSmall }

/-- 'ganglionlaw05.VecExact', WHERE WHAT IT READS IS OF BULK AT MOST 1048576: true; the input reads as it did. -/
def vecExactUptoRow : OpenClaim := { program := "ytodlbbcgplhihaa", sum := "4104e775742619267defd5cf6bf1f95b3fded576cf4bc5d4462672c8446e79aa", func := "ganglion/ganglionlaw05.VecExact", spec := "vecExact", inPlace := ["math/bits.Add64"], unfollowed := true, recurses := true, apart := false, narrowed := true }
def VecExactUptoSaid : Prop := vecExactUptoRow.holds Try.pinned (OpenSpec.upto vecExactSpec)

/-- 'ganglionlaw05.VecMeans', WHERE WHAT IT READS IS OF BULK AT MOST 1048576: true; the input reads as it did. -/
def vecMeansUptoRow : OpenClaim := { program := "ytodlbbcgplhihaa", sum := "4104e775742619267defd5cf6bf1f95b3fded576cf4bc5d4462672c8446e79aa", func := "ganglion/ganglionlaw05.VecMeans", spec := "vecMeans", inPlace := ["math/bits.Add64"], unfollowed := true, recurses := true, apart := false, narrowed := true }
def VecMeansUptoSaid : Prop := vecMeansUptoRow.holds Try.pinned (OpenSpec.upto vecMeansSpec)

end Rows
end Go.Proofs.Ytodlbbcgplhihaa
