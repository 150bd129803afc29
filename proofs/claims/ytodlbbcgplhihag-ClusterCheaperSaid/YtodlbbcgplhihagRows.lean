/-
  No cell of these rows narrows 'for every input' (looked for: loops, veiled, ifaces, maps, wideKeys, modest, calm, conditions, laid).
  DERIVED. THE GIVEN ROWS OF THIS SEAT. 2 by the template 'for every input the law returns true; each argument reads behind the call as it read before'; 0 by the template 'total and deterministic' (their statements: YtodlbbcgplhihagTotals.lean).
  GIVEN WITH THE SEED: the statements are not yours to turn. If you find one false, say at which input.
  Laid BY PROGRAM, IN A SANDBOX (cutbox-rows.mjs): the forced cells as the released guide's own fill.sh prints them over the translation 9f784fa0ad7b6374… (all of the seat's roots in one cut). By AI agents, Wed Nov 11 2026. No macro, syntax, notation, axiom, sorry.
-/
import Derived.Test.YtodlbbcgplhihagChecked
import GoSem.Claim
import GoSem.ClaimJoined
import GoSem.ClaimMapViews
import Derived.JoinedTies
import Derived.KernelRfl
namespace Go.Proofs.Ytodlbbcgplhihag
/- THE CELL 'sum', in the pinned program and in every row, IS THE sha256 OF THE DUMP (.gsa) THAT YtodlbbcgplhihagProg.lean LOADS. Nothing in Lean hashes anything: it is a label: what it is worth is what the hold of that sum in a sandbox is worth. -/
noncomputable def Try.pinned : Pinned := { name := "ytodlbbcgplhihag", sum := "9f784fa0ad7b6374648393f6b806e54c2b895c330f25d435a046ce3aa4950f70", checked := Try.checked }
namespace Rows
def none {H : Type} : Left H := { results := [], args := [] }

/-- 'ganglionlaw46.ClusterCheaper': WHATEVER THE INPUT: true; the input reads as it did. -/
def clusterCheaperSpec : ChangeSpec := { name := "clusterCheaper", fn := fun _ => fun
  | [d1, d2, d3] => { results := [.lit (.bool true)], args := [d1, d2, d3] }
  | _ => none }
def clusterCheaperRow : OpenClaim := { program := "ytodlbbcgplhihag", sum := "9f784fa0ad7b6374648393f6b806e54c2b895c330f25d435a046ce3aa4950f70", func := "ganglion/ganglionlaw46.ClusterCheaper", spec := "clusterCheaper", inPlace := ["math/bits.Add64"], unfollowed := true, recurses := true, apart := false }
def ClusterCheaperSaid : Prop := clusterCheaperRow.holds Try.pinned (OpenSpec.ofChange clusterCheaperSpec)

/-- ITS FALSE NEIGHBOUR: 'it returns false'. Refute it at one input. -/
def clusterCheaperWrong : ChangeSpec := { name := "clusterCheaper", fn := fun _ => fun
  | [d1, d2, d3] => { results := [.lit (.bool false)], args := [d1, d2, d3] }
  | _ => none }
def ClusterCheaperWrongFalsely : Prop := clusterCheaperRow.holds Try.pinned (OpenSpec.ofChange clusterCheaperWrong)

/-- 'ganglionlaw46.ClusterTells': WHATEVER THE INPUT: true; the input reads as it did. -/
def clusterTellsSpec : ChangeSpec := { name := "clusterTells", fn := fun _ => fun
  | [d1, d2, d3] => { results := [.lit (.bool true)], args := [d1, d2, d3] }
  | _ => none }
def clusterTellsRow : OpenClaim := { program := "ytodlbbcgplhihag", sum := "9f784fa0ad7b6374648393f6b806e54c2b895c330f25d435a046ce3aa4950f70", func := "ganglion/ganglionlaw46.ClusterTells", spec := "clusterTells", inPlace := ["math/bits.Add64"], unfollowed := true, recurses := true, apart := false }
def ClusterTellsSaid : Prop := clusterTellsRow.holds Try.pinned (OpenSpec.ofChange clusterTellsSpec)

/-- ITS FALSE NEIGHBOUR: 'it returns false'. Refute it at one input. -/
def clusterTellsWrong : ChangeSpec := { name := "clusterTells", fn := fun _ => fun
  | [d1, d2, d3] => { results := [.lit (.bool false)], args := [d1, d2, d3] }
  | _ => none }
def ClusterTellsWrongFalsely : Prop := clusterTellsRow.holds Try.pinned (OpenSpec.ofChange clusterTellsWrong)

/- THE SECOND FORM. 'bulk': how many values and letters a reading holds, each counted each time it is reached (what is shared counts as often as it is met; a slice's spare places count too). A statement '..UptoSaid' is the law's where the arguments, and the package variables that the reading takes, are together of bulk at most 1048576: NARROWER than '..Said'. Prove '..Said' where nothing that the law and all that it calls make is longer than what came in: it says more and counts as full. Else prove '..UptoSaid'. A law counts once. -/
mutual
def uptoBulk {H : Type} : DataW H → Nat
  | .lit (.string bytes) => bytes.length + 1
  | .lit _ => 1
  | .nil => 1
  | .ptr d => uptoBulk d + 1
  | .slice elems spare => uptoBulkAll elems + uptoBulkAll spare + 1
  | .agg parts => uptoBulkAll parts + 1
  | .iface _ d => uptoBulk d + 1
  | .map entries => uptoBulkEntries entries + 1
  | .held _ => 1
def uptoBulkAll {H : Type} : List (DataW H) → Nat
  | [] => 0
  | d :: r => uptoBulk d + uptoBulkAll r
def uptoBulkEntries {H : Type} : List (Lit × DataW H) → Nat
  | [] => 0
  | x :: r => uptoBulkEntry x + uptoBulkEntries r
def uptoBulkEntry {H : Type} : Lit × DataW H → Nat
  | (.string bytes, d) => bytes.length + uptoBulk d + 1
  | (_, d) => uptoBulk d + 1
 end
def uptoSmall : (H : Type) → List (DataW H) → Bool := fun _ ds => decide (uptoBulkAll ds ≤ 1048576)
def OpenSpec.upto (s : _root_.Go.ChangeSpec) : _root_.Go.OpenSpec := { _root_.Go.OpenSpec.ofChange s with cond := some uptoSmall }

/-- 'ganglionlaw46.ClusterCheaper', WHERE WHAT IT READS IS OF BULK AT MOST 1048576: true; the input reads as it did. -/
def clusterCheaperUptoRow : OpenClaim := { program := "ytodlbbcgplhihag", sum := "9f784fa0ad7b6374648393f6b806e54c2b895c330f25d435a046ce3aa4950f70", func := "ganglion/ganglionlaw46.ClusterCheaper", spec := "clusterCheaper", inPlace := ["math/bits.Add64"], unfollowed := true, recurses := true, apart := false, narrowed := true }
def ClusterCheaperUptoSaid : Prop := clusterCheaperUptoRow.holds Try.pinned (OpenSpec.upto clusterCheaperSpec)

/-- 'ganglionlaw46.ClusterTells', WHERE WHAT IT READS IS OF BULK AT MOST 1048576: true; the input reads as it did. -/
def clusterTellsUptoRow : OpenClaim := { program := "ytodlbbcgplhihag", sum := "9f784fa0ad7b6374648393f6b806e54c2b895c330f25d435a046ce3aa4950f70", func := "ganglion/ganglionlaw46.ClusterTells", spec := "clusterTells", inPlace := ["math/bits.Add64"], unfollowed := true, recurses := true, apart := false, narrowed := true }
def ClusterTellsUptoSaid : Prop := clusterTellsUptoRow.holds Try.pinned (OpenSpec.upto clusterTellsSpec)

end Rows
end Go.Proofs.Ytodlbbcgplhihag
