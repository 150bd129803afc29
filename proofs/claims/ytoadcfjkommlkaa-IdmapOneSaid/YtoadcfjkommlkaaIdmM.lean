/-
  The shelf's structures at this program: its bodies are those of the shelf's. No condition.
-/
import Derived.Shelf.SlGeneric
import Derived.Shelf.Lays
import Derived.Ground.NamesProg
import Derived.Test.YtoadcfjkommlkaaProg
namespace Go.Proofs.Ytoadcfjkommlkaa
open Go.Shelf

def mul64_ren : Go.Shelf.Ren := ⟨fun | 264 => 29 | n => n, fun | 53 => 33 | 46 => 68 | n => n, fun | n => n⟩
theorem mul64 : Go.Proofs.Lays.n264 Try.prog mul64_ren := {
  mixed := by kernel_rfl
  f264 := Try.func29.trans (congrArg some (by kernel_rfl))
  t46 := Try.underlying68
  a46 := Try.isAgg68
  z46 := Try.sizeOf68
  v46 := Try.zeroValue68
  t53 := Try.underlying33
  a53 := Try.isAgg33
  z53 := Try.sizeOf33
  v53 := Try.zeroValue33 }
end Go.Proofs.Ytoadcfjkommlkaa
