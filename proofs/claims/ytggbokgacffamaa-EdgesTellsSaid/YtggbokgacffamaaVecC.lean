/-
  The package vec: the middle of some vectors. Conditions: the slices read as lists of int32s, not too many.
-/
import Derived.Test.YtggbokgacffamaaVecB
namespace Go.Proofs.Ytggbokgacffamaa
open Go.RowKit

abbrev LL (w : World) (B : Nat) (A : Option Addr) (l : List (List Int)) : Prop := Rd (Sh.list (Sh.int .i32)) w B A l
/-- the sums of the columns, behind k rows and j more components -/
def sumsAt (l : List (List Int)) (k j : Nat) : Nat → Int := stp (fun i => colTo l i k) (fun i => colTo l i (k + 1)) j
def mids (l : List (List Int)) (i : Nat) : Int := colTo l i l.length / (l.length : Int)
theorem meanR_yes {l : List (List Int)} (h : meanB l = true) : meanR l = (List.range (l.getD 0 []).length).map (mids l) := by unfold meanR; rw [if_pos h]; rfl
def MeanGives (w : World) (l : List (List Int)) (e : Ending) (w' : World) : Prop := ∃ v, e = .returned (.tuple #[v, .int .i64 (meanE l)]) ∧ NewInts .i32 w (meanR l) v w'
theorem meanGives_no {w w' : World} {l : List (List Int)} (h : meanB l = false) (hb : Below w.heap.size w w') : MeanGives w l (.returned (.tuple #[.slice none 0 0, .int .i64 7])) w' :=
  ⟨.slice none 0 0, by simp [meanE, h], by rw [show meanR l = [] by simp [meanR, h]]; exact NewInts.nil hb⟩
theorem i32_get {l : List (List Int)} (h : ∀ v ∈ l, I32 v) {k : Nat} {v : List Int} (hv : l[k]? = some v) : I32 v := h v (List.mem_of_getElem? hv)
theorem colTo_next {l : List (List Int)} {k : Nat} {v : List Int} (hv : l[k]? = some v) (i : Nat) : colTo l i (k + 1) = colTo l i k + cmpAt v i := by
  simp [colTo, List.getD_eq_getElem?_getD, hv]

end Go.Proofs.Ytggbokgacffamaa
