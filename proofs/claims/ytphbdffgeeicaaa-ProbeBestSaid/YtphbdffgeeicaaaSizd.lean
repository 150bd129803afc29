/-
  How long a slice that came in can be: the form's reach. No condition.
-/
import Derived.Test.YtphbdffgeeicaaaOpen
import Derived.SizedLaws
namespace Go.Proofs.Ytphbdffgeeicaaa
open Go.ChangeShapes Go.WideShapes Go.Deep
open Go.RowKit

theorem sized_len {H : Type} {P : Program} {enc : TypeId × Value → H} {W : World} {base : Nat} {spare : Nat → Bool} {held : Bool} {fuel : Nat} {T e : TypeId} {A : Option Addr} {n c : Nat} {d : DataW H} {pl : List MemPlace} (ht : P.underlying T = some (.slice e)) (hf : DataW.trod enc P W base spare held fuel T (Value.slice A n c).cells.toList = some (d, pl)) {b : Nat} (hb : P.bytesOf e = b)
    (hz : ∀ elems sp, d = .slice elems sp → (elems.length + sp.length) * P.bytesOf e ≤ reachBytes) : n * b ≤ 140737488351232 := by
  rcases open_slice ht hf with ⟨h1, _⟩ | ⟨a, len, cap, m, k, D, Pl, h1, _, _, _, _, h2, _⟩
  · simp [Value.cells] at h1
    obtain ⟨_, rfl, _⟩ := h1
    omega
  · simp [Value.cells] at h1
    obtain ⟨_, rfl, _⟩ := h1
    simp only [Prod.mk.injEq] at h2
    have := hz _ _ h2.1
    simp only [List.length_map, List.length_range, reachBytes, hb] at this
    exact Nat.le_trans (Nat.mul_le_mul_right _ (Nat.le_add_right _ _)) this
end Go.Proofs.Ytphbdffgeeicaaa
