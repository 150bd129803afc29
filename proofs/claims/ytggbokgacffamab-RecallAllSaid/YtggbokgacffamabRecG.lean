/-
  The package recall: the part of all pairs together: both. Conditions: the slice reads as a list of pairs.
-/
import Derived.Test.YtggbokgacffamabRecF
namespace Go.Proofs.Ytggbokgacffamab
open Go.RowKit

def SPr : Sh (Int × Int) := Sh.pair (Sh.int .i64) (Sh.int .i64)
theorem Rd.pcell {w : World} {B : Nat} {A : Option Addr} {l : List (Int × Int)} (h : Rd SPr w B A l) {k : Nat} (hk : k < l.length) : ∃ ad x, A = some ad ∧ ad.block < B ∧ l[k]? = some x ∧ w.cell? (ad.add (k * 2)) = some (.int .i64 x.1) ∧ w.cell? ⟨(ad.add (k * 2)).block, (ad.add (k * 2)).off + 1, none⟩ = some (.int .i64 x.2) := by
  obtain ⟨ad, x, cs, e, hb, hx, hr, hc⟩ := RdR.at_ h hk
  obtain ⟨c, d, rfl, hr1, hr2⟩ := hr
  have h1 : c = [.int .i64 x.1] := hr1
  have h2 : d = [.int .i64 x.2] := hr2
  subst h1 h2
  refine ⟨ad, x, e, hb, hx, by simpa [SPr, Sh.pair, Sh.int] using hc 0 _ rfl, ?_⟩
  have := hc 1 _ rfl
  rw [show SPr.size = 2 from rfl, ← add_of_add] at this
  exact this
def scoS (s p : Int × Int) : Int × Int := if hB p.2 < 1 then s else (min (s.1 + hA p.1 p.2) 2147483647, min (s.2 + hB p.2) 2147483647)
/-- the sum of the first k pairs -/
def scoK (l : List (Int × Int)) (k : Nat) : Int × Int := (l.take k).foldl scoS (0, 0)
theorem scoK_snoc {l : List (Int × Int)} {k : Nat} {x : Int × Int} (h : l[k]? = some x) : scoK l (k + 1) = scoS (scoK l k) x := by
  unfold scoK; rw [take_snoc h, List.foldl_append]; rfl
theorem scoS_ok {s p : Int × Int} (h : (0 ≤ s.1 ∧ s.1 ≤ 2147483647) ∧ 0 ≤ s.2 ∧ s.2 ≤ 2147483647) : (0 ≤ (scoS s p).1 ∧ (scoS s p).1 ≤ 2147483647) ∧ 0 ≤ (scoS s p).2 ∧ (scoS s p).2 ≤ 2147483647 := by
  have := hA_le p.1 p.2
  unfold scoS; split
  · exact h
  · simp only; omega
theorem scoK_ok (l : List (Int × Int)) (k : Nat) : (0 ≤ (scoK l k).1 ∧ (scoK l k).1 ≤ 2147483647) ∧ 0 ≤ (scoK l k).2 ∧ (scoK l k).2 ≤ 2147483647 := by
  unfold scoK
  have : ∀ (m : List (Int × Int)) (s : Int × Int), ((0 ≤ s.1 ∧ s.1 ≤ 2147483647) ∧ 0 ≤ s.2 ∧ s.2 ≤ 2147483647) → ((0 ≤ (m.foldl scoS s).1 ∧ (m.foldl scoS s).1 ≤ 2147483647) ∧ 0 ≤ (m.foldl scoS s).2 ∧ (m.foldl scoS s).2 ≤ 2147483647) := by
    intro m
    induction m with
    | nil => exact fun s h => h
    | cons x m ih => exact fun s h => ih _ (scoS_ok h)
  exact this _ _ ⟨⟨by decide, by decide⟩, by decide, by decide⟩
/-- the part of all pairs -/
def scoF (l : List (Int × Int)) : Int := perF (hA (scoK l l.length).1 (scoK l l.length).2) (hB (scoK l l.length).2)
theorem i64_eq {a b : Int} (h : a = b) : Value.int .i64 a = Value.int .i64 b := by rw [h]

end Go.Proofs.Ytggbokgacffamab
