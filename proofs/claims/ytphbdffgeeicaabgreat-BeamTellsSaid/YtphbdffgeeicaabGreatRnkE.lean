/-
  The package rank: Sort. Conditions: the slice reads as a list of spots; at most a million of them.
-/
import Derived.Test.YtphbdffgeeicaabGreatRnkO
import Derived.Test.YtphbdffgeeicaabGreatRnkS
import Derived.Shelf.SlSortCmp.NoneTotal
namespace Go.Proofs.YtphbdffgeeicaabGreat
set_option linter.unusedSimpArgs false
set_option linter.unusedVariables false
open Go.RowKit

/-- the sort of a row of spots that the call owns -/
theorem sortS_any (base : Nat) (v : Value) (n : Nat) (l : List Spt) (w : World) (ho : w.ownsRow base 51 3 v n (fcs encS l)) (h6 : n ≤ 1000000) :
    Calls Tryz.prog 83 #[v, .func (.func 74) #[] #[]] w fun e w' => e = .returned (.tuple #[]) ∧ w'.ownsRow base 51 3 v n (fcs encS (srtS l)) ∧ w.grownBy w' v.ownBlock := by
  have hl : l.length = n := by have := ho.1; rw [flatS.clen] at this; exact Nat.eq_of_mul_eq_mul_right flatS.pos this
  rcases Nat.eq_zero_or_pos n with h0 | h0
  · subst h0
    have hl0 : l = [] := List.eq_nil_of_length_eq_zero hl
    subst hl0
    have hf : ∃ A c, v = .slice A 0 c := by
      rcases ho.2 with ⟨h, _⟩ | ⟨g, cap, cur, h, _⟩
      · exact ⟨none, 0, h⟩
      · exact ⟨_, cap, h⟩
    obtain ⟨A, c, rfl⟩ := hf
    exact (AnyF.slices_SortFunc_none sortSpot A c _ w).mono fun _ _ ⟨he, hw⟩ => by subst hw; exact ⟨he, by rw [show srtS [] = [] by simp [srtS, srt]]; exact ho, World.grownBy.refl _ _⟩
  · obtain ⟨g, cap, rfl, hg, hlt⟩ := ho.form h0
    have hh := flatS.holds ho
    have hc := AnyQ.slices_SortFunc_total sortSpot 3 Tryz.isAgg51 Tryz.sizeOf51 encS (fun _ => rfl) flatS.one sptO (by rw [ltS]; exact swoS) 74 #[] g 0 cap l.toArray w (enters_of Tryz.func74 (by kernel_rfl) rfl) (fun _ _ _ _ x y => place_any x y _) hh hlt (by simp; omega) (by rw [ltS]; exact totS)
    rw [ltS] at hc
    have e : l.toArray.size = n := by simpa using hl
    rw [e] at hc
    refine Calls.mono hc ?_
    rintro e w' ⟨he, m, os, rfl⟩
    exact ⟨he, flatS.sorted ho (srtS_len l) m os, sortW_grown _ _ _ _ _ _ _⟩
set_option maxHeartbeats 1000000 in
theorem sort_any (A : Option Addr) (n c : Nat) (l : List Spt) (w : World) (hx : Rd SP w w.heap.size A l) (hn : l.length = n) (hc : n ≤ c) (hm : c ≤ 9223372036854775807) (h6 : n ≤ 1000000) :
    Calls Tryz.prog 59 #[.slice A n c] w fun e w' => ∃ v, e = .returned v ∧ w'.ownsRow w.heap.size 51 3 v n (fcs encS (srtS l)) ∧ Below w.heap.size w w' := by
  have H1 := hide (cloneS_any A n c l w hx hn hc hm h6)
  clear hx hn
  go_enter Tryz.func59, Tryz.ntmps59
  go_wp2_with fail
  refine H1.out.mono ?_
  rintro e w1 ⟨v, rfl, ho, hb⟩
  have HB := hide hb
  have HO := hide ho
  have H2 := hide (sortS_any _ v n l w1 ho h6)
  clear ho hb
  go_wp2_with fail
  refine H2.out.mono ?_
  rintro e w2 ⟨rfl, ho2, hg2⟩
  have HO2 := hide ho2
  have HB2 := hide (below_own HB.out HO.out HB.out.size hg2)
  clear ho2 hg2
  go_wp2
  go_ret
  exact ⟨v, rfl, HO2.out, HB2.out⟩
end Go.Proofs.YtphbdffgeeicaabGreat
