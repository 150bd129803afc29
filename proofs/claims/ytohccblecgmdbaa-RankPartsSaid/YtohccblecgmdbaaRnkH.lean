/-
  The package rank: the sort of hits. Conditions: the row is the call's own; at most a million hits.
-/
import Derived.Test.YtohccblecgmdbaaRnkE
namespace Go.Proofs.Ytohccblecgmdbaa
open Go.RowKit

/-- the sort of a row of hits that the call owns -/
theorem sortH_any (base : Nat) (v : Value) (n : Nat) (l : List Hit) (w : World) (ho : w.ownsRow base 34 2 v n (fcs encH l)) (h6 : n ≤ 1000000) :
    Calls Try.prog 24 #[v, .func (.func 25) #[] #[]] w fun e w' => e = .returned (.tuple #[]) ∧ w'.ownsRow base 34 2 v n (fcs encH (srtH l)) ∧ w.grownBy w' v.ownBlock := by
  have hl : l.length = n := by have := ho.1; rw [flatH.clen] at this; exact Nat.eq_of_mul_eq_mul_right flatH.pos this
  rcases Nat.eq_zero_or_pos n with h0 | h0
  · subst h0
    have hl0 : l = [] := List.eq_nil_of_length_eq_zero hl
    subst hl0
    have hf : ∃ A c, v = .slice A 0 c := by
      rcases ho.2 with ⟨h, _⟩ | ⟨g, cap, cur, h, _⟩
      · exact ⟨none, 0, h⟩
      · exact ⟨_, cap, h⟩
    obtain ⟨A, c, rfl⟩ := hf
    exact (AnyF.slices_SortFunc_none sortHit A c _ w).mono fun _ _ ⟨he, hw⟩ => by subst hw; exact ⟨he, by rw [show srtH [] = [] by simp [srtH, srt]]; exact ho, World.grownBy.refl _ _⟩
  · obtain ⟨g, cap, rfl, hg, hlt⟩ := ho.form h0
    have hh := flatH.holds ho
    have hc := AnyQ.slices_SortFunc_total sortHit 2 Try.isAgg34 Try.sizeOf34 encH (fun _ => rfl) flatH.one hitO (by rw [ltH]; exact swoH) 25 #[] g 0 cap l.toArray w (enters_of Try.func25 (by kernel_rfl) rfl) (fun _ _ _ _ x y => order_any x y _) hh hlt (by simp; omega) (by rw [ltH]; exact totH)
    rw [ltH] at hc
    have e : l.toArray.size = n := by simpa using hl
    rw [e] at hc
    refine Calls.mono hc ?_
    rintro e w' ⟨he, m, os, rfl⟩
    exact ⟨he, flatH.sorted ho (srtH_len l) m os, sortW_grown _ _ _ _ _ _ _⟩
end Go.Proofs.Ytohccblecgmdbaa
