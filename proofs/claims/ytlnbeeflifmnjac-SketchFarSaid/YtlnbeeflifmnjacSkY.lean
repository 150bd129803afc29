/-
  sketch.Near's sort. Conditions: the row is the call's own; at most a million of them.
-/
import Derived.Test.YtlnbeeflifmnjacSkX
import Derived.Test.YtlnbeeflifmnjacSkT
import Derived.Test.YtlnbeeflifmnjacFlat
import Derived.Shelf.SlSortCmp.NoneTotal
namespace Go.Proofs.Ytlnbeeflifmnjac
open Go.RowKit

def SFr : Sh Far := Sh.by (Sh.pair (Sh.int .i64) (Sh.int .i64)) (fun x => ((x.1.val : Int), (x.2.val : Int)))
theorem flatFr : Flat SFr encFr where
  rd w R x cs := (flatPair (flatInt .i64) (flatInt .i64)).rd w R ((x.1.val : Int), (x.2.val : Int)) cs
  len _ := rfl
  one x v hv := by
    simp only [encFr, List.mem_cons, List.not_mem_nil, or_false] at hv
    rcases hv with rfl | rfl <;> rfl
  pos := by decide
def srtFr (l : List Far) : List Far := srt farLt l
theorem srtFr_len (l : List Far) : (srtFr l).length = l.length := srt_len
theorem ltFr : ltOf farO = farLt := funext fun a => funext fun b => farO_neg a b
/-- the sort of a row of far ones that the call owns -/
theorem sortFr_any (base : Nat) (v : Value) (n : Nat) (l : List Far) (w : World) (ho : w.ownsRow base 47 2 v n (fcs encFr l)) (h6 : n ≤ 1000000) :
    Calls Try.prog 27 #[v, .func (.func 28) #[] #[]] w fun e w' => e = .returned (.tuple #[]) ∧ w'.ownsRow base 47 2 v n (fcs encFr (srtFr l)) ∧ w.grownBy w' v.ownBlock := by
  have hl : l.length = n := by have := ho.1; rw [flatFr.clen] at this; exact Nat.eq_of_mul_eq_mul_right flatFr.pos this
  rcases Nat.eq_zero_or_pos n with h0 | h0
  · subst h0
    have hl0 : l = [] := List.eq_nil_of_length_eq_zero hl
    subst hl0
    have hf : ∃ A c, v = .slice A 0 c := by
      rcases ho.2 with ⟨h, _⟩ | ⟨g, cap, cur, h, _⟩
      · exact ⟨none, 0, h⟩
      · exact ⟨_, cap, h⟩
    obtain ⟨A, c, rfl⟩ := hf
    exact (AnyF.slices_SortFunc_none sortFar A c _ w).mono fun _ _ ⟨he, hw⟩ => by subst hw; exact ⟨he, by rw [show srtFr [] = [] by simp [srtFr, srt]]; exact ho, World.grownBy.refl _ _⟩
  · obtain ⟨g, cap, rfl, hg, hlt⟩ := ho.form h0
    have hh := flatFr.holds ho
    have hc := AnyQ.slices_SortFunc_total sortFar 2 Try.isAgg47 Try.sizeOf47 encFr (fun _ => rfl) flatFr.one farO (by rw [ltFr]; exact swoFr) 28 #[] g 0 cap l.toArray w (enters_of Try.func28 (by kernel_rfl) rfl) (fun _ _ _ _ x y => near1_any x y _) hh hlt (by simp; omega) (by rw [ltFr]; exact totFr)
    rw [ltFr] at hc
    have e : l.toArray.size = n := by simpa using hl
    rw [e] at hc
    refine Calls.mono hc ?_
    rintro e w' ⟨he, m, os, rfl⟩
    exact ⟨he, flatFr.sorted ho (srtFr_len l) m os, sortW_grown _ _ _ _ _ _ _⟩
end Go.Proofs.Ytlnbeeflifmnjac
