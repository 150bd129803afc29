/-
  The package idmap: ids with refs in order: the comparing function, the sort. Conditions: the row is the call's own.
-/
import Derived.Test.YtoadcfjkommlkaaIdmG
import Derived.Test.YtoadcfjkommlkaaIdmS
import Derived.Test.YtoadcfjkommlkaaSort
import Derived.Test.YtoadcfjkommlkaaSrt
import Derived.Shelf.SlSortCmp.NoneTotal
import Derived.Sort.Grow
import Derived.Lib.Small
namespace Go.Proofs.Ytoadcfjkommlkaa
open Go.RowKit Go.Lib Go.Sort

/-- a world, behind draws and new blocks -/
def GrownI (w w' : World) : Prop := ∃ q os, w' = grow (w.drewN q) os
theorem GrownI.refl (w : World) : GrownI w w := ⟨0, #[], by simp [World.drewN]⟩
theorem GrownI.alloc {w w' : World} (h : GrownI w w') (o : Obj) : GrownI w (w'.alloc o) := by
  obtain ⟨q, os, rfl⟩ := h
  exact ⟨q, os ++ #[o], by rw [alloc_eq_grow, grow_grow]⟩
theorem cmp_negI (x y : Int) : compareInt x y < 0 ↔ x < y := by
  unfold compareInt; split
  · omega
  · split <;> omega
set_option maxHeartbeats 1000000 in
theorem cmpU_any (x y : Int) (w : World) : Calls Try.prog 28 #[.int .u64 x, .int .u64 y] w fun e w' => e = .returned (.int .i64 (compareInt x y)) ∧ w = w' := by
  by_cases h1 : x < y
  · have e : compareInt x y = -1 := by unfold compareInt; simp [h1]
    rw [e]
    go_enter Try.func28, Try.ntmps28
    go_wp2
    all_goals go_ret
    all_goals exact ⟨rfl, rfl⟩
  · by_cases h2 : y < x
    · have e : compareInt x y = 1 := by unfold compareInt; simp [h1, h2]
      rw [e]
      go_enter Try.func28, Try.ntmps28
      go_wp2
      all_goals go_ret
      all_goals exact ⟨rfl, rfl⟩
    · have e : compareInt x y = 0 := by unfold compareInt; simp [h1, h2]
      rw [e]
      go_enter Try.func28, Try.ntmps28
      go_wp2
      all_goals go_ret
      all_goals exact ⟨rfl, rfl⟩
def intLt (a b : Int) : Bool := decide (a < b)
theorem swoZ : Go.Sort.SWO intLt where
  irrefl x := by simp [intLt]
  trans x y z h1 h2 := by simp [intLt] at *; omega
  ntrans x y z h1 h2 := by simp [intLt] at *; omega
theorem totZ (x y : Int) (h1 : intLt x y = false) (h2 : intLt y x = false) : x = y := by simp [intLt] at *; omega
theorem ltZ : ltOf compareInt = intLt := funext fun a => funext fun b => by
  show decide (compareInt a b < 0) = decide (a < b)
  exact decide_eq_decide.2 (cmp_negI a b)
/-- an id's row of cells, its ref told by a function -/
def encF (f : Int → RefV) (x : Int) : List Value := encN (x, f x)
def SNf (f : Int → RefV) : Sh Int := Sh.by SNm fun x => (x, f x)
theorem flatF (f : Int → RefV) : Flat (SNf f) (encF f) := ⟨fun w R x cs => flatN.rd w R (x, f x) cs, fun x => flatN.len (x, f x), fun x => flatN.one (x, f x), flatN.pos⟩
theorem fcs_f (f : Int → RefV) (I : List Int) : fcs (encF f) I = fcs encN (I.map fun x => (x, f x)) := by
  unfold fcs
  rw [List.flatMap_map]
  rfl
set_option maxHeartbeats 1000000 in
theorem cmpN_any (f : Int → RefV) (a b : Int) (w : World) : Calls Try.prog 27 #[.agg (encF f a).toArray, .agg (encF f b).toArray] w fun e w' => e = .returned (.int .i64 (compareInt a b)) ∧ GrownI w w' := by
  have HC := hide (fun W => cmpU_any a b W)
  generalize compareInt a b = c at *
  show Calls Try.prog 27 #[.agg #[.int .u64 a, .int .i64 (f a).1, .int .i64 (f a).2], .agg #[.int .u64 b, .int .i64 (f b).1, .int .i64 (f b).2]] w fun e w' => e = .returned (.int .i64 c) ∧ GrownI w w'
  go_enter Try.func27, Try.ntmps27
  go_wp2_with (go_at_call 28; refine (HC.out _).mono ?_; rintro e _ ⟨rfl, rfl⟩)
  go_ret
  exact ⟨rfl, ((GrownI.refl w).alloc _).alloc _⟩
theorem sortN_any (f : Int → RefV) (base : Nat) (v : Value) (n : Nat) (l : List Int) (w : World) (ho : w.ownsRow base 56 3 v n (fcs (encF f) l)) (h6 : n ≤ 1000000) :
    Calls Try.prog 26 #[v, .func (.func 27) #[] #[]] w fun e w' => e = .returned (.tuple #[]) ∧ w'.ownsRow base 56 3 v n (fcs (encF f) (srt intLt l)) ∧ w.grownBy w' v.ownBlock := by
  have hl : l.length = n := by have := ho.1; rw [(flatF f).clen] at this; exact Nat.eq_of_mul_eq_mul_right (flatF f).pos this
  rcases Nat.eq_zero_or_pos n with h0 | h0
  · subst h0
    have hl0 : l = [] := List.eq_nil_of_length_eq_zero hl
    subst hl0
    have hf : ∃ A c, v = .slice A 0 c := by
      rcases ho.2 with ⟨h, _⟩ | ⟨g, cap, cur, h, _⟩
      · exact ⟨none, 0, h⟩
      · exact ⟨_, cap, h⟩
    obtain ⟨A, c, rfl⟩ := hf
    exact (AnyF.slices_SortFunc_none sortNamed A c _ w).mono fun _ _ ⟨he, hw⟩ => by subst hw; exact ⟨he, by rw [show srt intLt [] = [] by simp [srt]]; exact ho, World.grownBy.refl _ _⟩
  · obtain ⟨g, cap, rfl, hg, hlt⟩ := ho.form h0
    have hh := (flatF f).holds ho
    have hc := AnyQ.slices_SortFunc_total sortNamed 3 Try.isAgg56 Try.sizeOf56 (encF f) (fun _ => rfl) (flatF f).one compareInt (by rw [ltZ]; exact swoZ) 27 #[] g 0 cap l.toArray w (enters_of Try.func27 (by kernel_rfl) rfl) (fun _ _ _ _ x y => cmpN_any f x y _) hh hlt (by simp; omega) (by rw [ltZ]; exact totZ)
    rw [ltZ] at hc
    have e : l.toArray.size = n := by simpa using hl
    rw [e] at hc
    refine Calls.mono hc ?_
    rintro e w' ⟨he, m, os, rfl⟩
    exact ⟨he, (flatF f).sorted ho srt_len m os, sortW_grown _ _ _ _ _ _ _⟩
end Go.Proofs.Ytoadcfjkommlkaa
