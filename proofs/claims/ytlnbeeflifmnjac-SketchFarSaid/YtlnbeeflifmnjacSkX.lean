/-
  sketch.Near's comparison. No condition.
-/
import Derived.Test.YtlnbeeflifmnjacSkV
import Derived.Sort.Grow
namespace Go.Proofs.Ytlnbeeflifmnjac
set_option linter.unusedSimpArgs false
set_option linter.unusedVariables false
open Go.RowKit Go.Lib Go.Sort

/-- a world, behind draws and new blocks -/
def GrownF (w w' : World) : Prop := ∃ q os, w' = grow (w.drewN q) os
theorem GrownF.refl (w : World) : GrownF w w := ⟨0, #[], by simp [World.drewN]⟩
theorem GrownF.alloc {w w' : World} (h : GrownF w w') (o : Obj) : GrownF w (w'.alloc o) := by
  obtain ⟨q, os, rfl⟩ := h
  exact ⟨q, os ++ #[o], by rw [alloc_eq_grow, grow_grow]⟩
set_option maxHeartbeats 1000000 in
theorem near1_any (a b : Far) (w : World) : Calls Try.prog 28 #[.agg #[.int .i64 (a.1.val : Nat), .int .i64 (a.2.val : Nat)], .agg #[.int .i64 (b.1.val : Nat), .int .i64 (b.2.val : Nat)]] w fun e w' => e = .returned (.int .i64 (farO a b)) ∧ GrownF w w' := by
  obtain ⟨⟨a1, ha1⟩, ⟨a2, ha2⟩⟩ := a
  obtain ⟨⟨b1, hb1⟩, ⟨b2, hb2⟩⟩ := b
  show Calls _ _ _ _ fun e w' => e = .returned (.int .i64 (if (a1 : Int) - b1 = 0 then (a2 : Int) - b2 else (a1 : Int) - b1)) ∧ GrownF w w'
  obtain ⟨r, hr⟩ : ∃ r, (if (a1 : Int) - b1 = 0 then (a2 : Int) - b2 else (a1 : Int) - b1) = r := ⟨_, rfl⟩
  rw [hr]
  have Hr := hide hr
  clear hr
  have HK := hide (fun (o1 o2 : Obj) => show Rd (Sh.int .i64) (((w.alloc o1).alloc o2).alloc (.cells #[.int .i64 ((a1 : Int) - b1), .int .i64 ((a2 : Int) - b2)] 3)) (((w.alloc o1).alloc o2).alloc (.cells #[.int .i64 ((a1 : Int) - b1), .int .i64 ((a2 : Int) - b2)] 3)).heap.size (some ⟨w.heap.size + 1 + 1, 0, none⟩) [(a1 : Int) - b1, (a2 : Int) - b2] from
    lit_at [(a1 : Int) - b1, (a2 : Int) - b2] (by have e : ((w.alloc o1).alloc o2).heap.size = w.heap.size + 1 + 1 := (by simp); rw [← e]; exact Blk.new _ _ _) (by simp))
  go_enter Try.func28, Try.ntmps28
  go_wp2_with (go_at_call 29; refine (or2_any (HK.out _ _)).mono ?_; rw [Hr.out]; rintro e _ ⟨rfl, rfl⟩)
  go_ret
  exact ⟨rfl, (((GrownF.refl w).alloc _).alloc _).alloc _⟩
end Go.Proofs.Ytlnbeeflifmnjac
