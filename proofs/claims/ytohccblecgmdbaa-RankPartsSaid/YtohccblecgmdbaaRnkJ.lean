/-
  The package rank: slices.Grow and slices.Concat at hits. Conditions: the slices read as lists of hits; at most some hundred thousand hits.
-/
import Derived.Test.YtohccblecgmdbaaRnkO
import Derived.Test.YtohccblecgmdbaaRnkT
import Derived.Shelf.Spec.SlicesGrow
namespace Go.Proofs.Ytohccblecgmdbaa
open Go.RowKit

theorem info_hitR : (Try.prog.info? 34).map (fun i => (i.zero, i.size, i.bytes)) = some (some (.agg #[.int .u64 0, .int .u64 0]), 2, 16) := by kernel_rfl
theorem zeroCells_size (cs : Array Value) (n : Nat) : (Builtin.zeroCells cs n).size = n * cs.size := by
  simp [Builtin.zeroCells]
theorem growH_any (n : Nat) (w : World) (h6 : n ≤ 1000000) :
    Calls Try.prog 32 #[.slice none 0 0, .int .i64 n] w fun e w' => ∃ v, e = .returned v ∧ w'.ownsRow w.heap.size 34 2 v 0 [] ∧ Below w.heap.size w w' := by
  rcases Nat.eq_zero_or_pos n with h0 | h0
  · subst h0
    exact (Any8.slices_Grow_room growHit none 0 0 0 w (by omega) (by omega) (by omega) (by omega)).mono fun _ _ ⟨he, hw⟩ => by
      subst hw; exact ⟨_, he, World.ownsRow_nil _ _ _ _, Below.refl _ _⟩
  · obtain ⟨i0, hi, hz⟩ := Option.map_eq_some_iff.1 info_hitR
    simp only [Prod.mk.injEq] at hz
    obtain ⟨hz, hs, hy⟩ := hz
    refine (Any8.slices_Grow_grow growHit i0 _ hi hz (by omega) none 0 0 n [] w (by omega) (by omega) (by rw [hy]; omega) (by omega) (by simp) (fun _ => rfl) (fun a h => by cases h)).mono ?_
    rintro e w' ⟨rfl, rfl⟩
    refine ⟨_, rfl, ⟨rfl, .inr ⟨w.heap.size, _, _, rfl, Nat.le_refl _, heap_alloc_new _ _, Nat.zero_le _, grownCap_le_maxLen w _ _ _ (by simp only [maxLen]; omega), ?_, rfl⟩⟩, (Below.refl w.heap.size w).drew.alloc (Nat.le_refl _) _⟩
    have := grownCap_ge w n 0 (growHit_ren.t 25)
    simp [zeroCells_size, Value.cells]
    omega
end Go.Proofs.Ytohccblecgmdbaa
