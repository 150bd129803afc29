/-
  The package edges: what Without calls: the closure, slices.Clone, slices.IndexFunc at ints. Conditions: the slices read as lists of ints.
-/
import Derived.Test.YtggbokgacffamaaEdgD
namespace Go.Proofs.Ytggbokgacffamaa
open Go.RowKit

theorem without1_any (y x : Int) (b5 : Nat) (w : World) (h5 : Blk w b5 3 #[.int .i64 x]) :
    Calls Try.prog 29 #[.int .i64 y, .pointer (some ⟨b5, 0, none⟩)] w fun e w' => e = .returned (.bool (y == x)) ∧ w = w' := by
  have z2 : w.cell? ⟨b5, 0, none⟩ = some (.int .i64 x) := h5.cell 0
  clear h5
  go_enter Try.func29, Try.ntmps29
  go_wp2
  go_ret
  exact ⟨rfl, rfl⟩
set_option maxHeartbeats 1000000 in
theorem cloneI_any (A : Option Addr) (n c : Nat) (l : List Int) (w : World) (hx : Rd (Sh.int .i64) w w.heap.size A l) (hn : l.length = n) (hc : n ≤ c) (hm : c ≤ 9223372036854775807) (h6 : n ≤ 1000000) :
    Calls Try.prog 28 #[.slice A n c] w fun e w' => ∃ v, e = .returned v ∧ w'.ownsRow w.heap.size 3 1 v n (fcs encI l) ∧ Below w.heap.size w w' := by
  have he := fun (W : World) (a : Option Addr) (n c : Nat) => Lib.run_eql_slice_nil W 22 3 a n c 0 0 Try.underlying22
  rcases A with _ | ad
  · have hl : l = [] := by
      rcases l with _ | ⟨x, l⟩
      · rfl
      · obtain ⟨_, h, _⟩ := hx (by simp)
        cases h
    subst hl
    obtain rfl : n = 0 := by simpa using hn.symm
    go_enter Try.func28, Try.ntmps28
    go_wp2
    go_ret
    exact ⟨_, rfl, ⟨rfl, .inl ⟨rfl, rfl⟩⟩, Below.refl _ _⟩
  · have HB := hide (below1 w (.cells #[] 3))
    have HR := hide (flatI.reads (fun _ h => h) (Rd.step hx HB.out) hn)
    have HO := hide (own_start w 3 1)
    obtain ⟨i1, hi1, hz1⟩ := Option.map_eq_some_iff.1 info_intE
    simp only [Prod.mk.injEq] at hz1
    have HI := hide hi1
    have HZ := hide hz1.1
    have HS := hide hz1.2.1
    have HY := hide hz1.2.2
    clear hx hn hi1 hz1
    go_enter Try.func28, Try.ntmps28
    go_wp2_with (at_builtin; refine wpList_append_any _ rfl _ _ 22 rfl w.heap.size 3 i1 _ 1 8 Try.underlying22 HI.out HZ.out HS.out HY.out rfl (by decide) _ 0 [] rfl HO.out _ (some ad) n c (fcs encI l) rfl HR.out (flatI.ones l) (by simp only [maxLen]; omega) (by omega) HB.out.size ?_; intro v' w9 hown9 hgr9 _; have HO9 := hide hown9; have HB9 := hide (below_own HB.out HO.out HB.out.size hgr9); clear hown9 hgr9)
    all_goals go_ret
    all_goals exact ⟨_, rfl, by have h := HO9.out; rwa [Nat.zero_add] at h, HB9.out⟩
end Go.Proofs.Ytggbokgacffamaa
