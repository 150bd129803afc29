/-
  The law's own probes: lives returns true. No condition.
-/
import Derived.Test.YtoodcfldnojkjaaClkL
namespace Go.Proofs.Ytoodcfldnojkjaa
open Go.RowKit

set_option maxHeartbeats 400000 in
set_option maxRecDepth 100000 in
set_option profiler false in
theorem lives_any (w : World) : Calls Try.prog 5 #[] w fun e w' => e = .returned (.bool true) ∧ Below w.heap.size w w' := by
  go_enter Try.func5, Try.ntmps5
  have hb0 : Below w.heap.size w w := Below.refl _ _
  have hs0 := hide hb0.size
  go_wp2_with fail
  refine (at_lit [1, (-2)] 1 0 (by decide) _ (by exact ints_lit1 [1, (-2)] (by simp) (by first | (simp; done) | (simp; omega))) rfl (by decide) (by decide)).mono ?_
  rintro e w1 ⟨rfl, hc1⟩
  have hb1 : Below w.heap.size w w1 := (hb0.alloc (by have := hs0.out; simp; try omega) _).trans (hc1.mono (by have := hs0.out; simp; try omega))
  have hs1 := hide hb1.size
  clear hb0
  go_wp2_with fail
  refine (at_lit [1] 0 1 (by decide) _ (by exact ints_lit1 [1] (by simp) (by first | (simp; done) | (simp; omega))) rfl (by decide) (by decide)).mono ?_
  rintro e w2 ⟨rfl, hc2⟩
  have hb2 : Below w.heap.size w w2 := (hb1.alloc (by have := hs1.out; simp; try omega) _).trans (hc2.mono (by have := hs1.out; simp; try omega))
  have hs2 := hide hb2.size
  clear hb1
  go_wp2_with fail
  refine (at_lit [] (-1) 0 (by decide) _ Rd.nil rfl (by decide) (by decide)).mono ?_
  rintro e w3 ⟨rfl, hc3⟩
  have hb3 : Below w.heap.size w w3 := hb2.trans (hc3.mono (by have := hs2.out; simp; try omega))
  have hs3 := hide hb3.size
  clear hb2
  go_wp2_with fail
  refine (tick_lit [] 2 [0, 0, 1] (by decide) _ Rd.nil rfl (by decide) (by decide)).mono ?_
  rintro e w4 ⟨A4, n4, c4, rfl, hl4, h14, h24, h34, hc4⟩
  have hb4 : Below w.heap.size w w4 := hb3.trans (hc4.mono (by have := hs3.out; simp; try omega))
  have hs4 := hide hb4.size
  clear hb3
  obtain rfl : n4 = 3 := hl4.symm
  clear hl4
  go_wp2_with fail
  refine (same_lit [0, 0, 1] [0, 0, 1] _ (by exact (h34.alloc (Nat.le_refl _) _).more (by simp)) rfl h14 h24 (by exact ints_lit1 [0, 0, 1] (by simp) (by first | (simp; done) | (simp; omega))) rfl).mono ?_
  rintro e w5 ⟨rfl, hc5⟩
  have hb5 : Below w.heap.size w w5 := (hb4.alloc (by have := hs4.out; simp; try omega) _).trans (hc5.mono (by have := hs4.out; simp; try omega))
  have hs5 := hide hb5.size
  clear hb4
  go_wp2_with fail
  refine (tick_lit [3, 0] 65 [3] (by decide) _ (by exact ints_lit1 [3, 0] (by simp) (by first | (simp; done) | (simp; omega))) rfl (by decide) (by decide)).mono ?_
  rintro e w6 ⟨A6, n6, c6, rfl, hl6, h16, h26, h36, hc6⟩
  have hb6 : Below w.heap.size w w6 := (hb5.alloc (by have := hs5.out; simp; try omega) _).trans (hc6.mono (by have := hs5.out; simp; try omega))
  have hs6 := hide hb6.size
  clear hb5
  obtain rfl : n6 = 1 := hl6.symm
  clear hl6
  go_wp2_with fail
  refine (same_lit [3] [3] _ (by exact (h36.alloc (Nat.le_refl _) _).more (by simp)) rfl h16 h26 (by exact ints_lit1 [3] (by simp) (by first | (simp; done) | (simp; omega))) rfl).mono ?_
  rintro e w7 ⟨rfl, hc7⟩
  have hb7 : Below w.heap.size w w7 := (hb6.alloc (by have := hs6.out; simp; try omega) _).trans (hc7.mono (by have := hs6.out; simp; try omega))
  have hs7 := hide hb7.size
  clear hb6
  go_wp2_with fail
  refine (join_lit [1, 5] [2, (-1), 1] [2, 5, 1] (by decide) _ (by exact ints_lit2 [1, 5] (by simp) (by first | (simp; done) | (simp; omega))) rfl (by decide) (by decide) (by exact ints_lit1 [2, (-1), 1] (by simp) (by first | (simp; done) | (simp; omega))) rfl (by decide) (by decide)).mono ?_
  rintro e w8 ⟨A8, n8, c8, rfl, hl8, h18, h28, h38, hc8⟩
  have hb8 : Below w.heap.size w w8 := ((hb7.alloc (by have := hs7.out; simp; try omega) _).alloc (by have := hs7.out; simp; try omega) _).trans (hc8.mono (by have := hs7.out; simp; try omega))
  have hs8 := hide hb8.size
  clear hb7
  obtain rfl : n8 = 3 := hl8.symm
  clear hl8
  go_wp2_with fail
  refine (same_lit [2, 5, 1] [2, 5, 1] _ (by exact (h38.alloc (Nat.le_refl _) _).more (by simp)) rfl h18 h28 (by exact ints_lit1 [2, 5, 1] (by simp) (by first | (simp; done) | (simp; omega))) rfl).mono ?_
  rintro e w9 ⟨rfl, hc9⟩
  have hb9 : Below w.heap.size w w9 := (hb8.alloc (by have := hs8.out; simp; try omega) _).trans (hc9.mono (by have := hs8.out; simp; try omega))
  have hs9 := hide hb9.size
  clear hb8
  go_wp2_with fail
  refine (cmp_lit [1, 0] [0, 1] 2 (by decide) _ (by exact ints_lit2 [1, 0] (by simp) (by first | (simp; done) | (simp; omega))) rfl (by decide) (by decide) (by exact ints_lit1 [0, 1] (by simp) (by first | (simp; done) | (simp; omega))) rfl (by decide) (by decide)).mono ?_
  rintro e w10 ⟨rfl, hc10⟩
  have hb10 : Below w.heap.size w w10 := ((hb9.alloc (by have := hs9.out; simp; try omega) _).alloc (by have := hs9.out; simp; try omega) _).trans (hc10.mono (by have := hs9.out; simp; try omega))
  have hs10 := hide hb10.size
  clear hb9
  go_wp2_with fail
  refine (cmp_lit [1] [1, 1] (-1) (by decide) _ (by exact ints_lit2 [1] (by simp) (by first | (simp; done) | (simp; omega))) rfl (by decide) (by decide) (by exact ints_lit1 [1, 1] (by simp) (by first | (simp; done) | (simp; omega))) rfl (by decide) (by decide)).mono ?_
  rintro e w11 ⟨rfl, hc11⟩
  have hb11 : Below w.heap.size w w11 := ((hb10.alloc (by have := hs10.out; simp; try omega) _).alloc (by have := hs10.out; simp; try omega) _).trans (hc11.mono (by have := hs10.out; simp; try omega))
  have hs11 := hide hb11.size
  clear hb10
  go_wp2_with fail
  refine (cmp_lit [2] [1, (-1)] 1 (by decide) _ (by exact ints_lit2 [2] (by simp) (by first | (simp; done) | (simp; omega))) rfl (by decide) (by decide) (by exact ints_lit1 [1, (-1)] (by simp) (by first | (simp; done) | (simp; omega))) rfl (by decide) (by decide)).mono ?_
  rintro e w12 ⟨rfl, hc12⟩
  have hb12 : Below w.heap.size w w12 := ((hb11.alloc (by have := hs11.out; simp; try omega) _).alloc (by have := hs11.out; simp; try omega) _).trans (hc12.mono (by have := hs11.out; simp; try omega))
  have hs12 := hide hb12.size
  clear hb11
  go_wp2_with fail
  refine (cmp_lit [] [0] 0 (by decide) _ Rd.nil rfl (by decide) (by decide) (by exact ints_lit1 [0] (by simp) (by first | (simp; done) | (simp; omega))) rfl (by decide) (by decide)).mono ?_
  rintro e w13 ⟨rfl, hc13⟩
  have hb13 : Below w.heap.size w w13 := (hb12.alloc (by have := hs12.out; simp; try omega) _).trans (hc13.mono (by have := hs12.out; simp; try omega))
  have hs13 := hide hb13.size
  clear hb12
  go_wp2_with fail
  refine (short_lit [0, (-1)] [] (by decide) _ (by exact ints_lit1 [0, (-1)] (by simp) (by first | (simp; done) | (simp; omega))) rfl (by decide) (by decide)).mono ?_
  rintro e w14 ⟨A14, n14, c14, rfl, hl14, h114, h214, h314, hc14⟩
  have hb14 : Below w.heap.size w w14 := (hb13.alloc (by have := hs13.out; simp; try omega) _).trans (hc14.mono (by have := hs13.out; simp; try omega))
  have hs14 := hide hb14.size
  clear hb13
  obtain rfl : n14 = 0 := hl14.symm
  clear hl14
  go_wp2_with fail
  go_ret
  exact ⟨rfl, hb14⟩

end Go.Proofs.Ytoodcfldnojkjaa
