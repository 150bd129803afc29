/-
  The law's own probes of vec: lives returns true. No condition.
-/
import Derived.Test.YtodlbbcgplhihaaVecD
namespace Go.Proofs.Ytodlbbcgplhihaa
open Go.RowKit

set_option maxHeartbeats 4000000 in
set_option maxRecDepth 100000 in
theorem lives_any (w : World) : Calls Try.prog 5 #[] w fun e w' => e = .returned (.bool true) ∧ Below w.heap.size w w' := by
  have HK := hide (Below.refl w.heap.size w)
  go_enter Try.func5, Try.ntmps5
  go_wp2_with fail
  have hb0 := ((((Below.refl _ w).alloc (by first | exact Nat.le_refl _ | (simp; done) | (simp; omega)) (.cells #[.int .i32 1] 21)).alloc (by first | exact Nat.le_refl _ | (simp; done) | (simp; omega)) (.cells #[.int .i32 (-2)] 21)).alloc (by first | exact Nat.le_refl _ | (simp; done) | (simp; omega)) (.cells #[.slice (some ⟨w.heap.size, 0, none⟩) 1 1, .slice (some ⟨w.heap.size + 1, 0, none⟩) 1 1] 22))
  refine (mean_any (some ⟨w.heap.size + 1 + 1, 0, none⟩) 2 2 [[1], [-2]] (((w.alloc (.cells #[.int .i32 1] 21)).alloc (.cells #[.int .i32 (-2)] 21)).alloc (.cells #[.slice (some ⟨w.heap.size, 0, none⟩) 1 1, .slice (some ⟨w.heap.size + 1, 0, none⟩) 1 1] 22)) (LA.at_ (cs := [.slice (some ⟨w.heap.size, 0, none⟩) 1 1, .slice (some ⟨w.heap.size + 1, 0, none⟩) 1 1]) (Blk.new_at (w := ((w.alloc (.cells #[.int .i32 1] 21)).alloc (.cells #[.int .i32 (-2)] 21))) (g := w.heap.size + 1 + 1) (by simp) 22 #[.slice (some ⟨w.heap.size, 0, none⟩) 1 1, .slice (some ⟨w.heap.size + 1, 0, none⟩) 1 1]) (by first | (simp; done) | (simp; omega)) (LA.cons (n := 1) (c := 1) rfl (by decide) (by decide) (lit_at [1] (((Blk.new_at (w := w) (g := w.heap.size) (by simp) 21 #[.int .i32 1]).alloc _).alloc _) (by first | (simp; done) | (simp; omega))) (LA.cons (n := 1) (c := 1) rfl (by decide) (by decide) (lit_at [-2] ((Blk.new_at (w := (w.alloc (.cells #[.int .i32 1] 21))) (g := w.heap.size + 1) (by simp) 21 #[.int .i32 (-2)]).alloc _) (by first | (simp; done) | (simp; omega))) LA.nil))) rfl (by decide) (by decide) (by unfold I32; decide) (by decide) (by decide)).mono ?_
  rintro e w1 ⟨v, he, A1, n1, c1, rfl, hl1, hn1, hm1, hR, hb⟩
  rw [show meanE [[1], [-2]] = 0 by decide] at he
  subst he
  rw [show meanR [[1], [-2]] = [-1] by decide] at hl1 hR
  obtain rfl : 1 = n1 := hl1
  have HK1 := hide (show Below w.heap.size w w1 ∧ Rd (Sh.int .i32) w1 w1.heap.size A1 [-1] from ⟨Below.step HK.out (Below.step hb0 hb), hR.rd fun b hb => hb.2⟩)
  clear HK hR hb hb0
  have HK : Hid (Below w.heap.size w w1 ∧ Rd (Sh.int .i32) w1 w1.heap.size A1 [-1]) := HK1
  clear HK1
  go_wp2_with fail
  have hb0 := ((((Below.refl _ w1).alloc (by first | exact Nat.le_refl _ | (simp; done) | (simp; omega)) (.cells #[.int .i32 1] 21)).alloc (by first | exact Nat.le_refl _ | (simp; done) | (simp; omega)) (.cells #[] 21)).alloc (by first | exact Nat.le_refl _ | (simp; done) | (simp; omega)) (.cells #[.slice (some ⟨w1.heap.size, 0, none⟩) 1 1, .slice (some ⟨w1.heap.size + 1, 0, none⟩) 0 0] 22))
  refine (mean_any (some ⟨w1.heap.size + 1 + 1, 0, none⟩) 2 2 [[1], []] (((w1.alloc (.cells #[.int .i32 1] 21)).alloc (.cells #[] 21)).alloc (.cells #[.slice (some ⟨w1.heap.size, 0, none⟩) 1 1, .slice (some ⟨w1.heap.size + 1, 0, none⟩) 0 0] 22)) (LA.at_ (cs := [.slice (some ⟨w1.heap.size, 0, none⟩) 1 1, .slice (some ⟨w1.heap.size + 1, 0, none⟩) 0 0]) (Blk.new_at (w := ((w1.alloc (.cells #[.int .i32 1] 21)).alloc (.cells #[] 21))) (g := w1.heap.size + 1 + 1) (by simp) 22 #[.slice (some ⟨w1.heap.size, 0, none⟩) 1 1, .slice (some ⟨w1.heap.size + 1, 0, none⟩) 0 0]) (by first | (simp; done) | (simp; omega)) (LA.cons (n := 1) (c := 1) rfl (by decide) (by decide) (lit_at [1] (((Blk.new_at (w := w1) (g := w1.heap.size) (by simp) 21 #[.int .i32 1]).alloc _).alloc _) (by first | (simp; done) | (simp; omega))) (LA.cons (n := 0) (c := 0) rfl (by decide) (by decide) (lit_at [] ((Blk.new_at (w := (w1.alloc (.cells #[.int .i32 1] 21))) (g := w1.heap.size + 1) (by simp) 21 #[]).alloc _) (by first | (simp; done) | (simp; omega))) LA.nil))) rfl (by decide) (by decide) (by unfold I32; decide) (by decide) (by decide)).mono ?_
  rintro e w2 ⟨v, he, A2, n2, c2, rfl, hl2, hn2, hm2, hR, hb⟩
  rw [show meanE [[1], []] = 7 by decide] at he
  subst he
  have HK1 := hide ((stab_and (stab_below w) (stab_rd (Sh.int .i32) A1 [-1])) w1 w2 HK.out (Below.step hb0 hb))
  clear HK hR hb hb0
  have HK : Hid (Below w.heap.size w w2 ∧ Rd (Sh.int .i32) w2 w2.heap.size A1 [-1]) := HK1
  clear HK1
  go_wp2_with fail
  refine (Stab.call (K := (fun W => Below w.heap.size w W ∧ Rd (Sh.int .i32) W W.heap.size A1 [-1])) (stab_and (stab_below w) (stab_rd (Sh.int .i32) A1 [-1])) HK.out (((Below.refl _ w2).alloc (by first | exact Nat.le_refl _ | (simp; done) | (simp; omega)) (.cells #[.int .i32 1, .int .i32 2] 21)).alloc (by first | exact Nat.le_refl _ | (simp; done) | (simp; omega)) (.cells #[.int .i32 4, .int .i32 6] 21)) (.int .u64 25) (calls_same (dist_any (some ⟨w2.heap.size, 0, none⟩) (some ⟨w2.heap.size + 1, 0, none⟩) 2 2 2 2 [1, 2] [4, 6] _ (lit_at [1, 2] ((Blk.new_at (w := w2) (g := w2.heap.size) (by simp) 21 #[.int .i32 1, .int .i32 2]).alloc _) (by first | (simp; done) | (simp; omega))) rfl (by unfold I32; decide) (by decide) (by decide) (lit_at [4, 6] (Blk.new_at (w := (w2.alloc (.cells #[.int .i32 1, .int .i32 2] 21))) (g := w2.heap.size + 1) (by simp) 21 #[.int .i32 4, .int .i32 6]) (by first | (simp; done) | (simp; omega))) rfl (by unfold I32; decide) (by decide) (by decide))) (congrArg (Value.int .u64) (by decide))).mono ?_
  rintro e w3 ⟨rfl, hK⟩
  have HK' := hide hK
  clear hK HK
  have HK := HK'
  clear HK'
  go_wp2_with fail
  refine (Stab.call (K := (fun W => Below w.heap.size w W ∧ Rd (Sh.int .i32) W W.heap.size A1 [-1])) (stab_and (stab_below w) (stab_rd (Sh.int .i32) A1 [-1])) HK.out ((Below.refl _ w3).alloc (by first | exact Nat.le_refl _ | (simp; done) | (simp; omega)) (.cells #[.int .i32 3] 21)) (.int .u64 9) (calls_same (dist_any (some ⟨w3.heap.size, 0, none⟩) none 1 1 0 0 [3] [] _ (lit_at [3] (Blk.new_at (w := w3) (g := w3.heap.size) (by simp) 21 #[.int .i32 3]) (by first | (simp; done) | (simp; omega))) rfl (by unfold I32; decide) (by decide) (by decide) Rd.start rfl (by unfold I32; decide) (by decide) (by decide))) (congrArg (Value.int .u64) (by decide))).mono ?_
  rintro e w4 ⟨rfl, hK⟩
  have HK' := hide hK
  clear hK HK
  have HK := HK'
  clear HK'
  go_wp2_with fail
  refine (Stab.call (K := (fun W => Below w.heap.size w W ∧ Rd (Sh.int .i32) W W.heap.size A1 [-1])) (stab_and (stab_below w) (stab_rd (Sh.int .i32) A1 [-1])) HK.out (((Below.refl _ w4).alloc (by first | exact Nat.le_refl _ | (simp; done) | (simp; omega)) (.cells #[.int .i32 (-2147483648), .int .i32 (-2147483648)] 21)).alloc (by first | exact Nat.le_refl _ | (simp; done) | (simp; omega)) (.cells #[.int .i32 2147483647, .int .i32 2147483647] 21)) (.int .u64 18446744073709551615) (calls_same (dist_any (some ⟨w4.heap.size, 0, none⟩) (some ⟨w4.heap.size + 1, 0, none⟩) 2 2 2 2 [-2147483648, -2147483648] [2147483647, 2147483647] _ (lit_at [-2147483648, -2147483648] ((Blk.new_at (w := w4) (g := w4.heap.size) (by simp) 21 #[.int .i32 (-2147483648), .int .i32 (-2147483648)]).alloc _) (by first | (simp; done) | (simp; omega))) rfl (by unfold I32; decide) (by decide) (by decide) (lit_at [2147483647, 2147483647] (Blk.new_at (w := (w4.alloc (.cells #[.int .i32 (-2147483648), .int .i32 (-2147483648)] 21))) (g := w4.heap.size + 1) (by simp) 21 #[.int .i32 2147483647, .int .i32 2147483647]) (by first | (simp; done) | (simp; omega))) rfl (by unfold I32; decide) (by decide) (by decide))) (congrArg (Value.int .u64) (by decide))).mono ?_
  rintro e w5 ⟨rfl, hK⟩
  have HK' := hide hK
  clear hK HK
  have HK := HK'
  clear HK'
  go_wp2_with fail
  refine (Stab.call (K := (fun W => Below w.heap.size w W ∧ Rd (Sh.int .i32) W W.heap.size A1 [-1])) (stab_and (stab_below w) (stab_rd (Sh.int .i32) A1 [-1])) HK.out (((Below.refl _ w5).alloc (by first | exact Nat.le_refl _ | (simp; done) | (simp; omega)) (.cells #[.int .i32 2, .int .i32 3] 21)).alloc (by first | exact Nat.le_refl _ | (simp; done) | (simp; omega)) (.cells #[.int .i32 5, .int .i32 (-1)] 21)) (.int .i64 7) (calls_drew (dot_any (some ⟨w5.heap.size, 0, none⟩) (some ⟨w5.heap.size + 1, 0, none⟩) 2 2 2 2 [2, 3] [5, -1] _ (lit_at [2, 3] ((Blk.new_at (w := w5) (g := w5.heap.size) (by simp) 21 #[.int .i32 2, .int .i32 3]).alloc _) (by first | (simp; done) | (simp; omega))) rfl (by unfold I32; decide) (by decide) (by decide) (lit_at [5, -1] (Blk.new_at (w := (w5.alloc (.cells #[.int .i32 2, .int .i32 3] 21))) (g := w5.heap.size + 1) (by simp) 21 #[.int .i32 5, .int .i32 (-1)]) (by first | (simp; done) | (simp; omega))) rfl (by unfold I32; decide) (by decide) (by decide))) (congrArg (Value.int .i64) (by decide))).mono ?_
  rintro e w6 ⟨rfl, hK⟩
  have HK' := hide hK
  clear hK HK
  have HK := HK'
  clear HK'
  go_wp2_with fail
  refine (Stab.call (K := (fun W => Below w.heap.size w W ∧ Rd (Sh.int .i32) W W.heap.size A1 [-1])) (stab_and (stab_below w) (stab_rd (Sh.int .i32) A1 [-1])) HK.out ((Below.refl _ w6).alloc (by first | exact Nat.le_refl _ | (simp; done) | (simp; omega)) (.cells #[.int .i32 (-1)] 21)) (.bool true) (calls_drew (same_any A1 (some ⟨w6.heap.size, 0, none⟩) 1 c1 1 1 [-1] [-1] _ (((stab_rd (Sh.int .i32) A1 [-1]) w6 _ HK.out.2 ((Below.refl _ w6).alloc (by first | exact Nat.le_refl _ | (simp; done) | (simp; omega)) (.cells #[.int .i32 (-1)] 21)))) rfl hn1 hm1 (lit_at [-1] (Blk.new_at (w := w6) (g := w6.heap.size) (by simp) 21 #[.int .i32 (-1)]) (by first | (simp; done) | (simp; omega))) rfl (by decide) (by decide))) (congrArg Value.bool (by decide))).mono ?_
  rintro e w7 ⟨rfl, hK⟩
  have HK' := hide hK
  clear hK HK
  have HK := HK'
  clear HK'
  go_wp2_with fail
  refine (Stab.call (K := (fun W => Below w.heap.size w W ∧ Rd (Sh.int .i32) W W.heap.size A1 [-1])) (stab_and (stab_below w) (stab_rd (Sh.int .i32) A1 [-1])) HK.out ((Below.refl _ w7).alloc (by first | exact Nat.le_refl _ | (simp; done) | (simp; omega)) (.cells #[.int .i32 16777216] 21)) (.int .i64 0) (calls_same (check_any (some ⟨w7.heap.size, 0, none⟩) 1 1 [16777216] 1 _ (lit_at [16777216] (Blk.new_at (w := w7) (g := w7.heap.size) (by simp) 21 #[.int .i32 16777216]) (by first | (simp; done) | (simp; omega))) rfl (by decide) (by decide))) (congrArg (Value.int .i64) (by decide))).mono ?_
  rintro e w8 ⟨rfl, hK⟩
  have HK' := hide hK
  clear hK HK
  have HK := HK'
  clear HK'
  go_wp2_with fail
  refine (Stab.call (K := (fun W => Below w.heap.size w W ∧ Rd (Sh.int .i32) W W.heap.size A1 [-1])) (stab_and (stab_below w) (stab_rd (Sh.int .i32) A1 [-1])) HK.out ((Below.refl _ w8).alloc (by first | exact Nat.le_refl _ | (simp; done) | (simp; omega)) (.cells #[.int .i32 16777217] 21)) (.int .i64 1) (calls_same (check_any (some ⟨w8.heap.size, 0, none⟩) 1 1 [16777217] 1 _ (lit_at [16777217] (Blk.new_at (w := w8) (g := w8.heap.size) (by simp) 21 #[.int .i32 16777217]) (by first | (simp; done) | (simp; omega))) rfl (by decide) (by decide))) (congrArg (Value.int .i64) (by decide))).mono ?_
  rintro e w9 ⟨rfl, hK⟩
  have HK' := hide hK
  clear hK HK
  have HK := HK'
  clear HK'
  go_wp2_with fail
  refine (Stab.call (K := (fun W => Below w.heap.size w W ∧ Rd (Sh.int .i32) W W.heap.size A1 [-1])) (stab_and (stab_below w) (stab_rd (Sh.int .i32) A1 [-1])) HK.out (Below.refl _ w9) (.int .i64 1) (calls_same (check_any none 0 0 [] 0 _ Rd.start rfl (by decide) (by decide))) (congrArg (Value.int .i64) (by decide))).mono ?_
  rintro e w10 ⟨rfl, hK⟩
  have HK' := hide hK
  clear hK HK
  have HK := HK'
  clear HK'
  go_wp2_with fail
  refine (Stab.call (K := (fun W => Below w.heap.size w W ∧ Rd (Sh.int .i32) W W.heap.size A1 [-1])) (stab_and (stab_below w) (stab_rd (Sh.int .i32) A1 [-1])) HK.out (((Below.refl _ w10).alloc (by first | exact Nat.le_refl _ | (simp; done) | (simp; omega)) (.cells #[.int .i32 1] 21)).alloc (by first | exact Nat.le_refl _ | (simp; done) | (simp; omega)) (.cells #[.int .i32 1, .int .i32 0] 21)) (.bool true) (calls_same (less_any (some ⟨w10.heap.size, 0, none⟩) (some ⟨w10.heap.size + 1, 0, none⟩) 1 1 2 2 [1] [1, 0] _ (lit_at [1] ((Blk.new_at (w := w10) (g := w10.heap.size) (by simp) 21 #[.int .i32 1]).alloc _) (by first | (simp; done) | (simp; omega))) rfl (by decide) (by decide) (lit_at [1, 0] (Blk.new_at (w := (w10.alloc (.cells #[.int .i32 1] 21))) (g := w10.heap.size + 1) (by simp) 21 #[.int .i32 1, .int .i32 0]) (by first | (simp; done) | (simp; omega))) rfl (by decide) (by decide))) (congrArg Value.bool (by decide))).mono ?_
  rintro e w11 ⟨rfl, hK⟩
  have HK' := hide hK
  clear hK HK
  have HK := HK'
  clear HK'
  go_wp2_with fail
  refine (Stab.call (K := (fun W => Below w.heap.size w W ∧ Rd (Sh.int .i32) W W.heap.size A1 [-1])) (stab_and (stab_below w) (stab_rd (Sh.int .i32) A1 [-1])) HK.out (((Below.refl _ w11).alloc (by first | exact Nat.le_refl _ | (simp; done) | (simp; omega)) (.cells #[.int .i32 2] 21)).alloc (by first | exact Nat.le_refl _ | (simp; done) | (simp; omega)) (.cells #[.int .i32 1, .int .i32 0] 21)) (.bool false) (calls_same (less_any (some ⟨w11.heap.size, 0, none⟩) (some ⟨w11.heap.size + 1, 0, none⟩) 1 1 2 2 [2] [1, 0] _ (lit_at [2] ((Blk.new_at (w := w11) (g := w11.heap.size) (by simp) 21 #[.int .i32 2]).alloc _) (by first | (simp; done) | (simp; omega))) rfl (by decide) (by decide) (lit_at [1, 0] (Blk.new_at (w := (w11.alloc (.cells #[.int .i32 2] 21))) (g := w11.heap.size + 1) (by simp) 21 #[.int .i32 1, .int .i32 0]) (by first | (simp; done) | (simp; omega))) rfl (by decide) (by decide))) (congrArg Value.bool (by decide))).mono ?_
  rintro e w12 ⟨rfl, hK⟩
  have HK' := hide hK
  clear hK HK
  have HK := HK'
  clear HK'
  go_wp2_with fail
  go_ret
  exact ⟨rfl, HK.out.1⟩
end Go.Proofs.Ytodlbbcgplhihaa
