/-
  The law's own probes of a delete (lives). No condition.
-/
import Derived.Test.YtojanklgjdjniabErI
namespace Go.Proofs.Ytojanklgjdjniab
open Go.RowKit

theorem gb_below {a w w' : World} {g : Nat} (h : Below a.heap.size a w) (hb : w.grownBy w' (some g)) (hg : a.heap.size ≤ g) : Below a.heap.size a w' :=
  ⟨hb.os.trans h.os, hb.tape.trans h.tape, hb.output.trans h.output, Nat.le_trans h.size hb.size, fun i hi => (hb.block i (Nat.lt_of_lt_of_le hi h.size) (by simp; omega)).trans (h.block i hi)⟩
set_option maxHeartbeats 4000000 in
set_option maxRecDepth 100000 in
theorem lives_any (w : World) : Calls Try.prog 5 #[] w fun e w' => e = .returned (.bool true) ∧ Below w.heap.size w w' := by
  go_enter Try.func5, Try.ntmps5
  go_wp2_with fail
  refine (new_any 2 4 none 0 0 0 0 0 0 1 [] w RdR.nil rfl (by omega)).mono ?_
  rintro e w1 ⟨g1, A1, c1, rfl, hg, hT, -, -, -, hb⟩
  have HB := hide hb
  have hT2 : Blk w1 g1 56 (tskC 2 4 A1 0 c1 0 0 0 0 1 TS.a) := hT
  have HT1 := hide hT2
  have HST1 := hide (show w.heap.size ≤ g1 from Nat.le_trans (Nat.le_refl _) hg)
  clear hT hT2 hb hg
  go_wp2_with fail
  refine (new_any 2 0 none 0 0 0 0 0 0 1 [] w1 RdR.nil rfl (by omega)).mono ?_
  rintro e w2 ⟨g2, A2, c2, rfl, hg, hT, -, -, -, hb⟩
  have HB0 := hide HB.out.size
  have nT1T2 : g1 ≠ g2 := by have := HT1.out.lt; omega
  have HT1x := hide (HT1.out.below hb HT1.out.lt)
  clear HT1
  have HT1 := HT1x
  clear HT1x
  have HBx := hide (Below.step HB.out hb)
  clear HB
  have HB := HBx
  clear HBx
  have hT2 : Blk w2 g2 56 (tskC 2 0 A2 0 c2 0 0 0 0 1 TS.a) := hT
  have HT2 := hide hT2
  have HST2 := hide (show w.heap.size ≤ g2 from Nat.le_trans HB0.out hg)
  clear hT hT2 hb hg
  have hN : Calls Try.prog 9 #[.pointer (some ⟨g1, 0, none⟩), .agg #[.bool false, .int .i64 0, .int .i64 0, .slice none 0 0, .int .u64 0, .slice none 0 0, .int .u64 0]] w2 fun e w' => e = .returned (.tuple #[.agg #[.int .i64 1, .int .i64 0, .int .i64 0, .int .i64 0, .int .i64 0, .int .u64 0, .slice none 0 0, .int .u64 0, .slice none 0 0, .int .u64 0], .bool true]) ∧ Blk w' g1 56 (tskC 2 4 A1 0 c1 0 0 0 0 1 TS.b) ∧ w2.grownBy w' (some g1) := next_any 2 4 A1 0 c1 0 0 0 0 1 false 0 0 none 0 0 0 none 0 0 0 (TS.a) g1 w2 HT1.out
  have HN := hide hN
  clear hN
  go_wp2_with fail
  refine HN.out.mono ?_
  clear HN
  rintro e w3 ⟨rfl, hT, hb⟩
  clear HT1
  have HT1 := hide hT
  clear hT
  have HT2x := hide (HT2.out.grown hb (by simp; first | exact nT2T1 | exact Ne.symm nT1T2))
  clear HT2
  have HT2 := HT2x
  clear HT2x
  have HBx := hide (gb_below HB.out hb (by have := HST1.out; omega))
  clear HB hb
  have HB := HBx
  clear HBx
  go_upto_region 5 with fail
  have nT1p3 : g1 ≠ w3.heap.size := by have := HT1.out.lt; omega
  have nT2p3 : g2 ≠ w3.heap.size := by have := HT2.out.lt; omega
  have HT1x := hide (HT1.out.alloc (.cells #[.int .i64 1, .int .i64 0, .int .i64 0, .int .i64 0, .int .i64 0, .int .u64 0, .slice none 0 0, .int .u64 0, .slice none 0 0, .int .u64 0] 44))
  clear HT1
  have HT1 := HT1x
  clear HT1x
  have HT2x := hide (HT2.out.alloc (.cells #[.int .i64 1, .int .i64 0, .int .i64 0, .int .i64 0, .int .i64 0, .int .u64 0, .slice none 0 0, .int .u64 0, .slice none 0 0, .int .u64 0] 44))
  clear HT2
  have HT2 := HT2x
  clear HT2x
  have Hp3 := hide (Blk.new w3 44 #[.int .i64 1, .int .i64 0, .int .i64 0, .int .i64 0, .int .i64 0, .int .u64 0, .slice none 0 0, .int .u64 0, .slice none 0 0, .int .u64 0])
  have HBx := hide (Below.alloc HB.out HB.out.size (.cells #[.int .i64 1, .int .i64 0, .int .i64 0, .int .i64 0, .int .i64 0, .int .u64 0, .slice none 0 0, .int .u64 0, .slice none 0 0, .int .u64 0] 44))
  clear HB
  have HB := HBx
  clear HBx
  generalize w3.alloc (.cells #[.int .i64 1, .int .i64 0, .int .i64 0, .int .i64 0, .int .i64 0, .int .u64 0, .slice none 0 0, .int .u64 0, .slice none 0 0, .int .u64 0] 44) = w4 at *
  generalize w3.heap.size = p3 at *
  have hN : Calls Try.prog 9 #[.pointer (some ⟨g1, 0, none⟩), .agg #[.bool false, .int .i64 0, .int .i64 0, .slice none 0 0, .int .u64 0, .slice none 0 0, .int .u64 0]] w4 fun e w' => e = .returned (.tuple #[.agg #[.int .i64 17, .int .i64 0, .int .i64 0, .int .i64 0, .int .i64 0, .int .u64 4, .slice none 0 0, .int .u64 0, .slice none 0 0, .int .u64 0], .bool true]) ∧ Blk w' g1 56 (tskC 2 4 A1 0 c1 0 0 0 0 1 TS.c) ∧ w4.grownBy w' (some g1) := next_any 2 4 A1 0 c1 0 0 0 0 1 false 0 0 none 0 0 0 none 0 0 0 (TS.b) g1 w4 HT1.out
  have HN := hide hN
  clear hN
  go_wp2_with fail
  refine HN.out.mono ?_
  clear HN
  rintro e w5 ⟨rfl, hT, hb⟩
  clear HT1
  have HT1 := hide hT
  clear hT
  have HT2x := hide (HT2.out.grown hb (by simp; first | exact nT2T1 | exact Ne.symm nT1T2))
  clear HT2
  have HT2 := HT2x
  clear HT2x
  have Hp3x := hide (Hp3.out.grown hb (by simp; first | exact np3T1 | exact Ne.symm nT1p3))
  clear Hp3
  have Hp3 := Hp3x
  clear Hp3x
  have HBx := hide (gb_below HB.out hb (by have := HST1.out; omega))
  clear HB hb
  have HB := HBx
  clear HBx
  go_upto_region 6 with fail
  have nT1p5 : g1 ≠ w5.heap.size := by have := HT1.out.lt; omega
  have nT2p5 : g2 ≠ w5.heap.size := by have := HT2.out.lt; omega
  have HT1x := hide (HT1.out.alloc (.cells #[.int .i64 17, .int .i64 0, .int .i64 0, .int .i64 0, .int .i64 0, .int .u64 4, .slice none 0 0, .int .u64 0, .slice none 0 0, .int .u64 0] 44))
  clear HT1
  have HT1 := HT1x
  clear HT1x
  have HT2x := hide (HT2.out.alloc (.cells #[.int .i64 17, .int .i64 0, .int .i64 0, .int .i64 0, .int .i64 0, .int .u64 4, .slice none 0 0, .int .u64 0, .slice none 0 0, .int .u64 0] 44))
  clear HT2
  have HT2 := HT2x
  clear HT2x
  have Hp3x := hide (Hp3.out.alloc (.cells #[.int .i64 17, .int .i64 0, .int .i64 0, .int .i64 0, .int .i64 0, .int .u64 4, .slice none 0 0, .int .u64 0, .slice none 0 0, .int .u64 0] 44))
  clear Hp3
  have Hp3 := Hp3x
  clear Hp3x
  have Hp5 := hide (Blk.new w5 44 #[.int .i64 17, .int .i64 0, .int .i64 0, .int .i64 0, .int .i64 0, .int .u64 4, .slice none 0 0, .int .u64 0, .slice none 0 0, .int .u64 0])
  have HBx := hide (Below.alloc HB.out HB.out.size (.cells #[.int .i64 17, .int .i64 0, .int .i64 0, .int .i64 0, .int .i64 0, .int .u64 4, .slice none 0 0, .int .u64 0, .slice none 0 0, .int .u64 0] 44))
  clear HB
  have HB := HBx
  clear HBx
  generalize w5.alloc (.cells #[.int .i64 17, .int .i64 0, .int .i64 0, .int .i64 0, .int .i64 0, .int .u64 4, .slice none 0 0, .int .u64 0, .slice none 0 0, .int .u64 0] 44) = w6 at *
  generalize w5.heap.size = p5 at *
  have hN : Calls Try.prog 9 #[.pointer (some ⟨g1, 0, none⟩), .agg #[.bool true, .int .i64 3, .int .i64 0, .slice none 0 0, .int .u64 0, .slice none 0 0, .int .u64 0]] w6 fun e w' => e = .returned (.tuple #[.agg #[.int .i64 10, .int .i64 3, .int .i64 0, .int .i64 0, .int .i64 0, .int .u64 0, .slice none 0 0, .int .u64 0, .slice none 0 0, .int .u64 0], .bool true]) ∧ Blk w' g1 56 (tskC 2 4 A1 0 c1 0 0 0 0 1 (TS.d 3)) ∧ w6.grownBy w' (some g1) := next_any 2 4 A1 0 c1 0 0 0 0 1 true 3 0 none 0 0 0 none 0 0 0 (TS.c) g1 w6 HT1.out
  have HN := hide hN
  clear hN
  go_wp2_with fail
  refine HN.out.mono ?_
  clear HN
  rintro e w7 ⟨rfl, hT, hb⟩
  clear HT1
  have HT1 := hide hT
  clear hT
  have HT2x := hide (HT2.out.grown hb (by simp; first | exact nT2T1 | exact Ne.symm nT1T2))
  clear HT2
  have HT2 := HT2x
  clear HT2x
  have Hp3x := hide (Hp3.out.grown hb (by simp; first | exact np3T1 | exact Ne.symm nT1p3))
  clear Hp3
  have Hp3 := Hp3x
  clear Hp3x
  have Hp5x := hide (Hp5.out.grown hb (by simp; first | exact np5T1 | exact Ne.symm nT1p5))
  clear Hp5
  have Hp5 := Hp5x
  clear Hp5x
  have HBx := hide (gb_below HB.out hb (by have := HST1.out; omega))
  clear HB hb
  have HB := HBx
  clear HBx
  go_upto_region 7 with fail
  have nT1p7 : g1 ≠ w7.heap.size := by have := HT1.out.lt; omega
  have nT2p7 : g2 ≠ w7.heap.size := by have := HT2.out.lt; omega
  have HT1x := hide (HT1.out.alloc (.cells #[.int .i64 10, .int .i64 3, .int .i64 0, .int .i64 0, .int .i64 0, .int .u64 0, .slice none 0 0, .int .u64 0, .slice none 0 0, .int .u64 0] 44))
  clear HT1
  have HT1 := HT1x
  clear HT1x
  have HT2x := hide (HT2.out.alloc (.cells #[.int .i64 10, .int .i64 3, .int .i64 0, .int .i64 0, .int .i64 0, .int .u64 0, .slice none 0 0, .int .u64 0, .slice none 0 0, .int .u64 0] 44))
  clear HT2
  have HT2 := HT2x
  clear HT2x
  have Hp3x := hide (Hp3.out.alloc (.cells #[.int .i64 10, .int .i64 3, .int .i64 0, .int .i64 0, .int .i64 0, .int .u64 0, .slice none 0 0, .int .u64 0, .slice none 0 0, .int .u64 0] 44))
  clear Hp3
  have Hp3 := Hp3x
  clear Hp3x
  have Hp5x := hide (Hp5.out.alloc (.cells #[.int .i64 10, .int .i64 3, .int .i64 0, .int .i64 0, .int .i64 0, .int .u64 0, .slice none 0 0, .int .u64 0, .slice none 0 0, .int .u64 0] 44))
  clear Hp5
  have Hp5 := Hp5x
  clear Hp5x
  have Hp7 := hide (Blk.new w7 44 #[.int .i64 10, .int .i64 3, .int .i64 0, .int .i64 0, .int .i64 0, .int .u64 0, .slice none 0 0, .int .u64 0, .slice none 0 0, .int .u64 0])
  have HBx := hide (Below.alloc HB.out HB.out.size (.cells #[.int .i64 10, .int .i64 3, .int .i64 0, .int .i64 0, .int .i64 0, .int .u64 0, .slice none 0 0, .int .u64 0, .slice none 0 0, .int .u64 0] 44))
  clear HB
  have HB := HBx
  clear HBx
  generalize w7.alloc (.cells #[.int .i64 10, .int .i64 3, .int .i64 0, .int .i64 0, .int .i64 0, .int .u64 0, .slice none 0 0, .int .u64 0, .slice none 0 0, .int .u64 0] 44) = w8 at *
  generalize w7.heap.size = p7 at *
  have hN : Calls Try.prog 9 #[.pointer (some ⟨g1, 0, none⟩), .agg #[.bool true, .int .i64 0, .int .i64 0, .slice none 0 0, .int .u64 0, .slice none 0 0, .int .u64 0]] w8 fun e w' => e = .returned (.tuple #[.agg #[.int .i64 22, .int .i64 3, .int .i64 0, .int .i64 0, .int .i64 0, .int .u64 0, .slice none 0 0, .int .u64 0, .slice none 0 0, .int .u64 0], .bool true]) ∧ Blk w' g1 56 (tskC 2 4 A1 0 c1 0 0 0 0 1 (TS.e 3)) ∧ w8.grownBy w' (some g1) := next_any 2 4 A1 0 c1 0 0 0 0 1 true 0 0 none 0 0 0 none 0 0 0 ((TS.d 3)) g1 w8 HT1.out
  have HN := hide hN
  clear hN
  go_wp2_with fail
  refine HN.out.mono ?_
  clear HN
  rintro e w9 ⟨rfl, hT, hb⟩
  clear HT1
  have HT1 := hide hT
  clear hT
  have HT2x := hide (HT2.out.grown hb (by simp; first | exact nT2T1 | exact Ne.symm nT1T2))
  clear HT2
  have HT2 := HT2x
  clear HT2x
  have Hp3x := hide (Hp3.out.grown hb (by simp; first | exact np3T1 | exact Ne.symm nT1p3))
  clear Hp3
  have Hp3 := Hp3x
  clear Hp3x
  have Hp5x := hide (Hp5.out.grown hb (by simp; first | exact np5T1 | exact Ne.symm nT1p5))
  clear Hp5
  have Hp5 := Hp5x
  clear Hp5x
  have Hp7x := hide (Hp7.out.grown hb (by simp; first | exact np7T1 | exact Ne.symm nT1p7))
  clear Hp7
  have Hp7 := Hp7x
  clear Hp7x
  have HBx := hide (gb_below HB.out hb (by have := HST1.out; omega))
  clear HB hb
  have HB := HBx
  clear HBx
  go_upto_region 8 with fail
  have nT1p9 : g1 ≠ w9.heap.size := by have := HT1.out.lt; omega
  have nT2p9 : g2 ≠ w9.heap.size := by have := HT2.out.lt; omega
  have HT1x := hide (HT1.out.alloc (.cells #[.int .i64 22, .int .i64 3, .int .i64 0, .int .i64 0, .int .i64 0, .int .u64 0, .slice none 0 0, .int .u64 0, .slice none 0 0, .int .u64 0] 44))
  clear HT1
  have HT1 := HT1x
  clear HT1x
  have HT2x := hide (HT2.out.alloc (.cells #[.int .i64 22, .int .i64 3, .int .i64 0, .int .i64 0, .int .i64 0, .int .u64 0, .slice none 0 0, .int .u64 0, .slice none 0 0, .int .u64 0] 44))
  clear HT2
  have HT2 := HT2x
  clear HT2x
  have Hp3x := hide (Hp3.out.alloc (.cells #[.int .i64 22, .int .i64 3, .int .i64 0, .int .i64 0, .int .i64 0, .int .u64 0, .slice none 0 0, .int .u64 0, .slice none 0 0, .int .u64 0] 44))
  clear Hp3
  have Hp3 := Hp3x
  clear Hp3x
  have Hp5x := hide (Hp5.out.alloc (.cells #[.int .i64 22, .int .i64 3, .int .i64 0, .int .i64 0, .int .i64 0, .int .u64 0, .slice none 0 0, .int .u64 0, .slice none 0 0, .int .u64 0] 44))
  clear Hp5
  have Hp5 := Hp5x
  clear Hp5x
  have Hp7x := hide (Hp7.out.alloc (.cells #[.int .i64 22, .int .i64 3, .int .i64 0, .int .i64 0, .int .i64 0, .int .u64 0, .slice none 0 0, .int .u64 0, .slice none 0 0, .int .u64 0] 44))
  clear Hp7
  have Hp7 := Hp7x
  clear Hp7x
  have Hp9 := hide (Blk.new w9 44 #[.int .i64 22, .int .i64 3, .int .i64 0, .int .i64 0, .int .i64 0, .int .u64 0, .slice none 0 0, .int .u64 0, .slice none 0 0, .int .u64 0])
  have HBx := hide (Below.alloc HB.out HB.out.size (.cells #[.int .i64 22, .int .i64 3, .int .i64 0, .int .i64 0, .int .i64 0, .int .u64 0, .slice none 0 0, .int .u64 0, .slice none 0 0, .int .u64 0] 44))
  clear HB
  have HB := HBx
  clear HBx
  generalize w9.alloc (.cells #[.int .i64 22, .int .i64 3, .int .i64 0, .int .i64 0, .int .i64 0, .int .u64 0, .slice none 0 0, .int .u64 0, .slice none 0 0, .int .u64 0] 44) = w10 at *
  generalize w9.heap.size = p9 at *
  have hN : Calls Try.prog 9 #[.pointer (some ⟨g1, 0, none⟩), .agg #[.bool true, .int .i64 0, .int .i64 0, .slice none 0 0, .int .u64 0, .slice none 0 0, .int .u64 0]] w10 fun e w' => e = .returned (.tuple #[.agg #[.int .i64 0, .int .i64 0, .int .i64 0, .int .i64 0, .int .i64 0, .int .u64 0, .slice none 0 0, .int .u64 0, .slice none 0 0, .int .u64 0], .bool false]) ∧ Blk w' g1 56 (tskC 2 4 A1 0 c1 0 0 0 0 1 (TS.f 3 0)) ∧ w10.grownBy w' (some g1) := next_any 2 4 A1 0 c1 0 0 0 0 1 true 0 0 none 0 0 0 none 0 0 0 ((TS.e 3)) g1 w10 HT1.out
  have HN := hide hN
  clear hN
  go_wp2_with fail
  refine HN.out.mono ?_
  clear HN
  rintro e w11 ⟨rfl, hT, hb⟩
  clear HT1
  have HT1 := hide hT
  clear hT
  have HT2x := hide (HT2.out.grown hb (by simp; first | exact nT2T1 | exact Ne.symm nT1T2))
  clear HT2
  have HT2 := HT2x
  clear HT2x
  have Hp3x := hide (Hp3.out.grown hb (by simp; first | exact np3T1 | exact Ne.symm nT1p3))
  clear Hp3
  have Hp3 := Hp3x
  clear Hp3x
  have Hp5x := hide (Hp5.out.grown hb (by simp; first | exact np5T1 | exact Ne.symm nT1p5))
  clear Hp5
  have Hp5 := Hp5x
  clear Hp5x
  have Hp7x := hide (Hp7.out.grown hb (by simp; first | exact np7T1 | exact Ne.symm nT1p7))
  clear Hp7
  have Hp7 := Hp7x
  clear Hp7x
  have Hp9x := hide (Hp9.out.grown hb (by simp; first | exact np9T1 | exact Ne.symm nT1p9))
  clear Hp9
  have Hp9 := Hp9x
  clear Hp9x
  have HBx := hide (gb_below HB.out hb (by have := HST1.out; omega))
  clear HB hb
  have HB := HBx
  clear HBx
  go_upto_region 9 with fail
  have nT1q11 : g1 ≠ w11.heap.size := by have := HT1.out.lt; omega
  have nT2q11 : g2 ≠ w11.heap.size := by have := HT2.out.lt; omega
  have HT1x := hide (HT1.out.alloc (.cells #[.int .i64 0, .int .i64 0, .int .i64 0, .int .i64 0, .int .i64 0, .int .u64 0, .slice none 0 0, .int .u64 0, .slice none 0 0, .int .u64 0] 44))
  clear HT1
  have HT1 := HT1x
  clear HT1x
  have HT2x := hide (HT2.out.alloc (.cells #[.int .i64 0, .int .i64 0, .int .i64 0, .int .i64 0, .int .i64 0, .int .u64 0, .slice none 0 0, .int .u64 0, .slice none 0 0, .int .u64 0] 44))
  clear HT2
  have HT2 := HT2x
  clear HT2x
  have Hp3x := hide (Hp3.out.alloc (.cells #[.int .i64 0, .int .i64 0, .int .i64 0, .int .i64 0, .int .i64 0, .int .u64 0, .slice none 0 0, .int .u64 0, .slice none 0 0, .int .u64 0] 44))
  clear Hp3
  have Hp3 := Hp3x
  clear Hp3x
  have Hp5x := hide (Hp5.out.alloc (.cells #[.int .i64 0, .int .i64 0, .int .i64 0, .int .i64 0, .int .i64 0, .int .u64 0, .slice none 0 0, .int .u64 0, .slice none 0 0, .int .u64 0] 44))
  clear Hp5
  have Hp5 := Hp5x
  clear Hp5x
  have Hp7x := hide (Hp7.out.alloc (.cells #[.int .i64 0, .int .i64 0, .int .i64 0, .int .i64 0, .int .i64 0, .int .u64 0, .slice none 0 0, .int .u64 0, .slice none 0 0, .int .u64 0] 44))
  clear Hp7
  have Hp7 := Hp7x
  clear Hp7x
  have Hp9x := hide (Hp9.out.alloc (.cells #[.int .i64 0, .int .i64 0, .int .i64 0, .int .i64 0, .int .i64 0, .int .u64 0, .slice none 0 0, .int .u64 0, .slice none 0 0, .int .u64 0] 44))
  clear Hp9
  have Hp9 := Hp9x
  clear Hp9x
  have Hq11 := hide (Blk.new w11 44 #[.int .i64 0, .int .i64 0, .int .i64 0, .int .i64 0, .int .i64 0, .int .u64 0, .slice none 0 0, .int .u64 0, .slice none 0 0, .int .u64 0])
  have HBx := hide (Below.alloc HB.out HB.out.size (.cells #[.int .i64 0, .int .i64 0, .int .i64 0, .int .i64 0, .int .i64 0, .int .u64 0, .slice none 0 0, .int .u64 0, .slice none 0 0, .int .u64 0] 44))
  clear HB
  have HB := HBx
  clear HBx
  generalize w11.alloc (.cells #[.int .i64 0, .int .i64 0, .int .i64 0, .int .i64 0, .int .i64 0, .int .u64 0, .slice none 0 0, .int .u64 0, .slice none 0 0, .int .u64 0] 44) = w12 at *
  generalize w11.heap.size = q11 at *
  have hN : Calls Try.prog 9 #[.pointer (some ⟨g2, 0, none⟩), .agg #[.bool false, .int .i64 0, .int .i64 0, .slice none 0 0, .int .u64 0, .slice none 0 0, .int .u64 0]] w12 fun e w' => e = .returned (.tuple #[.agg #[.int .i64 1, .int .i64 0, .int .i64 0, .int .i64 0, .int .i64 0, .int .u64 0, .slice none 0 0, .int .u64 0, .slice none 0 0, .int .u64 0], .bool true]) ∧ Blk w' g2 56 (tskC 2 0 A2 0 c2 0 0 0 0 1 TS.b) ∧ w12.grownBy w' (some g2) := next_any 2 0 A2 0 c2 0 0 0 0 1 false 0 0 none 0 0 0 none 0 0 0 (TS.a) g2 w12 HT2.out
  have HN := hide hN
  clear hN
  go_wp2_with fail
  refine HN.out.mono ?_
  clear HN
  rintro e w13 ⟨rfl, hT, hb⟩
  clear HT2
  have HT2 := hide hT
  clear hT
  have HT1x := hide (HT1.out.grown hb (by simp; first | exact nT1T2 | exact Ne.symm nT2T1))
  clear HT1
  have HT1 := HT1x
  clear HT1x
  have Hp3x := hide (Hp3.out.grown hb (by simp; first | exact np3T2 | exact Ne.symm nT2p3))
  clear Hp3
  have Hp3 := Hp3x
  clear Hp3x
  have Hp5x := hide (Hp5.out.grown hb (by simp; first | exact np5T2 | exact Ne.symm nT2p5))
  clear Hp5
  have Hp5 := Hp5x
  clear Hp5x
  have Hp7x := hide (Hp7.out.grown hb (by simp; first | exact np7T2 | exact Ne.symm nT2p7))
  clear Hp7
  have Hp7 := Hp7x
  clear Hp7x
  have Hp9x := hide (Hp9.out.grown hb (by simp; first | exact np9T2 | exact Ne.symm nT2p9))
  clear Hp9
  have Hp9 := Hp9x
  clear Hp9x
  have Hq11x := hide (Hq11.out.grown hb (by simp; first | exact nq11T2 | exact Ne.symm nT2q11))
  clear Hq11
  have Hq11 := Hq11x
  clear Hq11x
  have HBx := hide (gb_below HB.out hb (by have := HST2.out; omega))
  clear HB hb
  have HB := HBx
  clear HBx
  have hN : Calls Try.prog 9 #[.pointer (some ⟨g2, 0, none⟩), .agg #[.bool false, .int .i64 0, .int .i64 0, .slice none 0 0, .int .u64 0, .slice none 0 0, .int .u64 0]] w13 fun e w' => e = .returned (.tuple #[.agg #[.int .i64 17, .int .i64 0, .int .i64 0, .int .i64 0, .int .i64 0, .int .u64 0, .slice none 0 0, .int .u64 0, .slice none 0 0, .int .u64 0], .bool true]) ∧ Blk w' g2 56 (tskC 2 0 A2 0 c2 0 0 0 0 1 TS.c) ∧ w13.grownBy w' (some g2) := next_any 2 0 A2 0 c2 0 0 0 0 1 false 0 0 none 0 0 0 none 0 0 0 (TS.b) g2 w13 HT2.out
  have HN := hide hN
  clear hN
  go_wp2_with fail
  refine HN.out.mono ?_
  clear HN
  rintro e w14 ⟨rfl, hT, hb⟩
  clear HT2
  have HT2 := hide hT
  clear hT
  have HT1x := hide (HT1.out.grown hb (by simp; first | exact nT1T2 | exact Ne.symm nT2T1))
  clear HT1
  have HT1 := HT1x
  clear HT1x
  have Hp3x := hide (Hp3.out.grown hb (by simp; first | exact np3T2 | exact Ne.symm nT2p3))
  clear Hp3
  have Hp3 := Hp3x
  clear Hp3x
  have Hp5x := hide (Hp5.out.grown hb (by simp; first | exact np5T2 | exact Ne.symm nT2p5))
  clear Hp5
  have Hp5 := Hp5x
  clear Hp5x
  have Hp7x := hide (Hp7.out.grown hb (by simp; first | exact np7T2 | exact Ne.symm nT2p7))
  clear Hp7
  have Hp7 := Hp7x
  clear Hp7x
  have Hp9x := hide (Hp9.out.grown hb (by simp; first | exact np9T2 | exact Ne.symm nT2p9))
  clear Hp9
  have Hp9 := Hp9x
  clear Hp9x
  have Hq11x := hide (Hq11.out.grown hb (by simp; first | exact nq11T2 | exact Ne.symm nT2q11))
  clear Hq11
  have Hq11 := Hq11x
  clear Hq11x
  have HBx := hide (gb_below HB.out hb (by have := HST2.out; omega))
  clear HB hb
  have HB := HBx
  clear HBx
  have hN : Calls Try.prog 9 #[.pointer (some ⟨g2, 0, none⟩), .agg #[.bool false, .int .i64 0, .int .i64 0, .slice none 0 0, .int .u64 0, .slice none 0 0, .int .u64 0]] w14 fun e w' => e = .returned (.tuple #[.agg #[.int .i64 0, .int .i64 0, .int .i64 0, .int .i64 0, .int .i64 0, .int .u64 0, .slice none 0 0, .int .u64 0, .slice none 0 0, .int .u64 0], .bool false]) ∧ Blk w' g2 56 (tskC 2 0 A2 0 c2 0 0 0 0 1 (TS.f 0 3)) ∧ w14.grownBy w' (some g2) := next_any 2 0 A2 0 c2 0 0 0 0 1 false 0 0 none 0 0 0 none 0 0 0 (TS.c) g2 w14 HT2.out
  have HN := hide hN
  clear hN
  go_wp2_with fail
  refine HN.out.mono ?_
  clear HN
  rintro e w15 ⟨rfl, hT, hb⟩
  clear HT2
  have HT2 := hide hT
  clear hT
  have HT1x := hide (HT1.out.grown hb (by simp; first | exact nT1T2 | exact Ne.symm nT2T1))
  clear HT1
  have HT1 := HT1x
  clear HT1x
  have Hp3x := hide (Hp3.out.grown hb (by simp; first | exact np3T2 | exact Ne.symm nT2p3))
  clear Hp3
  have Hp3 := Hp3x
  clear Hp3x
  have Hp5x := hide (Hp5.out.grown hb (by simp; first | exact np5T2 | exact Ne.symm nT2p5))
  clear Hp5
  have Hp5 := Hp5x
  clear Hp5x
  have Hp7x := hide (Hp7.out.grown hb (by simp; first | exact np7T2 | exact Ne.symm nT2p7))
  clear Hp7
  have Hp7 := Hp7x
  clear Hp7x
  have Hp9x := hide (Hp9.out.grown hb (by simp; first | exact np9T2 | exact Ne.symm nT2p9))
  clear Hp9
  have Hp9 := Hp9x
  clear Hp9x
  have Hq11x := hide (Hq11.out.grown hb (by simp; first | exact nq11T2 | exact Ne.symm nT2q11))
  clear Hq11
  have Hq11 := Hq11x
  clear Hq11x
  have HBx := hide (gb_below HB.out hb (by have := HST2.out; omega))
  clear HB hb
  have HB := HBx
  clear HBx
  go_upto_region 12 with fail
  have nT1q13 : g1 ≠ w15.heap.size := by have := HT1.out.lt; omega
  have nT2q13 : g2 ≠ w15.heap.size := by have := HT2.out.lt; omega
  have HT1x := hide (HT1.out.alloc (.cells #[.int .i64 0, .int .i64 0, .int .i64 0, .int .i64 0, .int .i64 0, .int .u64 0, .slice none 0 0, .int .u64 0, .slice none 0 0, .int .u64 0] 44))
  clear HT1
  have HT1 := HT1x
  clear HT1x
  have HT2x := hide (HT2.out.alloc (.cells #[.int .i64 0, .int .i64 0, .int .i64 0, .int .i64 0, .int .i64 0, .int .u64 0, .slice none 0 0, .int .u64 0, .slice none 0 0, .int .u64 0] 44))
  clear HT2
  have HT2 := HT2x
  clear HT2x
  have Hp3x := hide (Hp3.out.alloc (.cells #[.int .i64 0, .int .i64 0, .int .i64 0, .int .i64 0, .int .i64 0, .int .u64 0, .slice none 0 0, .int .u64 0, .slice none 0 0, .int .u64 0] 44))
  clear Hp3
  have Hp3 := Hp3x
  clear Hp3x
  have Hp5x := hide (Hp5.out.alloc (.cells #[.int .i64 0, .int .i64 0, .int .i64 0, .int .i64 0, .int .i64 0, .int .u64 0, .slice none 0 0, .int .u64 0, .slice none 0 0, .int .u64 0] 44))
  clear Hp5
  have Hp5 := Hp5x
  clear Hp5x
  have Hp7x := hide (Hp7.out.alloc (.cells #[.int .i64 0, .int .i64 0, .int .i64 0, .int .i64 0, .int .i64 0, .int .u64 0, .slice none 0 0, .int .u64 0, .slice none 0 0, .int .u64 0] 44))
  clear Hp7
  have Hp7 := Hp7x
  clear Hp7x
  have Hp9x := hide (Hp9.out.alloc (.cells #[.int .i64 0, .int .i64 0, .int .i64 0, .int .i64 0, .int .i64 0, .int .u64 0, .slice none 0 0, .int .u64 0, .slice none 0 0, .int .u64 0] 44))
  clear Hp9
  have Hp9 := Hp9x
  clear Hp9x
  have Hq11x := hide (Hq11.out.alloc (.cells #[.int .i64 0, .int .i64 0, .int .i64 0, .int .i64 0, .int .i64 0, .int .u64 0, .slice none 0 0, .int .u64 0, .slice none 0 0, .int .u64 0] 44))
  clear Hq11
  have Hq11 := Hq11x
  clear Hq11x
  have Hq13 := hide (Blk.new w15 44 #[.int .i64 0, .int .i64 0, .int .i64 0, .int .i64 0, .int .i64 0, .int .u64 0, .slice none 0 0, .int .u64 0, .slice none 0 0, .int .u64 0])
  have HBx := hide (Below.alloc HB.out HB.out.size (.cells #[.int .i64 0, .int .i64 0, .int .i64 0, .int .i64 0, .int .i64 0, .int .u64 0, .slice none 0 0, .int .u64 0, .slice none 0 0, .int .u64 0] 44))
  clear HB
  have HB := HBx
  clear HBx
  generalize w15.alloc (.cells #[.int .i64 0, .int .i64 0, .int .i64 0, .int .i64 0, .int .i64 0, .int .u64 0, .slice none 0 0, .int .u64 0, .slice none 0 0, .int .u64 0] 44) = w16 at *
  generalize w15.heap.size = q13 at *
  have F := hide (nextNil false 0 0 none 0 0 0 none 0 0 0 w16)
  unfold gotC opC at F
  go_wp2_with fail
  refine F.out.mono ?_
  rintro e w17 ⟨rfl, hb⟩
  clear F
  have HT1x := hide (HT1.out.below hb HT1.out.lt)
  clear HT1
  have HT1 := HT1x
  clear HT1x
  have HT2x := hide (HT2.out.below hb HT2.out.lt)
  clear HT2
  have HT2 := HT2x
  clear HT2x
  have Hp3x := hide (Hp3.out.below hb Hp3.out.lt)
  clear Hp3
  have Hp3 := Hp3x
  clear Hp3x
  have Hp5x := hide (Hp5.out.below hb Hp5.out.lt)
  clear Hp5
  have Hp5 := Hp5x
  clear Hp5x
  have Hp7x := hide (Hp7.out.below hb Hp7.out.lt)
  clear Hp7
  have Hp7 := Hp7x
  clear Hp7x
  have Hp9x := hide (Hp9.out.below hb Hp9.out.lt)
  clear Hp9
  have Hp9 := Hp9x
  clear Hp9x
  have Hq11x := hide (Hq11.out.below hb Hq11.out.lt)
  clear Hq11
  have Hq11 := Hq11x
  clear Hq11x
  have Hq13x := hide (Hq13.out.below hb Hq13.out.lt)
  clear Hq13
  have Hq13 := Hq13x
  clear Hq13x
  have HBx := hide (Below.step HB.out hb)
  clear HB hb
  have HB := HBx
  clear HBx
  have zp30 : w17.cell? ⟨p3, 0, none⟩ = some (.int .i64 1) := Hp3.out.cell 0
  have lp3 : p3 < w17.heap.size := Hp3.out.lt
  have zp50 : w17.cell? ⟨p5, 0, none⟩ = some (.int .i64 17) := Hp5.out.cell 0
  have zp55 : w17.cell? ⟨p5, 5, none⟩ = some (.int .u64 4) := Hp5.out.cell 5
  have lp5 : p5 < w17.heap.size := Hp5.out.lt
  have zp70 : w17.cell? ⟨p7, 0, none⟩ = some (.int .i64 10) := Hp7.out.cell 0
  have zp71 : w17.cell? ⟨p7, 1, none⟩ = some (.int .i64 3) := Hp7.out.cell 1
  have lp7 : p7 < w17.heap.size := Hp7.out.lt
  have zp90 : w17.cell? ⟨p9, 0, none⟩ = some (.int .i64 22) := Hp9.out.cell 0
  have zp91 : w17.cell? ⟨p9, 1, none⟩ = some (.int .i64 3) := Hp9.out.cell 1
  have lp9 : p9 < w17.heap.size := Hp9.out.lt
  have HT1a := hide (HT1.out.alloc (.cells #[.int .i64 0, .int .i64 0, .int .i64 0, .int .i64 0, .int .i64 0, .int .u64 0, .slice none 0 0, .int .u64 0, .slice none 0 0, .int .u64 0] 44))
  have HT2a := hide (HT2.out.alloc (.cells #[.int .i64 0, .int .i64 0, .int .i64 0, .int .i64 0, .int .i64 0, .int .u64 0, .slice none 0 0, .int .u64 0, .slice none 0 0, .int .u64 0] 44))
  have HBa := hide (Below.alloc HB.out HB.out.size (.cells #[.int .i64 0, .int .i64 0, .int .i64 0, .int .i64 0, .int .i64 0, .int .u64 0, .slice none 0 0, .int .u64 0, .slice none 0 0, .int .u64 0] 44))
  have M1 := hide (marks_any 2 4 A1 0 c1 0 0 0 0 1 3 4 1 0 g1 _ HT1a.out)
  have D1 := hide (told_any 2 4 A1 0 c1 0 0 0 0 1 3 4 1 0 g1 _ HT1a.out)
  have D2 := hide (fun W (h : Blk W g2 56 (tskC 2 0 A2 0 c2 0 0 0 0 1 (TS.f 0 3))) => told_any 2 0 A2 0 c2 0 0 0 0 1 0 4 1 3 g2 W h)
  unfold toldC at D1 D2
  have Q1 : ∀ W : World, (Instr.field 37 (.agg #[.int .i64 0, .int .i64 2, .int .u64 4, .slice A1 0 c1, .int .u64 0, .int .i64 0, .int .i64 0, .int .u64 0, .int .i64 0, .int .u64 0, .slice none 0 0, .int .u64 0, .slice none 0 0, .int .i64 0, .int .i64 0, .slice none 0 0, .int .i64 0]) 2).run Try.prog W = .ok (.int .i64 0) W := fun W => by kernel_rfl
  have Q2 : ∀ W : World, (Instr.field 37 (.agg #[.int .i64 0, .int .i64 2, .int .u64 0, .slice A2 0 c2, .int .u64 0, .int .i64 0, .int .i64 0, .int .u64 0, .int .i64 3, .int .u64 0, .slice none 0 0, .int .u64 0, .slice none 0 0, .int .i64 0, .int .i64 0, .slice none 0 0, .int .i64 0]) 2).run Try.prog W = .ok (.int .i64 3) W := fun W => by kernel_rfl
  go_wp2_with (first
    | (go_at_call 11; first | (with_reducible refine Calls.mono M1.out ?_; rintro e w30 ⟨rfl, rfl⟩) | (with_reducible refine Calls.mono (marksNil _) ?_; rintro e w33 ⟨rfl, rfl⟩))
    | (go_at_call 13; first | (with_reducible refine Calls.mono D1.out ?_; rintro e w31 ⟨rfl, hb⟩; have HBb := hide (HBa.out.trans (hb.mono HBa.out.size)); have HT2b := hide (HT2a.out.below hb HT2a.out.lt); clear hb) | (with_reducible refine Calls.mono (D2.out _ HT2b.out) ?_; rintro e w32 ⟨rfl, hb⟩; have HBc := hide (HBb.out.trans (hb.mono HBb.out.size)); clear hb)))
  go_ret
  exact ⟨rfl, HBc.out⟩

end Go.Proofs.Ytojanklgjdjniab
