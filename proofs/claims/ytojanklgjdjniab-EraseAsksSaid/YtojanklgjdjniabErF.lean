/-
  The task of a delete: Next, behind the opening and the drop. Conditions: the task lies in a block.
-/
import Derived.Test.YtojanklgjdjniabErE
namespace Go.Proofs.Ytojanklgjdjniab
open Go.RowKit

set_option maxHeartbeats 4000000 in
theorem next_c0 (k id : Int) (A : Option Addr) (n c : Nat) (tg kk ef dr : Int) (dim : Int)  (gn gm : Int) (LA : Option Addr) (ln lc : Nat) (gi : Int) (VA : Option Addr) (vn vc : Nat) (gt : Int) (g : Nat) (w : World) (h : Blk w g 56 (tskC k id A n c tg kk ef dr dim .c)) :
    Calls Try.prog 9 #[.pointer (some ⟨g, 0, none⟩), .agg (gotC false gn gm LA ln lc gi VA vn vc gt)] w fun e w' => e = .returned (.tuple #[.agg (opV (TS.op .c false gn id)), .bool (TS.on .c false)]) ∧ Blk w' g 56 (tskC k id A n c tg kk ef dr dim (TS.next .c false gn)) ∧ w.grownBy w' (some g) := by
  have hgl := h.lt
  have HG1 := hide ((show Blk w g 56 #[.int .i64 k, .int .u64 id, .slice A n c, .int .u64 tg, .int .i64 kk, .int .i64 ef, .int .u64 dr, .int .i64 dim, .int .i64 0, .int .i64 2, .int .i64 0, .int .i64 0, .int .i64 k, .int .u64 id, .slice A n c, .int .u64 tg, .int .i64 kk, .int .i64 ef, .int .u64 dr, .int .i64 0, .int .u64 0, .slice none 0 0, .int .u64 0, .slice none 0 0, .int .i64 0, .int .i64 0, .slice none 0 0, .int .i64 0] from h).alloc (.cells #[.bool false, .int .i64 gn, .int .i64 gm, .slice LA ln lc, .int .u64 gi, .slice VA vn vc, .int .u64 gt] 42) |>.alloc (.cells #[.int .i64 0, .int .i64 0, .int .i64 0, .int .i64 0, .int .i64 0, .int .u64 0, .slice none 0 0, .int .u64 0, .slice none 0 0, .int .u64 0] 44))
  have HGot := hide ((Blk.new w 42 #[.bool false, .int .i64 gn, .int .i64 gm, .slice LA ln lc, .int .u64 gi, .slice VA vn vc, .int .u64 gt]).alloc (.cells #[.int .i64 0, .int .i64 0, .int .i64 0, .int .i64 0, .int .i64 0, .int .u64 0, .slice none 0 0, .int .u64 0, .slice none 0 0, .int .u64 0] 44))
  have HO1 := hide (Blk.new_at (w := w.alloc (.cells #[.bool false, .int .i64 gn, .int .i64 gm, .slice LA ln lc, .int .u64 gi, .slice VA vn vc, .int .u64 gt] 42)) (g := w.heap.size + 1) (by simp) 44 #[.int .i64 0, .int .i64 0, .int .i64 0, .int .i64 0, .int .i64 0, .int .u64 0, .slice none 0 0, .int .u64 0, .slice none 0 0, .int .u64 0])
  have HB1 := hide (only_of_below (below2 w (.cells #[.bool false, .int .i64 gn, .int .i64 gm, .slice LA ln lc, .int .u64 gi, .slice VA vn vc, .int .u64 gt] 42) (.cells #[.int .i64 0, .int .i64 0, .int .i64 0, .int .i64 0, .int .i64 0, .int .u64 0, .slice none 0 0, .int .u64 0, .slice none 0 0, .int .u64 0] 44)) (some g))
  have HS1 := hide (show ((w.alloc (.cells #[.bool false, .int .i64 gn, .int .i64 gm, .slice LA ln lc, .int .u64 gi, .slice VA vn vc, .int .u64 gt] 42)).alloc (.cells #[.int .i64 0, .int .i64 0, .int .i64 0, .int .i64 0, .int .i64 0, .int .u64 0, .slice none 0 0, .int .u64 0, .slice none 0 0, .int .u64 0] 44)).heap.size = w.heap.size + 1 + 1 by simp)
  clear h
  unfold gotC
  go_enter Try.func9, Try.ntmps9
  go_upto_region 1 with fail
  generalize (w.alloc (.cells #[.bool false, .int .i64 gn, .int .i64 gm, .slice LA ln lc, .int .u64 gi, .slice VA vn vc, .int .u64 gt] 42)).alloc (.cells #[.int .i64 0, .int .i64 0, .int .i64 0, .int .i64 0, .int .i64 0, .int .u64 0, .slice none 0 0, .int .u64 0, .slice none 0 0, .int .u64 0] 44) = w1 at *
  have f9 := HG1.out.frozen 9
  have z9 : w1.cell? ⟨g, 9, none⟩ = some (.int .i64 2) := HG1.out.cell 9
  go_upto_region 5 with fail
  have HG2 := hide (show Blk (w1.setCell ⟨g, 9, none⟩ (.int .i64 3)) g 56 #[.int .i64 k, .int .u64 id, .slice A n c, .int .u64 tg, .int .i64 kk, .int .i64 ef, .int .u64 dr, .int .i64 dim, .int .i64 0, .int .i64 3, .int .i64 0, .int .i64 0, .int .i64 k, .int .u64 id, .slice A n c, .int .u64 tg, .int .i64 kk, .int .i64 ef, .int .u64 dr, .int .i64 0, .int .u64 0, .slice none 0 0, .int .u64 0, .slice none 0 0, .int .i64 0, .int .i64 0, .slice none 0 0, .int .i64 0] from HG1.out.set_ 9 _)
  have HGot2 := hide (HGot.out.far (p := ⟨g, 9, none⟩) (by simp only; omega) (.int .i64 3))
  have HO2 := hide (HO1.out.far (p := ⟨g, 9, none⟩) (by simp only; omega) (.int .i64 3))
  have HB2 := hide (gb_set HB1.out 9 (.int .i64 3))
  have HS2 := hide (show (w1.setCell ⟨g, 9, none⟩ (.int .i64 3)).heap.size = w.heap.size + 1 + 1 by simpa using HS1.out)
  generalize w1.setCell ⟨g, 9, none⟩ (.int .i64 3) = w2 at *
  clear f9 z9
  have y0 : w2.cell? ⟨w.heap.size, 0, none⟩ = some (.bool false) := HGot2.out.cell 0
  have E1 := hide (end1_any k id A n c tg kk ef dr dim 0 3 3 g w2 (by decide) HG2.out)
  go_wp2_with (first
    | (go_at_call 17; refine E1.out.mono ?_; rintro e w5 ⟨rfl, hg5, hb5⟩; have HG5 := hide hg5; have HO5 := hide (HO2.out.grown hb5 (by simp; omega)); have HGot5 := hide (HGot2.out.grown hb5 (by simp; omega)); have HB5 := hide (gb_trans HB2.out hb5); clear hg5 hb5)
    | (refine wpList_store_row rfl 44 (.tmp 4) (.tmp 62) rfl (w.heap.size + 1) rfl 44 _ (opC 0 0 0) rfl HO5.out infoOp rfl (opC_one ..) ?_))
  refine bodyPost_ret (op_cell rfl _ _ (w.heap.size + 1) (opC 0 0 0) rfl rfl (HO5.out.setRow _)) rfl ⟨rfl, HG5.out.setRow_far (by omega) _, gb_setRow HB5.out (by omega) _⟩
set_option maxHeartbeats 4000000 in
theorem next_c1 (k id : Int) (A : Option Addr) (n c : Nat) (tg kk ef dr : Int) (dim : Int)  (gn gm : Int) (LA : Option Addr) (ln lc : Nat) (gi : Int) (VA : Option Addr) (vn vc : Nat) (gt : Int) (g : Nat) (w : World) (h : Blk w g 56 (tskC k id A n c tg kk ef dr dim .c)) :
    Calls Try.prog 9 #[.pointer (some ⟨g, 0, none⟩), .agg (gotC true gn gm LA ln lc gi VA vn vc gt)] w fun e w' => e = .returned (.tuple #[.agg (opV (TS.op .c true gn id)), .bool (TS.on .c true)]) ∧ Blk w' g 56 (tskC k id A n c tg kk ef dr dim (TS.next .c true gn)) ∧ w.grownBy w' (some g) := by
  have hgl := h.lt
  have HG1 := hide ((show Blk w g 56 #[.int .i64 k, .int .u64 id, .slice A n c, .int .u64 tg, .int .i64 kk, .int .i64 ef, .int .u64 dr, .int .i64 dim, .int .i64 0, .int .i64 2, .int .i64 0, .int .i64 0, .int .i64 k, .int .u64 id, .slice A n c, .int .u64 tg, .int .i64 kk, .int .i64 ef, .int .u64 dr, .int .i64 0, .int .u64 0, .slice none 0 0, .int .u64 0, .slice none 0 0, .int .i64 0, .int .i64 0, .slice none 0 0, .int .i64 0] from h).alloc (.cells #[.bool true, .int .i64 gn, .int .i64 gm, .slice LA ln lc, .int .u64 gi, .slice VA vn vc, .int .u64 gt] 42) |>.alloc (.cells #[.int .i64 0, .int .i64 0, .int .i64 0, .int .i64 0, .int .i64 0, .int .u64 0, .slice none 0 0, .int .u64 0, .slice none 0 0, .int .u64 0] 44))
  have HGot := hide ((Blk.new w 42 #[.bool true, .int .i64 gn, .int .i64 gm, .slice LA ln lc, .int .u64 gi, .slice VA vn vc, .int .u64 gt]).alloc (.cells #[.int .i64 0, .int .i64 0, .int .i64 0, .int .i64 0, .int .i64 0, .int .u64 0, .slice none 0 0, .int .u64 0, .slice none 0 0, .int .u64 0] 44))
  have HO1 := hide (Blk.new_at (w := w.alloc (.cells #[.bool true, .int .i64 gn, .int .i64 gm, .slice LA ln lc, .int .u64 gi, .slice VA vn vc, .int .u64 gt] 42)) (g := w.heap.size + 1) (by simp) 44 #[.int .i64 0, .int .i64 0, .int .i64 0, .int .i64 0, .int .i64 0, .int .u64 0, .slice none 0 0, .int .u64 0, .slice none 0 0, .int .u64 0])
  have HB1 := hide (only_of_below (below2 w (.cells #[.bool true, .int .i64 gn, .int .i64 gm, .slice LA ln lc, .int .u64 gi, .slice VA vn vc, .int .u64 gt] 42) (.cells #[.int .i64 0, .int .i64 0, .int .i64 0, .int .i64 0, .int .i64 0, .int .u64 0, .slice none 0 0, .int .u64 0, .slice none 0 0, .int .u64 0] 44)) (some g))
  have HS1 := hide (show ((w.alloc (.cells #[.bool true, .int .i64 gn, .int .i64 gm, .slice LA ln lc, .int .u64 gi, .slice VA vn vc, .int .u64 gt] 42)).alloc (.cells #[.int .i64 0, .int .i64 0, .int .i64 0, .int .i64 0, .int .i64 0, .int .u64 0, .slice none 0 0, .int .u64 0, .slice none 0 0, .int .u64 0] 44)).heap.size = w.heap.size + 1 + 1 by simp)
  clear h
  unfold gotC
  go_enter Try.func9, Try.ntmps9
  go_upto_region 1 with fail
  generalize (w.alloc (.cells #[.bool true, .int .i64 gn, .int .i64 gm, .slice LA ln lc, .int .u64 gi, .slice VA vn vc, .int .u64 gt] 42)).alloc (.cells #[.int .i64 0, .int .i64 0, .int .i64 0, .int .i64 0, .int .i64 0, .int .u64 0, .slice none 0 0, .int .u64 0, .slice none 0 0, .int .u64 0] 44) = w1 at *
  have f9 := HG1.out.frozen 9
  have z9 : w1.cell? ⟨g, 9, none⟩ = some (.int .i64 2) := HG1.out.cell 9
  go_upto_region 5 with fail
  have HG2 := hide (show Blk (w1.setCell ⟨g, 9, none⟩ (.int .i64 3)) g 56 #[.int .i64 k, .int .u64 id, .slice A n c, .int .u64 tg, .int .i64 kk, .int .i64 ef, .int .u64 dr, .int .i64 dim, .int .i64 0, .int .i64 3, .int .i64 0, .int .i64 0, .int .i64 k, .int .u64 id, .slice A n c, .int .u64 tg, .int .i64 kk, .int .i64 ef, .int .u64 dr, .int .i64 0, .int .u64 0, .slice none 0 0, .int .u64 0, .slice none 0 0, .int .i64 0, .int .i64 0, .slice none 0 0, .int .i64 0] from HG1.out.set_ 9 _)
  have HGot2 := hide (HGot.out.far (p := ⟨g, 9, none⟩) (by simp only; omega) (.int .i64 3))
  have HO2 := hide (HO1.out.far (p := ⟨g, 9, none⟩) (by simp only; omega) (.int .i64 3))
  have HB2 := hide (gb_set HB1.out 9 (.int .i64 3))
  have HS2 := hide (show (w1.setCell ⟨g, 9, none⟩ (.int .i64 3)).heap.size = w.heap.size + 1 + 1 by simpa using HS1.out)
  generalize w1.setCell ⟨g, 9, none⟩ (.int .i64 3) = w2 at *
  clear f9 z9
  have y0 : w2.cell? ⟨w.heap.size, 0, none⟩ = some (.bool true) := HGot2.out.cell 0
  have E1 := hide (end0_any k id A n c tg kk ef dr dim 0 g w2 HG2.out)
  go_upto_region 22 with (go_at_call 17; refine E1.out.mono ?_; rintro e w5 ⟨rfl, hg5, hb5⟩; have HG5 := hide hg5; have HO5 := hide (HO2.out.grown hb5 (by simp; omega)); have HGot5 := hide (HGot2.out.grown hb5 (by simp; omega)); have HB5 := hide (gb_trans HB2.out hb5); clear hg5 hb5)
  have y1 : w5.cell? ⟨w.heap.size, 1, none⟩ = some (.int .i64 gn) := HGot5.out.cell 1
  have z8 : w5.cell? ⟨g, 8, none⟩ = some (.int .i64 0) := HG5.out.cell 8
  have f8 := HG5.out.frozen 8
  go_upto_region 23 with fail
  have HG6 := hide (show Blk (w5.setCell ⟨g, 8, none⟩ (.int .i64 gn)) g 56 #[.int .i64 k, .int .u64 id, .slice A n c, .int .u64 tg, .int .i64 kk, .int .i64 ef, .int .u64 dr, .int .i64 dim, .int .i64 gn, .int .i64 3, .int .i64 1, .int .i64 0, .int .i64 k, .int .u64 id, .slice A n c, .int .u64 tg, .int .i64 kk, .int .i64 ef, .int .u64 dr, .int .i64 0, .int .u64 0, .slice none 0 0, .int .u64 0, .slice none 0 0, .int .i64 0, .int .i64 0, .slice none 0 0, .int .i64 0] from HG5.out.set_ 8 _)
  have HO6 := hide (HO5.out.far (p := ⟨g, 8, none⟩) (by simp only; omega) (.int .i64 gn))
  have HB6 := hide (gb_set HB5.out 8 (.int .i64 gn))
  generalize w5.setCell ⟨g, 8, none⟩ (.int .i64 gn) = w6 at *
  clear f8 z8 y1 y0
  have z8 : w6.cell? ⟨g, 8, none⟩ = some (.int .i64 gn) := HG6.out.cell 8
  go_wp2_with (refine wpList_store_row rfl 44 (.tmp 4) (.tmp 72) rfl (w.heap.size + 1) rfl 44 _ (opC 10 gn 0) rfl HO6.out infoOp rfl (opC_one ..) ?_)
  refine bodyPost_ret (op_cell rfl _ _ (w.heap.size + 1) (opC 10 gn 0) rfl rfl (HO6.out.setRow _)) rfl ⟨rfl, HG6.out.setRow_far (by omega) _, gb_setRow HB6.out (by omega) _⟩
set_option maxHeartbeats 4000000 in
theorem next_b0 (k id : Int) (A : Option Addr) (n c : Nat) (tg kk ef dr : Int) (dim : Int)  (gn gm : Int) (LA : Option Addr) (ln lc : Nat) (gi : Int) (VA : Option Addr) (vn vc : Nat) (gt : Int) (g : Nat) (w : World) (h : Blk w g 56 (tskC k id A n c tg kk ef dr dim .b)) :
    Calls Try.prog 9 #[.pointer (some ⟨g, 0, none⟩), .agg (gotC false gn gm LA ln lc gi VA vn vc gt)] w fun e w' => e = .returned (.tuple #[.agg (opV (TS.op .b false gn id)), .bool (TS.on .b false)]) ∧ Blk w' g 56 (tskC k id A n c tg kk ef dr dim (TS.next .b false gn)) ∧ w.grownBy w' (some g) := by
  have hgl := h.lt
  have HG1 := hide ((show Blk w g 56 #[.int .i64 k, .int .u64 id, .slice A n c, .int .u64 tg, .int .i64 kk, .int .i64 ef, .int .u64 dr, .int .i64 dim, .int .i64 0, .int .i64 1, .int .i64 0, .int .i64 0, .int .i64 k, .int .u64 id, .slice A n c, .int .u64 tg, .int .i64 kk, .int .i64 ef, .int .u64 dr, .int .i64 0, .int .u64 0, .slice none 0 0, .int .u64 0, .slice none 0 0, .int .i64 0, .int .i64 0, .slice none 0 0, .int .i64 0] from h).alloc (.cells #[.bool false, .int .i64 gn, .int .i64 gm, .slice LA ln lc, .int .u64 gi, .slice VA vn vc, .int .u64 gt] 42) |>.alloc (.cells #[.int .i64 0, .int .i64 0, .int .i64 0, .int .i64 0, .int .i64 0, .int .u64 0, .slice none 0 0, .int .u64 0, .slice none 0 0, .int .u64 0] 44))
  have HGot := hide ((Blk.new w 42 #[.bool false, .int .i64 gn, .int .i64 gm, .slice LA ln lc, .int .u64 gi, .slice VA vn vc, .int .u64 gt]).alloc (.cells #[.int .i64 0, .int .i64 0, .int .i64 0, .int .i64 0, .int .i64 0, .int .u64 0, .slice none 0 0, .int .u64 0, .slice none 0 0, .int .u64 0] 44))
  have HO1 := hide (Blk.new_at (w := w.alloc (.cells #[.bool false, .int .i64 gn, .int .i64 gm, .slice LA ln lc, .int .u64 gi, .slice VA vn vc, .int .u64 gt] 42)) (g := w.heap.size + 1) (by simp) 44 #[.int .i64 0, .int .i64 0, .int .i64 0, .int .i64 0, .int .i64 0, .int .u64 0, .slice none 0 0, .int .u64 0, .slice none 0 0, .int .u64 0])
  have HB1 := hide (only_of_below (below2 w (.cells #[.bool false, .int .i64 gn, .int .i64 gm, .slice LA ln lc, .int .u64 gi, .slice VA vn vc, .int .u64 gt] 42) (.cells #[.int .i64 0, .int .i64 0, .int .i64 0, .int .i64 0, .int .i64 0, .int .u64 0, .slice none 0 0, .int .u64 0, .slice none 0 0, .int .u64 0] 44)) (some g))
  have HS1 := hide (show ((w.alloc (.cells #[.bool false, .int .i64 gn, .int .i64 gm, .slice LA ln lc, .int .u64 gi, .slice VA vn vc, .int .u64 gt] 42)).alloc (.cells #[.int .i64 0, .int .i64 0, .int .i64 0, .int .i64 0, .int .i64 0, .int .u64 0, .slice none 0 0, .int .u64 0, .slice none 0 0, .int .u64 0] 44)).heap.size = w.heap.size + 1 + 1 by simp)
  clear h
  unfold gotC
  go_enter Try.func9, Try.ntmps9
  go_upto_region 1 with fail
  generalize (w.alloc (.cells #[.bool false, .int .i64 gn, .int .i64 gm, .slice LA ln lc, .int .u64 gi, .slice VA vn vc, .int .u64 gt] 42)).alloc (.cells #[.int .i64 0, .int .i64 0, .int .i64 0, .int .i64 0, .int .i64 0, .int .u64 0, .slice none 0 0, .int .u64 0, .slice none 0 0, .int .u64 0] 44) = w1 at *
  have f9 := HG1.out.frozen 9
  have z9 : w1.cell? ⟨g, 9, none⟩ = some (.int .i64 1) := HG1.out.cell 9
  go_upto_region 5 with fail
  have HG2 := hide (show Blk (w1.setCell ⟨g, 9, none⟩ (.int .i64 2)) g 56 #[.int .i64 k, .int .u64 id, .slice A n c, .int .u64 tg, .int .i64 kk, .int .i64 ef, .int .u64 dr, .int .i64 dim, .int .i64 0, .int .i64 2, .int .i64 0, .int .i64 0, .int .i64 k, .int .u64 id, .slice A n c, .int .u64 tg, .int .i64 kk, .int .i64 ef, .int .u64 dr, .int .i64 0, .int .u64 0, .slice none 0 0, .int .u64 0, .slice none 0 0, .int .i64 0, .int .i64 0, .slice none 0 0, .int .i64 0] from HG1.out.set_ 9 _)
  have HGot2 := hide (HGot.out.far (p := ⟨g, 9, none⟩) (by simp only; omega) (.int .i64 2))
  have HO2 := hide (HO1.out.far (p := ⟨g, 9, none⟩) (by simp only; omega) (.int .i64 2))
  have HB2 := hide (gb_set HB1.out 9 (.int .i64 2))
  have HS2 := hide (show (w1.setCell ⟨g, 9, none⟩ (.int .i64 2)).heap.size = w.heap.size + 1 + 1 by simpa using HS1.out)
  generalize w1.setCell ⟨g, 9, none⟩ (.int .i64 2) = w2 at *
  clear f9 z9
  have z0 : w2.cell? ⟨g, 0, none⟩ = some (.int .i64 k) := HG2.out.cell 0
  have z1 : w2.cell? ⟨g, 1, none⟩ = some (.int .u64 id) := HG2.out.cell 1
  have z2 : w2.cell? ⟨g, 2, none⟩ = some (.slice A n c) := HG2.out.cell 2
  have z3 : w2.cell? ⟨g, 3, none⟩ = some (.int .u64 tg) := HG2.out.cell 3
  have z4 : w2.cell? ⟨g, 4, none⟩ = some (.int .i64 kk) := HG2.out.cell 4
  have z5 : w2.cell? ⟨g, 5, none⟩ = some (.int .i64 ef) := HG2.out.cell 5
  have z6 : w2.cell? ⟨g, 6, none⟩ = some (.int .u64 dr) := HG2.out.cell 6
  have la : w.heap.size + 1 < w2.heap.size := by have := HS2.out; omega
  have hgl2 : g < w2.heap.size := by omega
  go_upto_region 10 with fail
  have fq := (Blk.new w2 27 #[.int .i64 k, .int .u64 id, .slice A n c, .int .u64 tg, .int .i64 kk, .int .i64 ef, .int .u64 dr]).frozen 0
  have q0 : (w2.alloc (.cells #[.int .i64 k, .int .u64 id, .slice A n c, .int .u64 tg, .int .i64 kk, .int .i64 ef, .int .u64 dr] 27)).cell? ⟨w2.heap.size, 0, none⟩ = some (.int .i64 k) := (Blk.new w2 27 #[.int .i64 k, .int .u64 id, .slice A n c, .int .u64 tg, .int .i64 kk, .int .i64 ef, .int .u64 dr]).cell 0
  go_upto_region 11 with fail
  have HG3 := hide (HG2.out.alloc (.cells #[.int .i64 2, .int .u64 id, .slice A n c, .int .u64 tg, .int .i64 kk, .int .i64 ef, .int .u64 dr] 27))
  have HO3 := hide (HO2.out.alloc (.cells #[.int .i64 2, .int .u64 id, .slice A n c, .int .u64 tg, .int .i64 kk, .int .i64 ef, .int .u64 dr] 27))
  have HGot3 := hide (HGot2.out.alloc (.cells #[.int .i64 2, .int .u64 id, .slice A n c, .int .u64 tg, .int .i64 kk, .int .i64 ef, .int .u64 dr] 27))
  have HOne3 := hide (Blk.new w2 27 #[.int .i64 2, .int .u64 id, .slice A n c, .int .u64 tg, .int .i64 kk, .int .i64 ef, .int .u64 dr])
  have HB3 := hide (only_alloc HB2.out (.cells #[.int .i64 2, .int .u64 id, .slice A n c, .int .u64 tg, .int .i64 kk, .int .i64 ef, .int .u64 dr] 27))
  generalize w2.alloc (.cells #[.int .i64 2, .int .u64 id, .slice A n c, .int .u64 tg, .int .i64 kk, .int .i64 ef, .int .u64 dr] 27) = w3 at *
  clear fq q0 z0 z1 z2 z3 z4 z5 z6
  generalize w2.heap.size = b1 at *
  have z7 : w3.cell? ⟨g, 7, none⟩ = some (.int .i64 dim) := HG3.out.cell 7
  have y0 : w3.cell? ⟨w.heap.size, 0, none⟩ = some (.bool false) := HGot3.out.cell 0
  have y1 : w3.cell? ⟨w.heap.size, 1, none⟩ = some (.int .i64 gn) := HGot3.out.cell 1
  have y2 : w3.cell? ⟨w.heap.size, 2, none⟩ = some (.int .i64 gm) := HGot3.out.cell 2
  have y3 : w3.cell? ⟨w.heap.size, 3, none⟩ = some (.slice LA ln lc) := HGot3.out.cell 3
  have y4 : w3.cell? ⟨w.heap.size, 4, none⟩ = some (.int .u64 gi) := HGot3.out.cell 4
  have y5 : w3.cell? ⟨w.heap.size, 5, none⟩ = some (.slice VA vn vc) := HGot3.out.cell 5
  have y6 : w3.cell? ⟨w.heap.size, 6, none⟩ = some (.int .u64 gt) := HGot3.out.cell 6
  have x0 : w3.cell? ⟨b1, 0, none⟩ = some (.int .i64 2) := HOne3.out.cell 0
  have x1 : w3.cell? ⟨b1, 1, none⟩ = some (.int .u64 id) := HOne3.out.cell 1
  have x2 : w3.cell? ⟨b1, 2, none⟩ = some (.slice A n c) := HOne3.out.cell 2
  have x3 : w3.cell? ⟨b1, 3, none⟩ = some (.int .u64 tg) := HOne3.out.cell 3
  have x4 : w3.cell? ⟨b1, 4, none⟩ = some (.int .i64 kk) := HOne3.out.cell 4
  have x5 : w3.cell? ⟨b1, 5, none⟩ = some (.int .i64 ef) := HOne3.out.cell 5
  have x6 : w3.cell? ⟨b1, 6, none⟩ = some (.int .u64 dr) := HOne3.out.cell 6
  have F := fun W => eOpening id A n c tg kk ef dr dim false gn gm LA ln lc gi VA vn vc gt W
  unfold callC gotC at F
  go_region_law ((go_simp; go_at_call 16; refine (F _).mono ?_; rintro e w5 ⟨rfl, hb⟩; have HG5 := hide (HG3.out.drew.below hb HG3.out.lt); have HO5 := hide (HO3.out.drew.below hb HO3.out.lt); have HB5 := hide (gb_trans (only_drew HB3.out) (only_of_below hb (some g))); clear hb))
  all_goals (clear z7 y0 y1 y2 y3 y4 y5 y6 x0 x1 x2 x3 x4 x5 x6)
  all_goals
    have z1 : w5.cell? ⟨g, 1, none⟩ = some (.int .u64 id) := HG5.out.cell 1
    go_wp2_with (refine wpList_store_row rfl 44 (.tmp 4) (.tmp 53) rfl (w.heap.size + 1) rfl 44 _ (opC 17 0 id) rfl HO5.out infoOp rfl (opC_one ..) ?_)
    refine bodyPost_ret (op_cell rfl _ _ (w.heap.size + 1) (opC 17 0 id) rfl rfl (HO5.out.setRow _)) rfl ⟨rfl, HG5.out.setRow_far (by omega) _, gb_setRow HB5.out (by omega) _⟩
set_option maxHeartbeats 4000000 in
theorem next_b1 (k id : Int) (A : Option Addr) (n c : Nat) (tg kk ef dr : Int) (dim : Int)  (gn gm : Int) (LA : Option Addr) (ln lc : Nat) (gi : Int) (VA : Option Addr) (vn vc : Nat) (gt : Int) (g : Nat) (w : World) (h : Blk w g 56 (tskC k id A n c tg kk ef dr dim .b)) :
    Calls Try.prog 9 #[.pointer (some ⟨g, 0, none⟩), .agg (gotC true gn gm LA ln lc gi VA vn vc gt)] w fun e w' => e = .returned (.tuple #[.agg (opV (TS.op .b true gn id)), .bool (TS.on .b true)]) ∧ Blk w' g 56 (tskC k id A n c tg kk ef dr dim (TS.next .b true gn)) ∧ w.grownBy w' (some g) := by
  have hgl := h.lt
  have HG1 := hide ((show Blk w g 56 #[.int .i64 k, .int .u64 id, .slice A n c, .int .u64 tg, .int .i64 kk, .int .i64 ef, .int .u64 dr, .int .i64 dim, .int .i64 0, .int .i64 1, .int .i64 0, .int .i64 0, .int .i64 k, .int .u64 id, .slice A n c, .int .u64 tg, .int .i64 kk, .int .i64 ef, .int .u64 dr, .int .i64 0, .int .u64 0, .slice none 0 0, .int .u64 0, .slice none 0 0, .int .i64 0, .int .i64 0, .slice none 0 0, .int .i64 0] from h).alloc (.cells #[.bool true, .int .i64 gn, .int .i64 gm, .slice LA ln lc, .int .u64 gi, .slice VA vn vc, .int .u64 gt] 42) |>.alloc (.cells #[.int .i64 0, .int .i64 0, .int .i64 0, .int .i64 0, .int .i64 0, .int .u64 0, .slice none 0 0, .int .u64 0, .slice none 0 0, .int .u64 0] 44))
  have HGot := hide ((Blk.new w 42 #[.bool true, .int .i64 gn, .int .i64 gm, .slice LA ln lc, .int .u64 gi, .slice VA vn vc, .int .u64 gt]).alloc (.cells #[.int .i64 0, .int .i64 0, .int .i64 0, .int .i64 0, .int .i64 0, .int .u64 0, .slice none 0 0, .int .u64 0, .slice none 0 0, .int .u64 0] 44))
  have HO1 := hide (Blk.new_at (w := w.alloc (.cells #[.bool true, .int .i64 gn, .int .i64 gm, .slice LA ln lc, .int .u64 gi, .slice VA vn vc, .int .u64 gt] 42)) (g := w.heap.size + 1) (by simp) 44 #[.int .i64 0, .int .i64 0, .int .i64 0, .int .i64 0, .int .i64 0, .int .u64 0, .slice none 0 0, .int .u64 0, .slice none 0 0, .int .u64 0])
  have HB1 := hide (only_of_below (below2 w (.cells #[.bool true, .int .i64 gn, .int .i64 gm, .slice LA ln lc, .int .u64 gi, .slice VA vn vc, .int .u64 gt] 42) (.cells #[.int .i64 0, .int .i64 0, .int .i64 0, .int .i64 0, .int .i64 0, .int .u64 0, .slice none 0 0, .int .u64 0, .slice none 0 0, .int .u64 0] 44)) (some g))
  have HS1 := hide (show ((w.alloc (.cells #[.bool true, .int .i64 gn, .int .i64 gm, .slice LA ln lc, .int .u64 gi, .slice VA vn vc, .int .u64 gt] 42)).alloc (.cells #[.int .i64 0, .int .i64 0, .int .i64 0, .int .i64 0, .int .i64 0, .int .u64 0, .slice none 0 0, .int .u64 0, .slice none 0 0, .int .u64 0] 44)).heap.size = w.heap.size + 1 + 1 by simp)
  clear h
  unfold gotC
  go_enter Try.func9, Try.ntmps9
  go_upto_region 1 with fail
  generalize (w.alloc (.cells #[.bool true, .int .i64 gn, .int .i64 gm, .slice LA ln lc, .int .u64 gi, .slice VA vn vc, .int .u64 gt] 42)).alloc (.cells #[.int .i64 0, .int .i64 0, .int .i64 0, .int .i64 0, .int .i64 0, .int .u64 0, .slice none 0 0, .int .u64 0, .slice none 0 0, .int .u64 0] 44) = w1 at *
  have f9 := HG1.out.frozen 9
  have z9 : w1.cell? ⟨g, 9, none⟩ = some (.int .i64 1) := HG1.out.cell 9
  go_upto_region 5 with fail
  have HG2 := hide (show Blk (w1.setCell ⟨g, 9, none⟩ (.int .i64 2)) g 56 #[.int .i64 k, .int .u64 id, .slice A n c, .int .u64 tg, .int .i64 kk, .int .i64 ef, .int .u64 dr, .int .i64 dim, .int .i64 0, .int .i64 2, .int .i64 0, .int .i64 0, .int .i64 k, .int .u64 id, .slice A n c, .int .u64 tg, .int .i64 kk, .int .i64 ef, .int .u64 dr, .int .i64 0, .int .u64 0, .slice none 0 0, .int .u64 0, .slice none 0 0, .int .i64 0, .int .i64 0, .slice none 0 0, .int .i64 0] from HG1.out.set_ 9 _)
  have HGot2 := hide (HGot.out.far (p := ⟨g, 9, none⟩) (by simp only; omega) (.int .i64 2))
  have HO2 := hide (HO1.out.far (p := ⟨g, 9, none⟩) (by simp only; omega) (.int .i64 2))
  have HB2 := hide (gb_set HB1.out 9 (.int .i64 2))
  have HS2 := hide (show (w1.setCell ⟨g, 9, none⟩ (.int .i64 2)).heap.size = w.heap.size + 1 + 1 by simpa using HS1.out)
  generalize w1.setCell ⟨g, 9, none⟩ (.int .i64 2) = w2 at *
  clear f9 z9
  have z0 : w2.cell? ⟨g, 0, none⟩ = some (.int .i64 k) := HG2.out.cell 0
  have z1 : w2.cell? ⟨g, 1, none⟩ = some (.int .u64 id) := HG2.out.cell 1
  have z2 : w2.cell? ⟨g, 2, none⟩ = some (.slice A n c) := HG2.out.cell 2
  have z3 : w2.cell? ⟨g, 3, none⟩ = some (.int .u64 tg) := HG2.out.cell 3
  have z4 : w2.cell? ⟨g, 4, none⟩ = some (.int .i64 kk) := HG2.out.cell 4
  have z5 : w2.cell? ⟨g, 5, none⟩ = some (.int .i64 ef) := HG2.out.cell 5
  have z6 : w2.cell? ⟨g, 6, none⟩ = some (.int .u64 dr) := HG2.out.cell 6
  have la : w.heap.size + 1 < w2.heap.size := by have := HS2.out; omega
  have hgl2 : g < w2.heap.size := by omega
  go_upto_region 10 with fail
  have fq := (Blk.new w2 27 #[.int .i64 k, .int .u64 id, .slice A n c, .int .u64 tg, .int .i64 kk, .int .i64 ef, .int .u64 dr]).frozen 0
  have q0 : (w2.alloc (.cells #[.int .i64 k, .int .u64 id, .slice A n c, .int .u64 tg, .int .i64 kk, .int .i64 ef, .int .u64 dr] 27)).cell? ⟨w2.heap.size, 0, none⟩ = some (.int .i64 k) := (Blk.new w2 27 #[.int .i64 k, .int .u64 id, .slice A n c, .int .u64 tg, .int .i64 kk, .int .i64 ef, .int .u64 dr]).cell 0
  go_upto_region 11 with fail
  have HG3 := hide (HG2.out.alloc (.cells #[.int .i64 2, .int .u64 id, .slice A n c, .int .u64 tg, .int .i64 kk, .int .i64 ef, .int .u64 dr] 27))
  have HO3 := hide (HO2.out.alloc (.cells #[.int .i64 2, .int .u64 id, .slice A n c, .int .u64 tg, .int .i64 kk, .int .i64 ef, .int .u64 dr] 27))
  have HGot3 := hide (HGot2.out.alloc (.cells #[.int .i64 2, .int .u64 id, .slice A n c, .int .u64 tg, .int .i64 kk, .int .i64 ef, .int .u64 dr] 27))
  have HOne3 := hide (Blk.new w2 27 #[.int .i64 2, .int .u64 id, .slice A n c, .int .u64 tg, .int .i64 kk, .int .i64 ef, .int .u64 dr])
  have HB3 := hide (only_alloc HB2.out (.cells #[.int .i64 2, .int .u64 id, .slice A n c, .int .u64 tg, .int .i64 kk, .int .i64 ef, .int .u64 dr] 27))
  generalize w2.alloc (.cells #[.int .i64 2, .int .u64 id, .slice A n c, .int .u64 tg, .int .i64 kk, .int .i64 ef, .int .u64 dr] 27) = w3 at *
  clear fq q0 z0 z1 z2 z3 z4 z5 z6
  generalize w2.heap.size = b1 at *
  have z7 : w3.cell? ⟨g, 7, none⟩ = some (.int .i64 dim) := HG3.out.cell 7
  have y0 : w3.cell? ⟨w.heap.size, 0, none⟩ = some (.bool true) := HGot3.out.cell 0
  have y1 : w3.cell? ⟨w.heap.size, 1, none⟩ = some (.int .i64 gn) := HGot3.out.cell 1
  have y2 : w3.cell? ⟨w.heap.size, 2, none⟩ = some (.int .i64 gm) := HGot3.out.cell 2
  have y3 : w3.cell? ⟨w.heap.size, 3, none⟩ = some (.slice LA ln lc) := HGot3.out.cell 3
  have y4 : w3.cell? ⟨w.heap.size, 4, none⟩ = some (.int .u64 gi) := HGot3.out.cell 4
  have y5 : w3.cell? ⟨w.heap.size, 5, none⟩ = some (.slice VA vn vc) := HGot3.out.cell 5
  have y6 : w3.cell? ⟨w.heap.size, 6, none⟩ = some (.int .u64 gt) := HGot3.out.cell 6
  have x0 : w3.cell? ⟨b1, 0, none⟩ = some (.int .i64 2) := HOne3.out.cell 0
  have x1 : w3.cell? ⟨b1, 1, none⟩ = some (.int .u64 id) := HOne3.out.cell 1
  have x2 : w3.cell? ⟨b1, 2, none⟩ = some (.slice A n c) := HOne3.out.cell 2
  have x3 : w3.cell? ⟨b1, 3, none⟩ = some (.int .u64 tg) := HOne3.out.cell 3
  have x4 : w3.cell? ⟨b1, 4, none⟩ = some (.int .i64 kk) := HOne3.out.cell 4
  have x5 : w3.cell? ⟨b1, 5, none⟩ = some (.int .i64 ef) := HOne3.out.cell 5
  have x6 : w3.cell? ⟨b1, 6, none⟩ = some (.int .u64 dr) := HOne3.out.cell 6
  have F := fun W => eOpening id A n c tg kk ef dr dim true gn gm LA ln lc gi VA vn vc gt W
  unfold callC gotC at F
  go_region_law ((go_simp; go_at_call 16; refine (F _).mono ?_; rintro e w5 ⟨rfl, hb⟩; have HG5 := hide (HG3.out.drew.below hb HG3.out.lt); have HO5 := hide (HO3.out.drew.below hb HO3.out.lt); have HB5 := hide (gb_trans (only_drew HB3.out) (only_of_below hb (some g))); clear hb))
  all_goals (clear z7 y0 y1 y2 y3 y4 y5 y6 x0 x1 x2 x3 x4 x5 x6)
  all_goals
    have E1 := hide (end1_any k id A n c tg kk ef dr dim 0 2 5 g w5 (by decide) HG5.out)
    go_wp2_with (first
      | (go_at_call 17; refine E1.out.mono ?_; rintro e w6 ⟨rfl, hg6, hb6⟩; have HG6 := hide hg6; have HO6 := hide (HO5.out.grown hb6 (by simp; omega)); have HB6 := hide (gb_trans HB5.out hb6); clear hg6 hb6)
      | (refine wpList_store_row rfl 44 (.tmp 4) (.tmp 46) rfl (w.heap.size + 1) rfl 44 _ (opC 0 0 0) rfl HO6.out infoOp rfl (opC_one ..) ?_))
    refine bodyPost_ret (op_cell rfl _ _ (w.heap.size + 1) (opC 0 0 0) rfl rfl (HO6.out.setRow _)) rfl ⟨rfl, HG6.out.setRow_far (by omega) _, gb_setRow HB6.out (by omega) _⟩
theorem next_any (k id : Int) (A : Option Addr) (n c : Nat) (tg kk ef dr : Int) (dim : Int) (ok : Bool) (gn gm : Int) (LA : Option Addr) (ln lc : Nat) (gi : Int) (VA : Option Addr) (vn vc : Nat) (gt : Int) (s : TS) (g : Nat) (w : World) (h : Blk w g 56 (tskC k id A n c tg kk ef dr dim s)) :
    Calls Try.prog 9 #[.pointer (some ⟨g, 0, none⟩), .agg (gotC ok gn gm LA ln lc gi VA vn vc gt)] w fun e w' => e = .returned (.tuple #[.agg (opV (TS.op s ok gn id)), .bool (TS.on s ok)]) ∧ Blk w' g 56 (tskC k id A n c tg kk ef dr dim (TS.next s ok gn)) ∧ w.grownBy w' (some g) := by
  cases s with
  | a => exact next_a k id A n c tg kk ef dr dim ok gn gm LA ln lc gi VA vn vc gt g w h
  | b => cases ok with
    | false => exact next_b0 k id A n c tg kk ef dr dim gn gm LA ln lc gi VA vn vc gt g w h
    | true => exact next_b1 k id A n c tg kk ef dr dim gn gm LA ln lc gi VA vn vc gt g w h
  | c => cases ok with
    | false => exact next_c0 k id A n c tg kk ef dr dim gn gm LA ln lc gi VA vn vc gt g w h
    | true => exact next_c1 k id A n c tg kk ef dr dim gn gm LA ln lc gi VA vn vc gt g w h
  | d slot => exact next_d k id A n c tg kk ef dr dim slot 0 ok gn gm LA ln lc gi VA vn vc gt g w h
  | e slot => exact next_e k id A n c tg kk ef dr dim slot 0 ok gn gm LA ln lc gi VA vn vc gt g w h
  | f slot err => exact next_f k id A n c tg kk ef dr dim slot err ok gn gm LA ln lc gi VA vn vc gt g w h
end Go.Proofs.Ytojanklgjdjniab
