/-
  The task of a delete: Next. Conditions: the task lies in a block.
-/
import Derived.Test.YtojanklgjdjniabErD
import Derived.Deep.RegionLaw
namespace Go.Proofs.Ytojanklgjdjniab
open Go.RowKit

theorem opC_one (a b c : Int) : (opC a b c).all (·.oneCell') = true := by simp [opC, Value.oneCell']
theorem op_cell {fn : Func} {p u : Tmp} (h : fn.results = #[.cell p 44, .tmp u]) (tmps : Array Value) (w : World) (g : Nat) (cs : Array Value) (hs : cs.size = 10) (hp : tmps.getD p undef = .pointer (some ⟨g, 0, none⟩)) (hg : Blk w g 44 cs) :
    (results fn tmps).run Try.prog w = .ok (.tuple #[.agg cs, tmps.getD u undef]) w :=
  results_cell_row_tmp h tmps w g 44 _ (0, 0) _ hp hg Try.underlying44 rfl (by rw [hs]; kernel_rfl)
theorem gb_setRow {a w : World} {g b : Nat} (h : a.grownBy w (some g)) (hb : a.heap.size ≤ b) (cs : Array Value) : a.grownBy (w.setRow b cs) (some g) :=
  ⟨h.os, h.tape, h.output, by simpa using h.size, fun i hi hne => (setRow_other w b i cs (by omega)).trans (h.block i hi hne)⟩
set_option maxHeartbeats 4000000 in
theorem next_a (k id : Int) (A : Option Addr) (n c : Nat) (tg kk ef dr : Int) (dim : Int)  (ok : Bool) (gn gm : Int) (LA : Option Addr) (ln lc : Nat) (gi : Int) (VA : Option Addr) (vn vc : Nat) (gt : Int) (g : Nat) (w : World) (h : Blk w g 56 (tskC k id A n c tg kk ef dr dim .a)) :
    Calls Try.prog 9 #[.pointer (some ⟨g, 0, none⟩), .agg (gotC ok gn gm LA ln lc gi VA vn vc gt)] w fun e w' => e = .returned (.tuple #[.agg (opV (TS.op .a ok gn id)), .bool (TS.on .a ok)]) ∧ Blk w' g 56 (tskC k id A n c tg kk ef dr dim (TS.next .a ok gn)) ∧ w.grownBy w' (some g) := by
  have hgl := h.lt
  have HG1 := hide ((show Blk w g 56 #[.int .i64 k, .int .u64 id, .slice A n c, .int .u64 tg, .int .i64 kk, .int .i64 ef, .int .u64 dr, .int .i64 dim, .int .i64 0, .int .i64 0, .int .i64 0, .int .i64 0, .int .i64 k, .int .u64 id, .slice A n c, .int .u64 tg, .int .i64 kk, .int .i64 ef, .int .u64 dr, .int .i64 0, .int .u64 0, .slice none 0 0, .int .u64 0, .slice none 0 0, .int .i64 0, .int .i64 0, .slice none 0 0, .int .i64 0] from h).alloc (.cells #[.bool ok, .int .i64 gn, .int .i64 gm, .slice LA ln lc, .int .u64 gi, .slice VA vn vc, .int .u64 gt] 42) |>.alloc (.cells #[.int .i64 0, .int .i64 0, .int .i64 0, .int .i64 0, .int .i64 0, .int .u64 0, .slice none 0 0, .int .u64 0, .slice none 0 0, .int .u64 0] 44))
  have HGot := hide ((Blk.new w 42 #[.bool ok, .int .i64 gn, .int .i64 gm, .slice LA ln lc, .int .u64 gi, .slice VA vn vc, .int .u64 gt]).alloc (.cells #[.int .i64 0, .int .i64 0, .int .i64 0, .int .i64 0, .int .i64 0, .int .u64 0, .slice none 0 0, .int .u64 0, .slice none 0 0, .int .u64 0] 44))
  have HO1 := hide (Blk.new_at (w := w.alloc (.cells #[.bool ok, .int .i64 gn, .int .i64 gm, .slice LA ln lc, .int .u64 gi, .slice VA vn vc, .int .u64 gt] 42)) (g := w.heap.size + 1) (by simp) 44 #[.int .i64 0, .int .i64 0, .int .i64 0, .int .i64 0, .int .i64 0, .int .u64 0, .slice none 0 0, .int .u64 0, .slice none 0 0, .int .u64 0])
  have HB1 := hide (only_of_below (below2 w (.cells #[.bool ok, .int .i64 gn, .int .i64 gm, .slice LA ln lc, .int .u64 gi, .slice VA vn vc, .int .u64 gt] 42) (.cells #[.int .i64 0, .int .i64 0, .int .i64 0, .int .i64 0, .int .i64 0, .int .u64 0, .slice none 0 0, .int .u64 0, .slice none 0 0, .int .u64 0] 44)) (some g))
  have HS1 := hide (show ((w.alloc (.cells #[.bool ok, .int .i64 gn, .int .i64 gm, .slice LA ln lc, .int .u64 gi, .slice VA vn vc, .int .u64 gt] 42)).alloc (.cells #[.int .i64 0, .int .i64 0, .int .i64 0, .int .i64 0, .int .i64 0, .int .u64 0, .slice none 0 0, .int .u64 0, .slice none 0 0, .int .u64 0] 44)).heap.size = w.heap.size + 1 + 1 by simp)
  clear h
  unfold gotC
  go_enter Try.func9, Try.ntmps9
  go_upto_region 1 with fail
  generalize (w.alloc (.cells #[.bool ok, .int .i64 gn, .int .i64 gm, .slice LA ln lc, .int .u64 gi, .slice VA vn vc, .int .u64 gt] 42)).alloc (.cells #[.int .i64 0, .int .i64 0, .int .i64 0, .int .i64 0, .int .i64 0, .int .u64 0, .slice none 0 0, .int .u64 0, .slice none 0 0, .int .u64 0] 44) = w1 at *
  have f9 := HG1.out.frozen 9
  have z9 : w1.cell? ⟨g, 9, none⟩ = some (.int .i64 0) := HG1.out.cell 9
  go_upto_region 5 with fail
  have HG2 := hide (show Blk (w1.setCell ⟨g, 9, none⟩ (.int .i64 1)) g 56 #[.int .i64 k, .int .u64 id, .slice A n c, .int .u64 tg, .int .i64 kk, .int .i64 ef, .int .u64 dr, .int .i64 dim, .int .i64 0, .int .i64 1, .int .i64 0, .int .i64 0, .int .i64 k, .int .u64 id, .slice A n c, .int .u64 tg, .int .i64 kk, .int .i64 ef, .int .u64 dr, .int .i64 0, .int .u64 0, .slice none 0 0, .int .u64 0, .slice none 0 0, .int .i64 0, .int .i64 0, .slice none 0 0, .int .i64 0] from HG1.out.set_ 9 _)
  have HGot2 := hide (HGot.out.far (p := ⟨g, 9, none⟩) (by simp only; omega) (.int .i64 1))
  have HO2 := hide (HO1.out.far (p := ⟨g, 9, none⟩) (by simp only; omega) (.int .i64 1))
  have HB2 := hide (gb_set HB1.out 9 (.int .i64 1))
  have HS2 := hide (show (w1.setCell ⟨g, 9, none⟩ (.int .i64 1)).heap.size = w.heap.size + 1 + 1 by simpa using HS1.out)
  generalize w1.setCell ⟨g, 9, none⟩ (.int .i64 1) = w2 at *
  clear f9 z9
  go_wp2_with (refine wpList_store_row rfl 44 (.tmp 4) (.tmp 26) rfl (w.heap.size + 1) rfl 44 _ (opC 1 0 0) rfl HO2.out infoOp rfl (opC_one ..) ?_)
  refine bodyPost_ret (op_cell rfl _ _ (w.heap.size + 1) (opC 1 0 0) rfl rfl (HO2.out.setRow _)) rfl ⟨rfl, HG2.out.setRow_far (by omega) _, gb_setRow HB2.out (by omega) _⟩
set_option maxHeartbeats 4000000 in
theorem next_d (k id : Int) (A : Option Addr) (n c : Nat) (tg kk ef dr : Int) (dim : Int) (slot err : Int) (ok : Bool) (gn gm : Int) (LA : Option Addr) (ln lc : Nat) (gi : Int) (VA : Option Addr) (vn vc : Nat) (gt : Int) (g : Nat) (w : World) (h : Blk w g 56 (tskC k id A n c tg kk ef dr dim (.d slot))) :
    Calls Try.prog 9 #[.pointer (some ⟨g, 0, none⟩), .agg (gotC ok gn gm LA ln lc gi VA vn vc gt)] w fun e w' => e = .returned (.tuple #[.agg (opV (TS.op (.d slot) ok gn id)), .bool (TS.on (.d slot) ok)]) ∧ Blk w' g 56 (tskC k id A n c tg kk ef dr dim (TS.next (.d slot) ok gn)) ∧ w.grownBy w' (some g) := by
  have hgl := h.lt
  have HG1 := hide ((show Blk w g 56 #[.int .i64 k, .int .u64 id, .slice A n c, .int .u64 tg, .int .i64 kk, .int .i64 ef, .int .u64 dr, .int .i64 dim, .int .i64 slot, .int .i64 3, .int .i64 1, .int .i64 0, .int .i64 k, .int .u64 id, .slice A n c, .int .u64 tg, .int .i64 kk, .int .i64 ef, .int .u64 dr, .int .i64 0, .int .u64 0, .slice none 0 0, .int .u64 0, .slice none 0 0, .int .i64 0, .int .i64 0, .slice none 0 0, .int .i64 0] from h).alloc (.cells #[.bool ok, .int .i64 gn, .int .i64 gm, .slice LA ln lc, .int .u64 gi, .slice VA vn vc, .int .u64 gt] 42) |>.alloc (.cells #[.int .i64 0, .int .i64 0, .int .i64 0, .int .i64 0, .int .i64 0, .int .u64 0, .slice none 0 0, .int .u64 0, .slice none 0 0, .int .u64 0] 44))
  have HGot := hide ((Blk.new w 42 #[.bool ok, .int .i64 gn, .int .i64 gm, .slice LA ln lc, .int .u64 gi, .slice VA vn vc, .int .u64 gt]).alloc (.cells #[.int .i64 0, .int .i64 0, .int .i64 0, .int .i64 0, .int .i64 0, .int .u64 0, .slice none 0 0, .int .u64 0, .slice none 0 0, .int .u64 0] 44))
  have HO1 := hide (Blk.new_at (w := w.alloc (.cells #[.bool ok, .int .i64 gn, .int .i64 gm, .slice LA ln lc, .int .u64 gi, .slice VA vn vc, .int .u64 gt] 42)) (g := w.heap.size + 1) (by simp) 44 #[.int .i64 0, .int .i64 0, .int .i64 0, .int .i64 0, .int .i64 0, .int .u64 0, .slice none 0 0, .int .u64 0, .slice none 0 0, .int .u64 0])
  have HB1 := hide (only_of_below (below2 w (.cells #[.bool ok, .int .i64 gn, .int .i64 gm, .slice LA ln lc, .int .u64 gi, .slice VA vn vc, .int .u64 gt] 42) (.cells #[.int .i64 0, .int .i64 0, .int .i64 0, .int .i64 0, .int .i64 0, .int .u64 0, .slice none 0 0, .int .u64 0, .slice none 0 0, .int .u64 0] 44)) (some g))
  have HS1 := hide (show ((w.alloc (.cells #[.bool ok, .int .i64 gn, .int .i64 gm, .slice LA ln lc, .int .u64 gi, .slice VA vn vc, .int .u64 gt] 42)).alloc (.cells #[.int .i64 0, .int .i64 0, .int .i64 0, .int .i64 0, .int .i64 0, .int .u64 0, .slice none 0 0, .int .u64 0, .slice none 0 0, .int .u64 0] 44)).heap.size = w.heap.size + 1 + 1 by simp)
  clear h
  unfold gotC
  go_enter Try.func9, Try.ntmps9
  go_upto_region 1 with fail
  generalize (w.alloc (.cells #[.bool ok, .int .i64 gn, .int .i64 gm, .slice LA ln lc, .int .u64 gi, .slice VA vn vc, .int .u64 gt] 42)).alloc (.cells #[.int .i64 0, .int .i64 0, .int .i64 0, .int .i64 0, .int .i64 0, .int .u64 0, .slice none 0 0, .int .u64 0, .slice none 0 0, .int .u64 0] 44) = w1 at *
  have f9 := HG1.out.frozen 9
  have z9 : w1.cell? ⟨g, 9, none⟩ = some (.int .i64 3) := HG1.out.cell 9
  go_upto_region 5 with fail
  have HG2 := hide (show Blk (w1.setCell ⟨g, 9, none⟩ (.int .i64 4)) g 56 #[.int .i64 k, .int .u64 id, .slice A n c, .int .u64 tg, .int .i64 kk, .int .i64 ef, .int .u64 dr, .int .i64 dim, .int .i64 slot, .int .i64 4, .int .i64 1, .int .i64 0, .int .i64 k, .int .u64 id, .slice A n c, .int .u64 tg, .int .i64 kk, .int .i64 ef, .int .u64 dr, .int .i64 0, .int .u64 0, .slice none 0 0, .int .u64 0, .slice none 0 0, .int .i64 0, .int .i64 0, .slice none 0 0, .int .i64 0] from HG1.out.set_ 9 _)
  have HGot2 := hide (HGot.out.far (p := ⟨g, 9, none⟩) (by simp only; omega) (.int .i64 4))
  have HO2 := hide (HO1.out.far (p := ⟨g, 9, none⟩) (by simp only; omega) (.int .i64 4))
  have HB2 := hide (gb_set HB1.out 9 (.int .i64 4))
  have HS2 := hide (show (w1.setCell ⟨g, 9, none⟩ (.int .i64 4)).heap.size = w.heap.size + 1 + 1 by simpa using HS1.out)
  generalize w1.setCell ⟨g, 9, none⟩ (.int .i64 4) = w2 at *
  clear f9 z9
  have z8 : w2.cell? ⟨g, 8, none⟩ = some (.int .i64 slot) := HG2.out.cell 8
  go_wp2_with (refine wpList_store_row rfl 44 (.tmp 4) (.tmp 79) rfl (w.heap.size + 1) rfl 44 _ (opC 22 slot 0) rfl HO2.out infoOp rfl (opC_one ..) ?_)
  refine bodyPost_ret (op_cell rfl _ _ (w.heap.size + 1) (opC 22 slot 0) rfl rfl (HO2.out.setRow _)) rfl ⟨rfl, HG2.out.setRow_far (by omega) _, gb_setRow HB2.out (by omega) _⟩
set_option maxHeartbeats 4000000 in
theorem next_e (k id : Int) (A : Option Addr) (n c : Nat) (tg kk ef dr : Int) (dim : Int) (slot err : Int) (ok : Bool) (gn gm : Int) (LA : Option Addr) (ln lc : Nat) (gi : Int) (VA : Option Addr) (vn vc : Nat) (gt : Int) (g : Nat) (w : World) (h : Blk w g 56 (tskC k id A n c tg kk ef dr dim (.e slot))) :
    Calls Try.prog 9 #[.pointer (some ⟨g, 0, none⟩), .agg (gotC ok gn gm LA ln lc gi VA vn vc gt)] w fun e w' => e = .returned (.tuple #[.agg (opV (TS.op (.e slot) ok gn id)), .bool (TS.on (.e slot) ok)]) ∧ Blk w' g 56 (tskC k id A n c tg kk ef dr dim (TS.next (.e slot) ok gn)) ∧ w.grownBy w' (some g) := by
  have hgl := h.lt
  have HG1 := hide ((show Blk w g 56 #[.int .i64 k, .int .u64 id, .slice A n c, .int .u64 tg, .int .i64 kk, .int .i64 ef, .int .u64 dr, .int .i64 dim, .int .i64 slot, .int .i64 4, .int .i64 1, .int .i64 0, .int .i64 k, .int .u64 id, .slice A n c, .int .u64 tg, .int .i64 kk, .int .i64 ef, .int .u64 dr, .int .i64 0, .int .u64 0, .slice none 0 0, .int .u64 0, .slice none 0 0, .int .i64 0, .int .i64 0, .slice none 0 0, .int .i64 0] from h).alloc (.cells #[.bool ok, .int .i64 gn, .int .i64 gm, .slice LA ln lc, .int .u64 gi, .slice VA vn vc, .int .u64 gt] 42) |>.alloc (.cells #[.int .i64 0, .int .i64 0, .int .i64 0, .int .i64 0, .int .i64 0, .int .u64 0, .slice none 0 0, .int .u64 0, .slice none 0 0, .int .u64 0] 44))
  have HGot := hide ((Blk.new w 42 #[.bool ok, .int .i64 gn, .int .i64 gm, .slice LA ln lc, .int .u64 gi, .slice VA vn vc, .int .u64 gt]).alloc (.cells #[.int .i64 0, .int .i64 0, .int .i64 0, .int .i64 0, .int .i64 0, .int .u64 0, .slice none 0 0, .int .u64 0, .slice none 0 0, .int .u64 0] 44))
  have HO1 := hide (Blk.new_at (w := w.alloc (.cells #[.bool ok, .int .i64 gn, .int .i64 gm, .slice LA ln lc, .int .u64 gi, .slice VA vn vc, .int .u64 gt] 42)) (g := w.heap.size + 1) (by simp) 44 #[.int .i64 0, .int .i64 0, .int .i64 0, .int .i64 0, .int .i64 0, .int .u64 0, .slice none 0 0, .int .u64 0, .slice none 0 0, .int .u64 0])
  have HB1 := hide (only_of_below (below2 w (.cells #[.bool ok, .int .i64 gn, .int .i64 gm, .slice LA ln lc, .int .u64 gi, .slice VA vn vc, .int .u64 gt] 42) (.cells #[.int .i64 0, .int .i64 0, .int .i64 0, .int .i64 0, .int .i64 0, .int .u64 0, .slice none 0 0, .int .u64 0, .slice none 0 0, .int .u64 0] 44)) (some g))
  have HS1 := hide (show ((w.alloc (.cells #[.bool ok, .int .i64 gn, .int .i64 gm, .slice LA ln lc, .int .u64 gi, .slice VA vn vc, .int .u64 gt] 42)).alloc (.cells #[.int .i64 0, .int .i64 0, .int .i64 0, .int .i64 0, .int .i64 0, .int .u64 0, .slice none 0 0, .int .u64 0, .slice none 0 0, .int .u64 0] 44)).heap.size = w.heap.size + 1 + 1 by simp)
  clear h
  unfold gotC
  go_enter Try.func9, Try.ntmps9
  go_upto_region 1 with fail
  generalize (w.alloc (.cells #[.bool ok, .int .i64 gn, .int .i64 gm, .slice LA ln lc, .int .u64 gi, .slice VA vn vc, .int .u64 gt] 42)).alloc (.cells #[.int .i64 0, .int .i64 0, .int .i64 0, .int .i64 0, .int .i64 0, .int .u64 0, .slice none 0 0, .int .u64 0, .slice none 0 0, .int .u64 0] 44) = w1 at *
  have f9 := HG1.out.frozen 9
  have z9 : w1.cell? ⟨g, 9, none⟩ = some (.int .i64 4) := HG1.out.cell 9
  go_upto_region 5 with fail
  have HG2 := hide (show Blk (w1.setCell ⟨g, 9, none⟩ (.int .i64 4)) g 56 #[.int .i64 k, .int .u64 id, .slice A n c, .int .u64 tg, .int .i64 kk, .int .i64 ef, .int .u64 dr, .int .i64 dim, .int .i64 slot, .int .i64 4, .int .i64 1, .int .i64 0, .int .i64 k, .int .u64 id, .slice A n c, .int .u64 tg, .int .i64 kk, .int .i64 ef, .int .u64 dr, .int .i64 0, .int .u64 0, .slice none 0 0, .int .u64 0, .slice none 0 0, .int .i64 0, .int .i64 0, .slice none 0 0, .int .i64 0] from HG1.out.set_ 9 _)
  have HGot2 := hide (HGot.out.far (p := ⟨g, 9, none⟩) (by simp only; omega) (.int .i64 4))
  have HO2 := hide (HO1.out.far (p := ⟨g, 9, none⟩) (by simp only; omega) (.int .i64 4))
  have HB2 := hide (gb_set HB1.out 9 (.int .i64 4))
  have HS2 := hide (show (w1.setCell ⟨g, 9, none⟩ (.int .i64 4)).heap.size = w.heap.size + 1 + 1 by simpa using HS1.out)
  generalize w1.setCell ⟨g, 9, none⟩ (.int .i64 4) = w2 at *
  clear f9 z9
  go_wp2_with (refine wpList_store_row rfl 44 (.tmp 4) (.tmp 80) rfl (w.heap.size + 1) rfl 44 _ (opC 0 0 0) rfl HO2.out infoOp rfl (opC_one ..) ?_)
  refine bodyPost_ret (op_cell rfl _ _ (w.heap.size + 1) (opC 0 0 0) rfl rfl (HO2.out.setRow _)) rfl ⟨rfl, HG2.out.setRow_far (by omega) _, gb_setRow HB2.out (by omega) _⟩
set_option maxHeartbeats 4000000 in
theorem next_f (k id : Int) (A : Option Addr) (n c : Nat) (tg kk ef dr : Int) (dim : Int) (slot err : Int) (ok : Bool) (gn gm : Int) (LA : Option Addr) (ln lc : Nat) (gi : Int) (VA : Option Addr) (vn vc : Nat) (gt : Int) (g : Nat) (w : World) (h : Blk w g 56 (tskC k id A n c tg kk ef dr dim (.f slot err))) :
    Calls Try.prog 9 #[.pointer (some ⟨g, 0, none⟩), .agg (gotC ok gn gm LA ln lc gi VA vn vc gt)] w fun e w' => e = .returned (.tuple #[.agg (opV (TS.op (.f slot err) ok gn id)), .bool (TS.on (.f slot err) ok)]) ∧ Blk w' g 56 (tskC k id A n c tg kk ef dr dim (TS.next (.f slot err) ok gn)) ∧ w.grownBy w' (some g) := by
  have hgl := h.lt
  have HG1 := hide ((show Blk w g 56 #[.int .i64 k, .int .u64 id, .slice A n c, .int .u64 tg, .int .i64 kk, .int .i64 ef, .int .u64 dr, .int .i64 dim, .int .i64 slot, .int .i64 4, .int .i64 1, .int .i64 0, .int .i64 k, .int .u64 id, .slice A n c, .int .u64 tg, .int .i64 kk, .int .i64 ef, .int .u64 dr, .int .i64 err, .int .u64 0, .slice none 0 0, .int .u64 0, .slice none 0 0, .int .i64 0, .int .i64 0, .slice none 0 0, .int .i64 0] from h).alloc (.cells #[.bool ok, .int .i64 gn, .int .i64 gm, .slice LA ln lc, .int .u64 gi, .slice VA vn vc, .int .u64 gt] 42) |>.alloc (.cells #[.int .i64 0, .int .i64 0, .int .i64 0, .int .i64 0, .int .i64 0, .int .u64 0, .slice none 0 0, .int .u64 0, .slice none 0 0, .int .u64 0] 44))
  have HGot := hide ((Blk.new w 42 #[.bool ok, .int .i64 gn, .int .i64 gm, .slice LA ln lc, .int .u64 gi, .slice VA vn vc, .int .u64 gt]).alloc (.cells #[.int .i64 0, .int .i64 0, .int .i64 0, .int .i64 0, .int .i64 0, .int .u64 0, .slice none 0 0, .int .u64 0, .slice none 0 0, .int .u64 0] 44))
  have HO1 := hide (Blk.new_at (w := w.alloc (.cells #[.bool ok, .int .i64 gn, .int .i64 gm, .slice LA ln lc, .int .u64 gi, .slice VA vn vc, .int .u64 gt] 42)) (g := w.heap.size + 1) (by simp) 44 #[.int .i64 0, .int .i64 0, .int .i64 0, .int .i64 0, .int .i64 0, .int .u64 0, .slice none 0 0, .int .u64 0, .slice none 0 0, .int .u64 0])
  have HB1 := hide (only_of_below (below2 w (.cells #[.bool ok, .int .i64 gn, .int .i64 gm, .slice LA ln lc, .int .u64 gi, .slice VA vn vc, .int .u64 gt] 42) (.cells #[.int .i64 0, .int .i64 0, .int .i64 0, .int .i64 0, .int .i64 0, .int .u64 0, .slice none 0 0, .int .u64 0, .slice none 0 0, .int .u64 0] 44)) (some g))
  have HS1 := hide (show ((w.alloc (.cells #[.bool ok, .int .i64 gn, .int .i64 gm, .slice LA ln lc, .int .u64 gi, .slice VA vn vc, .int .u64 gt] 42)).alloc (.cells #[.int .i64 0, .int .i64 0, .int .i64 0, .int .i64 0, .int .i64 0, .int .u64 0, .slice none 0 0, .int .u64 0, .slice none 0 0, .int .u64 0] 44)).heap.size = w.heap.size + 1 + 1 by simp)
  clear h
  unfold gotC
  go_enter Try.func9, Try.ntmps9
  go_upto_region 1 with fail
  generalize (w.alloc (.cells #[.bool ok, .int .i64 gn, .int .i64 gm, .slice LA ln lc, .int .u64 gi, .slice VA vn vc, .int .u64 gt] 42)).alloc (.cells #[.int .i64 0, .int .i64 0, .int .i64 0, .int .i64 0, .int .i64 0, .int .u64 0, .slice none 0 0, .int .u64 0, .slice none 0 0, .int .u64 0] 44) = w1 at *
  have f9 := HG1.out.frozen 9
  have z9 : w1.cell? ⟨g, 9, none⟩ = some (.int .i64 4) := HG1.out.cell 9
  go_upto_region 5 with fail
  have HG2 := hide (show Blk (w1.setCell ⟨g, 9, none⟩ (.int .i64 4)) g 56 #[.int .i64 k, .int .u64 id, .slice A n c, .int .u64 tg, .int .i64 kk, .int .i64 ef, .int .u64 dr, .int .i64 dim, .int .i64 slot, .int .i64 4, .int .i64 1, .int .i64 0, .int .i64 k, .int .u64 id, .slice A n c, .int .u64 tg, .int .i64 kk, .int .i64 ef, .int .u64 dr, .int .i64 err, .int .u64 0, .slice none 0 0, .int .u64 0, .slice none 0 0, .int .i64 0, .int .i64 0, .slice none 0 0, .int .i64 0] from HG1.out.set_ 9 _)
  have HGot2 := hide (HGot.out.far (p := ⟨g, 9, none⟩) (by simp only; omega) (.int .i64 4))
  have HO2 := hide (HO1.out.far (p := ⟨g, 9, none⟩) (by simp only; omega) (.int .i64 4))
  have HB2 := hide (gb_set HB1.out 9 (.int .i64 4))
  have HS2 := hide (show (w1.setCell ⟨g, 9, none⟩ (.int .i64 4)).heap.size = w.heap.size + 1 + 1 by simpa using HS1.out)
  generalize w1.setCell ⟨g, 9, none⟩ (.int .i64 4) = w2 at *
  clear f9 z9
  go_wp2_with (refine wpList_store_row rfl 44 (.tmp 4) (.tmp 80) rfl (w.heap.size + 1) rfl 44 _ (opC 0 0 0) rfl HO2.out infoOp rfl (opC_one ..) ?_)
  refine bodyPost_ret (op_cell rfl _ _ (w.heap.size + 1) (opC 0 0 0) rfl rfl (HO2.out.setRow _)) rfl ⟨rfl, HG2.out.setRow_far (by omega) _, gb_setRow HB2.out (by omega) _⟩
end Go.Proofs.Ytojanklgjdjniab
