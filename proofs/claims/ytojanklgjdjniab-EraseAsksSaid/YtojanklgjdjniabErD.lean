/-
  The task of a delete: its states; end, Marks, Told. Conditions: the task lies in a block.
-/
import Derived.Test.YtojanklgjdjniabErC
namespace Go.Proofs.Ytojanklgjdjniab
open Go.RowKit

theorem gb_trans {a b c : World} {row : Option Nat} (h : a.grownBy b row) (k : b.grownBy c row) : a.grownBy c row :=
  ⟨k.os.trans h.os, k.tape.trans h.tape, k.output.trans h.output, Nat.le_trans h.size k.size, fun i hi hne => (k.block i (Nat.lt_of_lt_of_le hi h.size) hne).trans (h.block i hi hne)⟩
theorem gb_set {a w : World} {g : Nat} (h : a.grownBy w (some g)) (i : Nat) (u : Value) : a.grownBy (w.setCell ⟨g, i, none⟩ u) (some g) := only_setCell h (.inl rfl) u
theorem results_cell_row_tmp {P : Program} {fn : Func} {p u : Tmp} {ty : TypeId} (h : fn.results = #[.cell p ty, .tmp u]) (tmps : Array Value) (w : World) (g : Nat) (t : TypeId) (cs : Array Value) (fr : Nat × Nat) (d : TypeDesc)
    (hp : tmps.getD p undef = .pointer (some ⟨g, 0, none⟩)) (hg : w.heap[g]? = some (.cells cs t fr))
    (hu : P.underlying ty = some d) (hd : (match d with | .struct _ | .array _ _ => true | _ => false) = true) (hi : (P.info? ty).map (·.size) = some cs.size) :
    (results fn tmps).run P w = .ok (.tuple #[.agg cs, tmps.getD u undef]) w := by
  have hp' : tmps[p]?.getD undef = .pointer (some ⟨g, 0, none⟩) := by simpa using hp
  simp [results, h, hp', asAddr, run_loadVar_row w g t ty cs fr d hg hu hd hi]
/-- the states of the task: behind how many answers, its slot, its error -/
inductive TS | a | b | c | d (slot : Int) | e (slot : Int) | f (slot err : Int)
def TS.pc : TS → Int | .a => 0 | .b => 1 | .c => 2 | .d _ => 3 | .e _ => 4 | .f _ _ => 5
def TS.steps : TS → Int | .a => 0 | .b => 1 | .c => 2 | .d _ => 3 | .e _ => 4 | .f _ _ => 4
def TS.slot : TS → Int | .a | .b | .c => 0 | .d s => s | .e s => s | .f s _ => s
def TS.marks : TS → Int | .a | .b | .c => 0 | .d _ | .e _ | .f _ _ => 1
def TS.err : TS → Int | .f _ q => q | _ => 0
/-- behind an answer -/
def TS.next : TS → Bool → Int → TS
  | .a, _, _ => .b
  | .b, ok, _ => if ok then .f 0 5 else .c
  | .c, ok, n => if ok then .d n else .f 0 3
  | .d s, _, _ => .e s
  | .e s, _, _ => .f s 0
  | .f s q, _, _ => .f s q
/-- the operation: its kind, slot, id -/
def TS.op : TS → Bool → Int → Int → Int × Int × Int
  | .a, _, _, _ => (1, 0, 0)
  | .b, ok, _, id => if ok then (0, 0, 0) else (17, 0, id)
  | .c, ok, n, _ => if ok then (10, n, 0) else (0, 0, 0)
  | .d s, _, _, _ => (22, s, 0)
  | .e _, _, _, _ => (0, 0, 0)
  | .f _ _, _, _, _ => (0, 0, 0)
def TS.on : TS → Bool → Bool
  | .a, _ => true
  | .b, ok => !ok
  | .c, ok => ok
  | .d _, _ => true
  | .e _, _ => false
  | .f _ _, _ => false
def opC (kind a id : Int) : Array Value := #[.int .i64 kind, .int .i64 a, .int .i64 0, .int .i64 0, .int .i64 0, .int .u64 id, .slice none 0 0, .int .u64 0, .slice none 0 0, .int .u64 0]
def opV (p : Int × Int × Int) : Array Value := opC p.1 p.2.1 p.2.2
def tskC (k id : Int) (A : Option Addr) (n c : Nat) (tg kk ef dr : Int) (dim : Int) (s : TS) : Array Value := taskC k id A n c tg kk ef dr dim s.slot s.steps s.marks s.err
def rfC (k id : Int) (A : Option Addr) (n c : Nat) (tg kk ef dr : Int) (dim : Int) (s : TS) : Array Value := refC k id A n c tg kk ef dr dim s.pc s.slot s.marks s.err
theorem infoTask : (Try.prog.info? 56).map (·.size) = some 28 := by kernel_rfl
theorem infoOp : (Try.prog.info? 44).map (·.size) = some 10 := by kernel_rfl
theorem infoTold : (Try.prog.info? 37).map (·.size) = some 17 := by kernel_rfl

set_option maxHeartbeats 1000000 in
theorem marks_any (k id : Int) (A : Option Addr) (n c : Nat) (tg kk ef dr : Int) (dim slot pc marks err : Int) (g : Nat) (w : World) (h : Blk w g 56 (taskC k id A n c tg kk ef dr dim slot pc marks err)) :
    Calls Try.prog 11 #[.pointer (some ⟨g, 0, none⟩)] w fun e w' => e = .returned (.int .i64 marks) ∧ w = w' := by
  have z10 : w.cell? ⟨g, 10, none⟩ = some (.int .i64 marks) := h.cell 10
  clear h
  go_enter Try.func11, Try.ntmps11
  go_wp2
  go_ret
  exact ⟨rfl, rfl⟩
theorem marksNil (w : World) : Calls Try.prog 11 #[.pointer none] w fun e w' => e = .returned (.int .i64 0) ∧ w = w' := by
  go_enter Try.func11, Try.ntmps11
  go_wp2
  go_ret
  exact ⟨rfl, rfl⟩
theorem toldZ_eq : toldC 0 0 none 0 0 0 0 0 0 0 = #[.int .i64 0, .int .i64 0, .int .u64 0, .slice none 0 0, .int .u64 0, .int .i64 0, .int .i64 0, .int .u64 0, .int .i64 0, .int .u64 0, .slice none 0 0, .int .u64 0, .slice none 0 0, .int .i64 0, .int .i64 0, .slice none 0 0, .int .i64 0] := rfl
theorem told_cell {fn : Func} {p : Tmp} (h : fn.results = #[.cell p 37]) (tmps : Array Value) (w : World) (g : Nat) (cs : Array Value) (hs : cs.size = 17) (hp : tmps.getD p undef = .pointer (some ⟨g, 0, none⟩)) (hg : Blk w g 37 cs) :
    (results fn tmps).run Try.prog w = .ok (.agg cs) w :=
  results_cell_row h tmps w g 37 _ (0, 0) _ hp hg Try.underlying37 rfl (by rw [hs]; kernel_rfl)
theorem toldC_one (k id : Int) (A : Option Addr) (n c : Nat) (tg kk ef dr : Int) (err : Int) : (toldC k id A n c tg kk ef dr err).all (·.oneCell') = true := by simp [toldC, Value.oneCell']
set_option maxHeartbeats 2000000 in
theorem told_any (k id : Int) (A : Option Addr) (n c : Nat) (tg kk ef dr : Int) (dim slot pc marks err : Int) (g : Nat) (w : World) (h : Blk w g 56 (taskC k id A n c tg kk ef dr dim slot pc marks err)) :
    Calls Try.prog 13 #[.pointer (some ⟨g, 0, none⟩)] w fun e w' => e = .returned (.agg (toldC k id A n c tg kk ef dr err)) ∧ Below w.heap.size w w' := by
  have HG := hide (h.alloc (.cells (toldC 0 0 none 0 0 0 0 0 0 0) 37))
  have HT := hide (Blk.new w 37 (toldC 0 0 none 0 0 0 0 0 0 0))
  have HB := hide (below1 w (.cells (toldC 0 0 none 0 0 0 0 0 0 0) 37))
  clear h
  rw [toldZ_eq] at HG HT HB
  go_enter Try.func13, Try.ntmps13
  go_upto_region 1 with fail
  generalize w.alloc (.cells _ 37) = w2 at *
  have z11 : w2.cell? ⟨g, 11, none⟩ = some (.int .i64 0) := HG.out.cell 11
  have z12 : w2.cell? ⟨g, 12, none⟩ = some (.int .i64 k) := HG.out.cell 12
  have z13 : w2.cell? ⟨g, 13, none⟩ = some (.int .u64 id) := HG.out.cell 13
  have z14 : w2.cell? ⟨g, 14, none⟩ = some (.slice A n c) := HG.out.cell 14
  have z15 : w2.cell? ⟨g, 15, none⟩ = some (.int .u64 tg) := HG.out.cell 15
  have z16 : w2.cell? ⟨g, 16, none⟩ = some (.int .i64 kk) := HG.out.cell 16
  have z17 : w2.cell? ⟨g, 17, none⟩ = some (.int .i64 ef) := HG.out.cell 17
  have z18 : w2.cell? ⟨g, 18, none⟩ = some (.int .u64 dr) := HG.out.cell 18
  have z19 : w2.cell? ⟨g, 19, none⟩ = some (.int .i64 err) := HG.out.cell 19
  have z20 : w2.cell? ⟨g, 20, none⟩ = some (.int .u64 0) := HG.out.cell 20
  have z21 : w2.cell? ⟨g, 21, none⟩ = some (.slice none 0 0) := HG.out.cell 21
  have z22 : w2.cell? ⟨g, 22, none⟩ = some (.int .u64 0) := HG.out.cell 22
  have z23 : w2.cell? ⟨g, 23, none⟩ = some (.slice none 0 0) := HG.out.cell 23
  have z24 : w2.cell? ⟨g, 24, none⟩ = some (.int .i64 0) := HG.out.cell 24
  have z25 : w2.cell? ⟨g, 25, none⟩ = some (.int .i64 0) := HG.out.cell 25
  have z26 : w2.cell? ⟨g, 26, none⟩ = some (.slice none 0 0) := HG.out.cell 26
  have z27 : w2.cell? ⟨g, 27, none⟩ = some (.int .i64 0) := HG.out.cell 27
  go_wp2_with (refine wpList_store_row rfl 37 (.tmp 2) (.tmp 9) rfl w.heap.size rfl 37 _ (toldC k id A n c tg kk ef dr err) rfl HT.out infoTold rfl (toldC_one ..) ?_)
  refine bodyPost_ret (told_cell rfl _ _ w.heap.size _ rfl rfl (HT.out.setRow _)) rfl ⟨rfl, below_setRow HB.out (Nat.le_refl _) _⟩
set_option maxHeartbeats 1000000 in
theorem end0_any (k id : Int) (A : Option Addr) (n c : Nat) (tg kk ef dr : Int) (dim slot : Int) (g : Nat) (w : World) (h : Blk w g 56 (taskC k id A n c tg kk ef dr dim slot 3 0 0)) :
    Calls Try.prog 17 #[.pointer (some ⟨g, 0, none⟩), .int .i64 0] w fun e w' => e = .returned (.bool false) ∧ Blk w' g 56 (taskC k id A n c tg kk ef dr dim slot 3 1 0) ∧ w.grownBy w' (some g) := by
  have HG := hide h
  have f10 := h.frozen 10
  have f19 := h.frozen 19
  have z10 : w.cell? ⟨g, 10, none⟩ = some (.int .i64 0) := h.cell 10
  have z19 : w.cell? ⟨g, 19, none⟩ = some (.int .i64 0) := h.cell 19
  clear h
  go_enter Try.func17, Try.ntmps17
  go_wp2
  go_ret
  exact ⟨rfl, (HG.out.set_ 10 _).set_ 19 _, gb_set (gb_set (World.grownBy.refl _ _) _ _) _ _⟩
set_option maxHeartbeats 1000000 in
theorem end1_any (k id : Int) (A : Option Addr) (n c : Nat) (tg kk ef dr : Int) (dim slot pc why : Int) (g : Nat) (w : World) (hw : why ≠ 0) (h : Blk w g 56 (taskC k id A n c tg kk ef dr dim slot pc 0 0)) :
    Calls Try.prog 17 #[.pointer (some ⟨g, 0, none⟩), .int .i64 why] w fun e w' => e = .returned (.bool true) ∧ Blk w' g 56 (taskC k id A n c tg kk ef dr dim slot 4 1 why) ∧ w.grownBy w' (some g) := by
  have HG := hide h
  have hb : (why != 0) = true := bne_iff_ne.2 hw
  have f9 := h.frozen 9
  have f10 := h.frozen 10
  have f19 := h.frozen 19
  have z9 : w.cell? ⟨g, 9, none⟩ = some (.int .i64 pc) := h.cell 9
  have z10 : w.cell? ⟨g, 10, none⟩ = some (.int .i64 0) := h.cell 10
  have z19 : w.cell? ⟨g, 19, none⟩ = some (.int .i64 0) := h.cell 19
  clear h
  go_enter Try.func17, Try.ntmps17
  go_wp2
  go_ret
  exact ⟨rfl, ((HG.out.set_ 10 _).set_ 19 _).set_ 9 _, gb_set (gb_set (gb_set (World.grownBy.refl _ _) _ _) _ _) _ _⟩
end Go.Proofs.Ytojanklgjdjniab
