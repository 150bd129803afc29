/-
  The package explore: the program's functions: what turns leave. Condition: the slice reads as a list of ints.
-/
import Derived.Test.YtpnekmkbedhooaaExpI
import Derived.Laws.ResultCell
namespace Go.Proofs.Ytpnekmkbedhooaa
open Go.RowKit

theorem results_cell_row_tmp {P : Program} {fn : Func} {p u : Tmp} {ty : TypeId} (h : fn.results = #[.cell p ty, .tmp u]) (tmps : Array Value) (w : World) (g : Nat) (t : TypeId) (cs : Array Value) (fr : Nat × Nat) (d : TypeDesc)
    (hp : tmps.getD p undef = .pointer (some ⟨g, 0, none⟩)) (hg : w.heap[g]? = some (.cells cs t fr))
    (hu : P.underlying ty = some d) (hd : (match d with | .struct _ | .array _ _ => true | _ => false) = true) (hi : (P.info? ty).map (·.size) = some cs.size) :
    (results fn tmps).run P w = .ok (.tuple #[.agg cs, tmps.getD u undef]) w := by
  have hp' : tmps[p]?.getD undef = .pointer (some ⟨g, 0, none⟩) := by simpa using hp
  simp [results, h, hp', asAddr, run_loadVar_row w g t ty cs fr d hg hu hd hi]

theorem step_store_row {P : Program} {ops : Array Oper} {o : Oper} {a : Act} {w : World} {K : Act → World → Prop} {Q : Exit → Act → World → Prop} {E : Prop} (hgd : o.guard = none) (ty : TypeId) (x y : Operand) (ho : o.op = .store ty x y)
    (g : Nat) (hx : a.eval x = .pointer (some ⟨g, 0, none⟩)) (t : TypeId) (old cells : Array Value) (hy : a.eval y = .agg cells) (hg : Blk w g t old) (hi : (P.info? ty).map (·.size) = some cells.size)
    (hs : old.size = cells.size) (h1 : cells.all (·.oneCell') = true) (h : K (a.put o.dst undef) (w.setRow g cells)) :
    if Region.wanted o (yielded ops a.tmps) = true then Oper.wp P o a w K Q else E := by
  have hw : Region.wanted o (yielded ops a.tmps) = true := by simp [Region.wanted, hgd]
  rw [if_pos hw]
  unfold Oper.wp execOp
  simp only [ho, hx, hy, Instr.storeAt, Instr.sureAddr, Sem.run_bind, Sem.run_pure, Result.andThen_ok, run_storeVar_row w g t ty old cells hg hi hs h1]
  exact h
theorem step_load_row {P : Program} {ops : Array Oper} {o : Oper} {a : Act} {w : World} {K : Act → World → Prop} {Q : Exit → Act → World → Prop} {E : Prop} (hgd : o.guard = none) (ty : TypeId) (x : Operand) (ho : o.op = .load ty x)
    (g : Nat) (hx : a.eval x = .pointer (some ⟨g, 0, none⟩)) (t : TypeId) (cells : Array Value) (d : TypeDesc) (hg : Blk w g t cells)
    (hu : P.underlying ty = some d) (hd : (match d with | .struct _ | .array _ _ => true | _ => false) = true) (hi : (P.info? ty).map (·.size) = some cells.size) (h : K (a.put o.dst (.agg cells)) w) :
    if Region.wanted o (yielded ops a.tmps) = true then Oper.wp P o a w K Q else E := by
  have hw : Region.wanted o (yielded ops a.tmps) = true := by simp [Region.wanted, hgd]
  rw [if_pos hw]
  unfold Oper.wp execOp
  simp only [ho, hx, Instr.loadAt, Instr.sureAddr, Sem.run_bind, Sem.run_pure, Result.andThen_ok, run_loadVar_row w g t ty cells (0, 0) d hg hu hd hi]
  exact h

/-- the cells while turns are read -/
def OfGives (w : World) (xs : List Int) (e : Ending) (w' : World) : Prop :=
  ((okT xs ∧ e = .returned (.tuple #[leftV (tn xs), .bool true])) ∨ (¬ okT xs ∧ ∃ f, e = .returned (.tuple #[.agg (ics .i64 f 17), .bool false]))) ∧ Below w.heap.size w w'
abbrev Lf (w : World) (g : Nat) (f : Nat → Int) : Prop := Blk w g 45 (ics .i64 f 17)
theorem leftF_set {l : List Nat} {k : Nat} (hk : k < l.length) (h16 : l.length ≤ 16) :
    ((ics .i64 (leftF (l.take k)) 17).setIfInBounds k (.int .i64 ((l.getD k 0 : Nat) : Int))).setIfInBounds 16 (.int .i64 ((sumTo l (k + 1) : Nat) : Int)) = ics .i64 (leftF (l.take (k + 1))) 17 := by
  rw [ics_set .i64 (leftF (l.take k)) (upd' (leftF (l.take k)) k ((l.getD k 0 : Nat) : Int)) 17 k _ (fun i _ => rfl)]
  refine ics_set .i64 _ _ 17 16 _ fun i hi => ?_
  by_cases e : i = 16
  · subst e; simp [leftF, sumTo]
  · rw [if_neg e]
    have h6 : i < 16 := by omega
    unfold upd'
    rw [leftF, if_pos h6, leftF, if_pos h6]
    simp only [List.getD_eq_getElem?_getD, List.getElem?_take]
    by_cases e2 : i = k
    · subst e2; simp
    · rw [if_neg e2]
      by_cases h : i < k
      · rw [if_pos h, if_pos (by omega)]
      · rw [if_neg h, if_neg (by omega)]
theorem leftF_nil : ics .i64 (leftF []) 17 = ics .i64 (fun _ => 0) 17 := ics_congr _ _ _ _ fun i _ => by unfold leftF; split <;> simp

/-- 17 cells stored, one behind the other -/
def put17 (w : World) (r : Nat) (f : Nat → Int) : World := (((((((((((((((((w.setCell ⟨r, 0, none⟩ (.int .i64 (f 0))).setCell ⟨r, 1, none⟩ (.int .i64 (f 1))).setCell ⟨r, 2, none⟩ (.int .i64 (f 2))).setCell ⟨r, 3, none⟩ (.int .i64 (f 3))).setCell ⟨r, 4, none⟩ (.int .i64 (f 4))).setCell ⟨r, 5, none⟩ (.int .i64 (f 5))).setCell ⟨r, 6, none⟩ (.int .i64 (f 6))).setCell ⟨r, 7, none⟩ (.int .i64 (f 7))).setCell ⟨r, 8, none⟩ (.int .i64 (f 8))).setCell ⟨r, 9, none⟩ (.int .i64 (f 9))).setCell ⟨r, 10, none⟩ (.int .i64 (f 10))).setCell ⟨r, 11, none⟩ (.int .i64 (f 11))).setCell ⟨r, 12, none⟩ (.int .i64 (f 12))).setCell ⟨r, 13, none⟩ (.int .i64 (f 13))).setCell ⟨r, 14, none⟩ (.int .i64 (f 14))).setCell ⟨r, 15, none⟩ (.int .i64 (f 15))).setCell ⟨r, 16, none⟩ (.int .i64 (f 16)))
theorem put17_blk {w : World} {r : Nat} (h : Lf w r (fun _ => 0)) (f : Nat → Int) : Lf (put17 w r f) r f := by
  have e : Blk w r 45 (ics .i64 (stp (fun _ => 0) f 0) 17) := by rw [ics_stp0]; exact h
  have e := e.set_ 0 (.int .i64 (f 0))
  rw [ics_stp] at e
  have e := e.set_ 1 (.int .i64 (f 1))
  rw [ics_stp] at e
  have e := e.set_ 2 (.int .i64 (f 2))
  rw [ics_stp] at e
  have e := e.set_ 3 (.int .i64 (f 3))
  rw [ics_stp] at e
  have e := e.set_ 4 (.int .i64 (f 4))
  rw [ics_stp] at e
  have e := e.set_ 5 (.int .i64 (f 5))
  rw [ics_stp] at e
  have e := e.set_ 6 (.int .i64 (f 6))
  rw [ics_stp] at e
  have e := e.set_ 7 (.int .i64 (f 7))
  rw [ics_stp] at e
  have e := e.set_ 8 (.int .i64 (f 8))
  rw [ics_stp] at e
  have e := e.set_ 9 (.int .i64 (f 9))
  rw [ics_stp] at e
  have e := e.set_ 10 (.int .i64 (f 10))
  rw [ics_stp] at e
  have e := e.set_ 11 (.int .i64 (f 11))
  rw [ics_stp] at e
  have e := e.set_ 12 (.int .i64 (f 12))
  rw [ics_stp] at e
  have e := e.set_ 13 (.int .i64 (f 13))
  rw [ics_stp] at e
  have e := e.set_ 14 (.int .i64 (f 14))
  rw [ics_stp] at e
  have e := e.set_ 15 (.int .i64 (f 15))
  rw [ics_stp] at e
  have e := e.set_ 16 (.int .i64 (f 16))
  rw [ics_stp] at e
  rw [ics_stpm] at e
  exact e
theorem put17_eq (w : World) (r : Nat) (f : Nat → Int) : put17 w r f = (((((((((((((((((w.setCell ⟨r, 0, none⟩ (.int .i64 (f 0))).setCell ⟨r, 1, none⟩ (.int .i64 (f 1))).setCell ⟨r, 2, none⟩ (.int .i64 (f 2))).setCell ⟨r, 3, none⟩ (.int .i64 (f 3))).setCell ⟨r, 4, none⟩ (.int .i64 (f 4))).setCell ⟨r, 5, none⟩ (.int .i64 (f 5))).setCell ⟨r, 6, none⟩ (.int .i64 (f 6))).setCell ⟨r, 7, none⟩ (.int .i64 (f 7))).setCell ⟨r, 8, none⟩ (.int .i64 (f 8))).setCell ⟨r, 9, none⟩ (.int .i64 (f 9))).setCell ⟨r, 10, none⟩ (.int .i64 (f 10))).setCell ⟨r, 11, none⟩ (.int .i64 (f 11))).setCell ⟨r, 12, none⟩ (.int .i64 (f 12))).setCell ⟨r, 13, none⟩ (.int .i64 (f 13))).setCell ⟨r, 14, none⟩ (.int .i64 (f 14))).setCell ⟨r, 15, none⟩ (.int .i64 (f 15))).setCell ⟨r, 16, none⟩ (.int .i64 (f 16))) := rfl
theorem put17_below {B : Nat} {w0 w : World} {r : Nat} (h : Below B w0 w) (hB : B ≤ r) (f : Nat → Int) : Below B w0 (put17 w r f) := by
  have h := h.setCell (p := ⟨r, 0, none⟩) hB (.int .i64 (f 0))
  have h := h.setCell (p := ⟨r, 1, none⟩) hB (.int .i64 (f 1))
  have h := h.setCell (p := ⟨r, 2, none⟩) hB (.int .i64 (f 2))
  have h := h.setCell (p := ⟨r, 3, none⟩) hB (.int .i64 (f 3))
  have h := h.setCell (p := ⟨r, 4, none⟩) hB (.int .i64 (f 4))
  have h := h.setCell (p := ⟨r, 5, none⟩) hB (.int .i64 (f 5))
  have h := h.setCell (p := ⟨r, 6, none⟩) hB (.int .i64 (f 6))
  have h := h.setCell (p := ⟨r, 7, none⟩) hB (.int .i64 (f 7))
  have h := h.setCell (p := ⟨r, 8, none⟩) hB (.int .i64 (f 8))
  have h := h.setCell (p := ⟨r, 9, none⟩) hB (.int .i64 (f 9))
  have h := h.setCell (p := ⟨r, 10, none⟩) hB (.int .i64 (f 10))
  have h := h.setCell (p := ⟨r, 11, none⟩) hB (.int .i64 (f 11))
  have h := h.setCell (p := ⟨r, 12, none⟩) hB (.int .i64 (f 12))
  have h := h.setCell (p := ⟨r, 13, none⟩) hB (.int .i64 (f 13))
  have h := h.setCell (p := ⟨r, 14, none⟩) hB (.int .i64 (f 14))
  have h := h.setCell (p := ⟨r, 15, none⟩) hB (.int .i64 (f 15))
  have h := h.setCell (p := ⟨r, 16, none⟩) hB (.int .i64 (f 16))
  exact h
end Go.Proofs.Ytpnekmkbedhooaa
