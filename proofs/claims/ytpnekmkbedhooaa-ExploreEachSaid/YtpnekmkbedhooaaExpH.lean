/-
  The package explore: the program's functions: one pick less; what turns leave. Condition: the slice reads as a list of ints.
-/
import Derived.Test.YtpnekmkbedhooaaExpG
namespace Go.Proofs.Ytpnekmkbedhooaa
open Go.RowKit

theorem i17 (f : Nat → Int) : (Try.prog.info? 45).map (·.size) = some (ics .i64 f 17).size := by rw [ics_size]; kernel_rfl
theorem z17 (w : World) : (zeroValue 45).run Try.prog w = .ok (.agg (ics .i64 (fun _ => 0) 17)) w := by kernel_rfl
theorem ics_one (kd : IntKind) (f : Nat → Int) (m : Nat) : (ics kd f m).all (·.oneCell') = true := by simp [ics, Value.oneCell']
theorem dec_getD (l : List Nat) (k i : Nat) (hk : k < l.length) : (dec l k).getD i 0 = if i = k then l.getD k 0 - 1 else l.getD i 0 := by
  unfold dec
  rw [List.getD_eq_getElem?_getD, List.getD_eq_getElem?_getD, List.getElem?_set]
  by_cases h : k = i
  · subst h; simp [hk]
  · rw [if_neg h, if_neg (Ne.symm h)]; simp [List.getD_eq_getElem?_getD]
def upd' (f : Nat → Int) (q : Nat) (v : Int) (i : Nat) : Int := if i = q then v else f i
theorem left_dec {l : List Nat} {k : Nat} (hk : k < l.length) (h16 : l.length ≤ 16) (h0 : 0 < l.getD k 0) :
    ((ics .i64 (leftF l) 17).setIfInBounds k (.int .i64 (((l.getD k 0 : Nat) : Int) - 1))).setIfInBounds 16 (.int .i64 (((l.sum : Nat) : Int) - 1)) = ics .i64 (leftF (dec l k)) 17 := by
  have hs := dec_sum h0
  rw [ics_set .i64 (leftF l) (upd' (leftF l) k (((l.getD k 0 : Nat) : Int) - 1)) 17 k _ (fun i _ => rfl)]
  refine ics_set .i64 _ _ 17 16 _ fun i hi => ?_
  by_cases e : i = 16
  · subst e; simp [leftF]; omega
  · rw [if_neg e]
    have h6 : i < 16 := by omega
    unfold upd'
    rw [leftF, if_pos h6, dec_getD _ _ _ hk]
    by_cases e2 : i = k
    · subst e2; rw [if_pos rfl, if_pos rfl]; omega
    · rw [if_neg e2, if_neg e2, leftF, if_pos h6]

set_option maxHeartbeats 2000000 in
theorem without_any (l : List Nat) (k : Nat) (w : World) (hl : l.length ≤ 16) (hk : k < l.length) (h0 : 0 < l.getD k 0) (hs : l.sum ≤ 64) :
    Calls Try.prog 18 #[leftV l, .int .i64 k] w fun e w' => e = .returned (leftV (dec l k)) ∧ Below w.heap.size w w' := by
  have hz := z17
  have HLD := hide (left_dec hk hl h0)
  have HB := hide (Blk.alloc (Blk.new w 45 (ics .i64 (leftF l) 17)) (.cells (ics .i64 (fun _ => 0) 17) 45))
  have HZ := hide (heap_alloc2_new w (.cells (ics .i64 (leftF l) 17) 45) (.cells (ics .i64 (fun _ => 0) 17) 45))
  have HBL := hide (below2 w (.cells (ics .i64 (leftF l) 17) 45) (.cells (ics .i64 (fun _ => 0) 17) 45))
  have hy := getD_le_sum l k
  have g0 : (0 : Int) ≤ k := by omega
  have g1 : (k : Int) < 16 := by omega
  have hw1 : IntKind.i64.wrap (((l.getD k 0 : Nat) : Int) - 1) = ((l.getD k 0 : Nat) : Int) - 1 := by rw [IntKind.wrap_i64]; omega
  have hw2 : IntKind.i64.wrap (((l.sum : Nat) : Int) - 1) = ((l.sum : Nat) : Int) - 1 := by rw [IntKind.wrap_i64]; omega
  have hw1' := hw1
  have hw2' := hw2
  rw [← wrap64_i64] at hw1' hw2'
  have e1 : leftF l k = ((l.getD k 0 : Nat) : Int) := by rw [leftF, if_pos (by omega)]
  have e2 : leftF l 16 = ((l.sum : Nat) : Int) := by rw [leftF, if_neg (by omega)]
  obtain ⟨y, hyy⟩ : ∃ y : Int, y = ((l.getD k 0 : Nat) : Int) := ⟨_, rfl⟩
  obtain ⟨s, hss⟩ : ∃ s : Int, s = ((l.sum : Nat) : Int) := ⟨_, rfl⟩
  rw [← hyy] at hw1 hw1' e1 HLD
  rw [← hss] at hw2 hw2' e2 HLD
  clear hyy hss hy h0
  unfold leftV
  generalize hW : (w.alloc (.cells (ics .i64 (leftF l) 17) 45)).alloc (.cells (ics .i64 (fun _ => 0) 17) 45) = w0 at HB HZ HBL
  have HW := hide hW
  have q0 : w0.cell? ⟨w.heap.size, k, none⟩ = some (.int .i64 y) := by rw [HB.out.cell, ics_get _ _ _ _ (by omega), e1]
  have f0 := HB.out.frozen k
  have HB1 := hide (HB.out.set_ k (.int .i64 (y - 1)))
  have q1 : (w0.setCell ⟨w.heap.size, k, none⟩ (.int .i64 (y - 1))).cell? ⟨w.heap.size, 16, none⟩ = some (.int .i64 s) := by
    rw [World.cell?_setCell_other _ _ _ _ (by intro e; injection e with _ e; omega), HB.out.cell, ics_get _ _ _ _ (by omega), e2]
  have f1 := HB1.out.frozen 16
  have HB2 := hide (HB1.out.set_ 16 (.int .i64 (s - 1)))
  rw [HLD.out] at HB2
  have HZ2 := hide (((show Blk w0 (w.heap.size + 1) 45 (ics .i64 (fun _ => 0) 17) from HZ.out).far (p := ⟨w.heap.size, k, none⟩) (by simp) (.int .i64 (y - 1))).far (p := ⟨w.heap.size, 16, none⟩) (by simp) (.int .i64 (s - 1)))
  have HBL2 := hide ((HBL.out.setCell (p := ⟨w.heap.size, k, none⟩) (Nat.le_refl _) (.int .i64 (y - 1))).setCell (p := ⟨w.heap.size, 16, none⟩) (Nat.le_refl _) (.int .i64 (s - 1)))
  clear hW e1 e2 hk hl
  go_enter Try.func18, Try.ntmps18
  go_upto_region 1 with fail
  rw [HW.out]
  go_upto_region 3 with fail
  generalize ((w0.setCell ⟨w.heap.size, k, none⟩ (.int .i64 (y - 1))).setCell ⟨w.heap.size, 16, none⟩ (.int .i64 (s - 1))) = w9 at *
  go_wp2_with (first | (refine wpList_load_row rfl 45 (.tmp 2) rfl w.heap.size rfl 45 (ics .i64 (leftF (dec l k)) 17) (0, 0) _ HB2.out Try.underlying45 rfl (i17 _) ?_) | (refine wpList_store_row rfl 45 (.tmp 4) (.tmp 16) rfl (w.heap.size + 1) rfl 45 _ (ics .i64 (leftF (dec l k)) 17) rfl HZ2.out (i17 _) (by simp [ics]) (ics_one _ _ _) ?_))
  refine bodyPost_ret (results_cell_row rfl _ _ (w.heap.size + 1) 45 (ics .i64 (leftF (dec l k)) 17) (0, 0) _ rfl (setRow_heap _ _ _ _ _ _ HZ2.out) Try.underlying45 rfl (i17 _)) rfl ?_
  exact ⟨rfl, below_setRow HBL2.out (Nat.le_succ _) _⟩
end Go.Proofs.Ytpnekmkbedhooaa
