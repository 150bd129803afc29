/-
  The package ring: New, and the document's. No condition.
-/
import Derived.Test.YtoadcfjkommlkacRiJ
namespace Go.Proofs.Ytoadcfjkommlkac
set_option linter.unusedSimpArgs false
set_option linter.unusedVariables false
open Go.RowKit

def newM (s : Int) : Nat := (min (max s 0) 4096).toNat
/-- the ring of the head alone -/
def newW (m : Nat) : List Int := 8193 :: List.replicate m 0
theorem newW_len (m : Nat) : (newW m).length = m + 1 := by simp [newW]
theorem newW_snoc (m : Nat) : newW (m + 1) = newW m ++ [0] := by
  unfold newW
  rw [List.replicate_succ', List.cons_append]
theorem newW_at {m i : Nat} (h : i < m) : (fcs encU (newW m))[i + 1]? = some (.int .u64 0) := by
  rw [fcsU, List.getElem?_map]
  unfold newW
  rw [List.getElem?_cons_succ, List.getElem?_replicate, if_pos h]
  rfl
theorem newW_set {m i : Nat} (h : i < m) : (fcs encU (newW m)).set (i + 1) (.int .u64 0) = fcs encU (newW m) := by
  have h1 := newW_at h
  apply List.ext_getElem?
  intro j
  rw [List.getElem?_set]
  split
  · next e =>
    subst e
    rw [if_pos (List.getElem?_eq_some_iff.1 h1).1, h1]
  · rfl
theorem rep_newW (m : Nat) : ((rep (m + 1) (.int .u64 0)).setIfInBounds 0 (.int .u64 8193)).toList = fcs encU (newW m) := by
  rw [fcsU]
  unfold rep newW
  simp [List.replicate_succ]
set_option maxHeartbeats 4000000 in
theorem new_any (s : Int) (w : World) : Calls Try.prog 23 #[.int .i64 s] w fun e w' => ∃ v, e = .returned v ∧ w'.ownsRow w.heap.size 39 1 v (newM s + 1) (fcs encU (newW (newM s))) ∧ Below w.heap.size w w' := by
  obtain ⟨m, hm⟩ : ∃ m, newM s = m := ⟨_, rfl⟩
  have hm4 : m ≤ 4096 := by unfold newM at hm; omega
  obtain ⟨mx, hmx⟩ : ∃ mx : Int, max s 0 = mx := ⟨_, rfl⟩
  have hmax : ∀ (ts : Array TypeId) (t : TypeId) (W : World), (Builtin.max_ ts t #[.int .i64 s, .int .i64 0]).run Try.prog W = .ok (.int .i64 mx) W := fun ts t W => by
    rw [run_max_int2, ← hmx]
    congr 2
    split <;> omega
  have hmin : ∀ (ts : Array TypeId) (t : TypeId) (W : World), (Builtin.min_ ts t #[.int .i64 mx, .int .i64 4096]).run Try.prog W = .ok (.int .i64 (m : Int)) W := fun ts t W => by
    rw [run_min_int2, ← hm, ← hmx]
    unfold newM
    congr 2
    split <;> omega
  have cw : IntKind.i64.wrap ((m : Int) + 1) = (m : Int) + 1 := IntWalk.i64_in _ (by omega)
  have hmk := fun W => run_make_rep (P := Try.prog) Try.underlying22 (e := 39) (z := .int .u64 0) (by_ := 8) (by kernel_rfl) rfl .i64 .i64 (m + 1) (m + 1) (Nat.le_refl _) (by omega) (by omega) W
  rw [show ((m + 1 : Nat) : Int) = (m : Int) + 1 by omega] at hmk
  have HP0 := hide (putRing_any 0 0)
  have HP1 := hide (putRing_any (-1) (-1))
  rw [show putW 0 0 = (8193, 0) from rfl] at HP0
  rw [show putW (-1) (-1) = (0, 0) from rfl] at HP1
  have HN := hide (Blk.new w 39 (rep (m + 1) (.int .u64 0)))
  have HB := hide (below1 w (.cells (rep (m + 1) (.int .u64 0)) 39))
  rw [hm]
  clear hm hmx
  go_enter Try.func23, Try.ntmps23
  go_upto_region 2 with fail
  generalize World.alloc w _ = w1 at *
  have z0 : w1.cell? ⟨w.heap.size, 0, none⟩ = some (.int .u64 0) := by rw [HN.out.cell, rep_get _ _ _ (by omega)]
  have f0 := HN.out.frozen 0
  have g1 : (0 : Int) < ((m + 1 : Nat) : Int) := by omega
  have g2 : (0 : Int) < (m : Int) + 1 := by omega
  go_upto_region 3 with (go_at_call 32; refine (HP0.out _).mono ?_; rintro e _ ⟨rfl, rfl⟩)
  have HN2 := hide (HN.out.set_ 0 (.int .u64 8193))
  have HB2 := hide (HB.out.setCell (p := ⟨w.heap.size, 0, none⟩) (Nat.le_refl _) (.int .u64 8193))
  clear z0 f0
  generalize World.setCell w1 _ _ = w2 at *
  have HO := hide (show w2.ownsRow w.heap.size 39 1 (.slice (some ⟨w.heap.size, 0, none⟩) (m + 1) (m + 1)) (m + 1) (fcs encU (newW m)) by
    rw [← rep_newW]
    exact own_of_blk (by rw [Array.toArray_toList]; exact HN2.out) (Nat.le_refl _) (by simp [rep]) (by simp only [maxLen]; omega))
  clear HN HN2 HB
  rcases Nat.eq_zero_or_pos m with h00 | h00
  · subst h00
    simp only [Nat.zero_add] at HO ⊢
    go_wp2
    go_loopw [4, 19] (fun _ i wr => i = .int .i64 0 ∧ Hid (wr.ownsRow w.heap.size 39 1 (.slice (some ⟨w.heap.size, 0, none⟩) 1 1) 1 (fcs encU (newW 0))) ∧ Hid (Below w.heap.size w wr)) (fun _ i _ => 1)
    case atStart => exact ⟨rfl, HO, HB2⟩
    case round =>
      obtain ⟨rfl, HOr, HBr⟩ := hrel
      clear HO HB2
      go_wp2
      go_ret
      exact ⟨_, rfl, HOr.out, HBr.out⟩
  · have h01 : ¬ m = 0 := by omega
    have h02 : ¬ m + 1 = 1 := by omega
    go_wp2
    go_loopw [4, 19] (fun _ i wr => ∃ j : Nat, j ≤ m ∧ i = .int .i64 j ∧ Hid (wr.ownsRow w.heap.size 39 1 (.slice (some ⟨w.heap.size, 0, none⟩) (m + 1) (m + 1)) (m + 1) (fcs encU (newW m))) ∧ Hid (Below w.heap.size w wr)) (fun _ i _ => m - (intOf i).toNat)
    case atStart => exact ⟨0, by omega, rfl, HO, HB2⟩
    case round =>
      obtain ⟨j, hj, rfl, HOr, HBr⟩ := hrel
      clear HO HB2
      by_cases hlt : j < m
      · have h0 : (0 : Int) ≤ j := by omega
        have h1 : (j : Int) < m := by omega
        have h2 : (j : Int) + 1 < (m : Int) + 1 := by omega
        have h3 : (j : Int) + 1 < ((m + 1 : Nat) : Int) := by omega
        have h4 : ¬ ((j : Int) + 1 < 0) := by omega
        have h5 : (0 : Int) ≤ (j : Int) + 1 := by omega
        have cj : IntKind.i64.wrap ((j : Int) + 1) = ((j + 1 : Nat) : Int) := by rw [IntWalk.i64_in _ (by omega)]; omega
        have ca := HOr.out.cellAt (j + 1) (by omega)
        rw [newW_at hlt] at ca
        have fa := HOr.out.frozenAt (j + 1)
        have hst := HOr.out.stored (j + 1) (.int .u64 0)
        rw [newW_set hlt] at hst
        have HO3 := hide hst.1
        have HB3 := hide (HBr.out.setCell (p := ⟨w.heap.size, j + 1, none⟩) (Nat.le_refl _) (.int .u64 0))
        clear hst
        go_wp2_with (go_at_call 32; refine (HP1.out _).mono ?_; rintro e _ ⟨rfl, rfl⟩)
        go_roundw
        case rel => exact ⟨j + 1, by omega, by go_num, HO3, HB3⟩
        case measure => simp [intOf]; omega
      · obtain rfl : j = m := by omega
        have h1 : ¬ ((j : Int) < j) := by omega
        go_wp2
        go_ret
        exact ⟨_, rfl, HOr.out, HBr.out⟩
set_option maxHeartbeats 4000000 in
theorem refNone_any (w : World) : Calls Try.prog 40 #[] w fun e w' => e = .returned (.int .u64 0) ∧ w = w' := by
  have HP1 := hide (refPutRing_any (-1) (-1))
  rw [show putW (-1) (-1) = (0, 0) from rfl] at HP1
  go_enter Try.func40, Try.ntmps40
  go_wp2_with (go_at_call 33; refine (HP1.out _).mono ?_; rintro e _ ⟨rfl, rfl⟩)
  go_ret
  exact ⟨rfl, rfl⟩
set_option maxHeartbeats 4000000 in
theorem refNew_any (s : Int) (w : World) : Calls Try.prog 24 #[.int .i64 s] w fun e w' => ∃ v, e = .returned v ∧ w'.ownsRow w.heap.size 39 1 v (newM s + 1) (fcs encU (newW (newM s))) ∧ Below w.heap.size w w' := by
  have hm : newM s ≤ 4096 := by unfold newM; omega
  have hms : ∀ j : Nat, (1 ≤ j ∧ (j : Int) ≤ s ∧ (j : Int) ≤ 4096) ↔ (1 ≤ j ∧ j ≤ newM s) := fun j => by unfold newM; omega
  generalize newM s = m at *
  have HP0 := hide (refPutRing_any 0 0)
  rw [show putW 0 0 = (8193, 0) from rfl] at HP0
  have HN := hide refNone_any
  have HO := hide (show (w.alloc (.cells #[.int .u64 8193] 39)).ownsRow w.heap.size 39 1 (.slice (some ⟨w.heap.size, 0, none⟩) 1 1) 1 (fcs encU (newW 0)) from own_of_blk (cs := [.int .u64 8193]) (Blk.new w 39 _) (Nat.le_refl _) rfl (by decide))
  have HB := hide (below1 w (.cells #[.int .u64 8193] 39))
  have HMs := hide hms
  clear hms
  go_enter Try.func24, Try.ntmps24
  go_upto_region 3 with (go_at_call 33; refine (HP0.out _).mono ?_; rintro e _ ⟨rfl, rfl⟩)
  generalize World.alloc w _ = w1 at *
  go_wp2
  go_loopw [5, 6] (fun v i wr => ∃ j : Nat, j ≤ m ∧ i = .int .i64 (j + 1 : Nat) ∧ Hid (wr.ownsRow w.heap.size 39 1 v (j + 1) (fcs encU (newW j))) ∧ Hid (Below w.heap.size w wr)) (fun _ i _ => m + 1 - (intOf i).toNat)
  case atStart => exact ⟨0, by omega, rfl, HO, HB⟩
  case round =>
    obtain ⟨j, hj, rfl, HOr, HBr⟩ := hrel
    clear HO HB
    obtain ⟨AV, cV, rfl, o1, o2⟩ := own_form HOr.out
    have cj : IntKind.i64.wrap ((j : Int) + 1 + 1) = ((j + 1 + 1 : Nat) : Int) := by rw [IntWalk.i64_in _ (by omega)]; omega
    by_cases hlt : j < m
    · obtain ⟨q1, q2, q3⟩ := (HMs.out (j + 1)).2 ⟨by omega, by omega⟩
      have b1 : decide ((j : Int) + 1 ≤ s) = true := decide_eq_true (by omega)
      have b2 : decide ((j : Int) + 1 ≤ 4096) = true := decide_eq_true (by omega)
      have b3 : decide (j + 1 ≤ 4096) = true := decide_eq_true (by omega)
      have b4 : decide (j ≤ 4095) = true := decide_eq_true (by omega)
      clear q2 q3
      go_wp2_with (first
        | (go_at_call 40; refine (HN.out _).mono ?_; rintro e _ ⟨rfl, rfl⟩)
        | (at_builtin; refine wpList_append_elem rfl _ _ 22 rfl w.heap.size Try.underlying22 info_u64 rfl (by decide) (.slice AV (j + 1) cV) (j + 1) _ rfl HOr.out _ _ rfl rfl (by simp [Value.oneCell']) (by simp only [maxLen]; omega) (by omega) HBr.out.size ?_; intro v9 w9 hown9 hgr9 _; have HO9 := hide hown9; have HB9 := hide (below_own HBr.out HOr.out HBr.out.size hgr9); clear hown9 hgr9))
      go_roundw
      case rel => exact ⟨j + 1, by omega, by go_num, hide (by rw [newW_snoc, fcs_snoc]; exact HO9.out), HB9⟩
      case measure => simp [intOf]; omega
    · obtain rfl : j = m := by omega
      have hstop : ¬ (((j + 1 : Nat) : Int) ≤ s ∧ ((j + 1 : Nat) : Int) ≤ 4096) := fun h => by
        have := (HMs.out (j + 1)).1 ⟨by omega, h.1, h.2⟩
        omega
      by_cases c1 : (j : Int) + 1 ≤ s
      · have b1 : decide ((j : Int) + 1 ≤ s) = true := decide_eq_true c1
        have c2 : ¬ ((j : Int) + 1 ≤ 4096) := fun h => hstop ⟨by omega, by omega⟩
        have b2 : decide ((j : Int) + 1 ≤ 4096) = false := decide_eq_false c2
        have b3 : decide (j + 1 ≤ 4096) = false := decide_eq_false (by omega)
        have b4 : decide (j ≤ 4095) = false := decide_eq_false (by omega)
        clear hstop c1
        go_wp2
        go_ret
        exact ⟨_, rfl, HOr.out, HBr.out⟩
      · have b1 : decide ((j : Int) + 1 ≤ s) = false := decide_eq_false c1
        clear hstop c1
        go_wp2
        go_ret
        exact ⟨_, rfl, HOr.out, HBr.out⟩
end Go.Proofs.Ytoadcfjkommlkac
