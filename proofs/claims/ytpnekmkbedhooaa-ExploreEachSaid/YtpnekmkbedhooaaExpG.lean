/-
  The package explore: the program's functions: what is left, one pick less, counts. Condition: the triangle lies in its block.
-/
import Derived.Test.YtpnekmkbedhooaaExpF
import Derived.Deep.MidRow
namespace Go.Proofs.Ytpnekmkbedhooaa
open Go.RowKit

/-- the cells of a 'left' -/
def leftF (l : List Nat) (i : Nat) : Int := if i < 16 then ((l.getD i 0 : Nat) : Int) else ((l.sum : Nat) : Int)
def leftV (l : List Nat) : Value := .agg (ics .i64 (leftF l) 17)
/-- the cells of the triangle -/
def triF (i : Nat) : Int := ((hN (pas (i / 65) (i % 65)) : Nat) : Int)
abbrev Tri (w : World) (g : Nat) : Prop := Blk w g 58 (ics .u64 triF 4225)
theorem tri_cell {w : World} {g : Nat} (h : Tri w g) {t y : Nat} (ht : t ≤ 64) (hy : y ≤ 64) : w.cell? ⟨g, t * 65 + y, none⟩ = some (.int .u64 (hN (pas t y) : Nat)) := by
  rw [h.cell, ics_get _ _ _ _ (by omega)]
  unfold triF
  rw [show (t * 65 + y) / 65 = t by omega, show (t * 65 + y) % 65 = y by omega]
theorem sumTo_succ' (l : List Nat) (k : Nat) : sumTo l (k + 1) = sumTo l k + l.getD k 0 := by
  rcases Nat.lt_or_ge k l.length with h | h
  · exact sumTo_succ h
  · rw [sumTo_all (by omega), sumTo_all h, List.getD_eq_getElem?_getD, List.getElem?_eq_none h]; rfl
theorem mt_out {l : List Nat} {k : Nat} (h : l.length ≤ k) : mt 0 l k = multi 0 l := by
  induction k with
  | zero => rw [← mt_all, show l.length = 0 by omega]
  | succ k ih =>
    rcases Nat.lt_or_ge k l.length with h' | h'
    · rw [← mt_all, show l.length = k + 1 by omega]
    · rw [mt, ih h', List.getD_eq_getElem?_getD, List.getElem?_eq_none h']; simp [pas_zero]
theorem left_cells (l : List Nat) (j : Nat) (v : Value) (h : (((List.range 16).map fun i => Value.int .i64 ((l.getD i 0 : Nat) : Int)))[j]? = some v) : j < 16 ∧ v = .int .i64 (leftF l j) := by
  rw [List.getElem?_map, Option.map_eq_some_iff] at h
  obtain ⟨i, hi, rfl⟩ := h
  have hj : j < 16 := by have := (List.getElem?_eq_some_iff.1 hi).1; simpa using this
  rw [List.getElem?_range hj] at hi
  injection hi with hi
  subst hi
  exact ⟨hj, by rw [leftF, if_pos hj]⟩

def left16 (l : List Nat) : List Value := (List.range 16).map fun i => Value.int .i64 ((l.getD i 0 : Nat) : Int)
theorem i16 (l : List Nat) : (Try.prog.info? 43).map (·.size) = some (left16 l).length := by rw [show (left16 l).length = 16 by simp [left16]]; kernel_rfl
theorem left16_arr (l : List Nat) : (left16 l).toArray = ics .i64 (leftF l) 16 := by
  unfold left16 ics
  congr 1

set_option maxHeartbeats 2000000 in
theorem count_any (g : Nat) (l : List Nat) (w : World) (hg : Tri w g) (hl : l.length ≤ 16) (hs : l.sum ≤ 64) :
    Calls Try.prog 16 #[leftV l, .pointer (some ⟨g, 0, none⟩)] w fun e w' => e = .returned (.int .u64 (hN (multi 0 l) : Nat)) ∧ Below w.heap.size w w' := by
  have Hs := hide hs
  have HG := hide hg
  have HB := hide (Blk.new w 45 (ics .i64 (leftF l) 17))
  have HR := hide (show (w.alloc (.cells (ics .i64 (leftF l) 17) 45)).rangeAt w.heap.size 0 (left16 l) from fun j v hv => by
    obtain ⟨hj, rfl⟩ := left_cells l j v hv
    rw [Nat.zero_add, HB.out.cell, ics_get _ _ _ _ (by omega)])
  have HG := hide (HG.out.alloc (.cells (ics .i64 (leftF l) 17) 45))
  have HBL := hide (below1 w (.cells (ics .i64 (leftF l) 17) 45))
  clear hg hs
  unfold leftV
  go_enter Try.func16, Try.ntmps16
  go_wp2_with (refine wpList_load_mid rfl 43 (.tmp 9) rfl w.heap.size 0 rfl (left16 l) _ HR.out Try.underlying43 rfl (i16 l) ?_)
  rw [left16_arr]
  generalize w.alloc (.cells (ics .i64 (leftF l) 17) 45) = w1 at *
  go_loopw [5, 6, 11] (fun p s i wr => ∃ k : Nat, k ≤ 16 ∧ i = .int .i64 k ∧ s = .int .i64 (sumTo l k : Nat) ∧ p = .int .u64 (hN (mt 0 l k) : Nat) ∧ wr = w1) (fun _ _ i _ => 16 - (intOf i).toNat)
  case atStart => exact ⟨0, by omega, rfl, by rw [sumTo_zero]; rfl, rfl, rfl⟩
  case round =>
    obtain ⟨k, hk, rfl, rfl, rfl, rfl⟩ := hrel
    by_cases hlt : k < 16
    · have g0 : (0 : Int) ≤ k := by omega
      have g1 : (k : Int) < 16 := by omega
      have hix := fun W => run_index_intArray (P := Try.prog) W (kd := .i64) Try.underlying43 Try.underlying3 (by kernel_rfl) hlt (ics_get .i64 (leftF l) 16 k hlt)
      have hlf : leftF l k = ((l.getD k 0 : Nat) : Int) := by rw [leftF, if_pos hlt]
      rw [hlf] at hix
      have HS1 := hide (show sumTo l (k + 1) ≤ 64 by have := sumTo_le l (k + 1); have := Hs.out; omega)
      have Hs2 : wrap64 (((sumTo l k : Nat) : Int) + ((l.getD k 0 : Nat) : Int)) = (sumTo l (k + 1) : Nat) := by
        have h1 := sumTo_succ' l k
        have h3 := HS1.out
        rw [h1, wrap64_i64, IntKind.wrap_i64]; omega
      have Hs3 : IntKind.i64.wrap (((sumTo l k : Nat) : Int) + ((l.getD k 0 : Nat) : Int)) = (sumTo l (k + 1) : Nat) := by rw [← wrap64_i64]; exact Hs2
      have HG1 := hide (show l.getD k 0 ≤ sumTo l (k + 1) by have := sumTo_succ' l k; omega)
      have HM := hide (mt_step (l := l) (k := k))
      clear hlf
      generalize l.getD k 0 = y at *
      generalize sumTo l k = s at *
      generalize hT : sumTo l (k + 1) = t at *
      have HT := hide hT
      clear hT
      have HC := hide (fun W => product_any (hN (mt 0 l k)) (hN (pas t y)) W (hN_lt _) (hN_lt _))
      rw [HM.out] at HC
      have q0 := tri_cell HG.out (t := t) (y := y) HS1.out (by have := HG1.out; have := HS1.out; omega)
      have q1 : (t : Int) < 65 := by have := HS1.out; omega
      have q2 : (y : Int) < 65 := by have := HS1.out; have := HG1.out; omega
      go_wp2_with (go_at_call 26; refine (HC.out _).mono ?_; rintro e w5 ⟨rfl, rfl⟩)
      go_roundw
      case rel => exact ⟨k + 1, by omega, by go_num, by rw [HT.out], rfl, by first | rfl | trivial⟩
      case measure => simp [intOf]; omega
    · obtain rfl : k = 16 := by omega
      have HSA := hide (mt_out hl)
      go_wp2
      go_ret
      exact ⟨by rw [← HSA.out]; rfl, HBL.out⟩
end Go.Proofs.Ytpnekmkbedhooaa
