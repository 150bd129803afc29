/-
  The package arena: New. No condition.
-/
import Derived.Test.YtoodcfldnojkjabArnN
namespace Go.Proofs.Ytoodcfldnojkjab
open Go.RowKit

def upTo (n k : Nat) : Array Value := ((List.range n).map fun i => Value.int .i64 (if i < k then ((n - i : Nat) : Int) else 0)).toArray
theorem upTo_size (n k : Nat) : (upTo n k).size = n := by simp [upTo]
theorem upTo_zero (n : Nat) : rep n (.int .i64 0) = upTo n 0 := by
  unfold rep upTo
  congr 1
  simp [List.map_const']
theorem upTo_get (n k i : Nat) (h : i < n) : (upTo n k)[i]? = some (.int .i64 (if i < k then ((n - i : Nat) : Int) else 0)) := by simp [upTo, h]
theorem upTo_set (n k : Nat) : (upTo n k).setIfInBounds k (.int .i64 ((n - k : Nat) : Int)) = upTo n (k + 1) := by
  unfold upTo
  rw [List.setIfInBounds_toArray]
  congr 1
  apply List.ext_getElem
  · simp
  · intro i h1 h2
    rw [List.getElem_set]
    simp
    by_cases e : k = i
    · subst e; simp
    · by_cases l : i < k
      · simp [e, l, show i < k + 1 by omega]
      · simp [e, l, show ¬ i < k + 1 by omega]
theorem upTo_end (n : Nat) : upTo n n = ((downTo n n).map (Value.int .i64)).toArray := by
  unfold upTo downTo
  congr 1
  rw [List.map_map]
  apply List.map_congr_left
  intro i hi
  simp at hi
  simp [hi]
theorem slots_zero (n : Nat) : madeCells #[.int .i64 0, .int .i64 0] (n * 2) = slots (List.replicate n 0) (List.replicate n 0) := by
  apply Array.ext
  · simp [size_madeCells, slots]; omega
  · intro i h1 h2
    simp [madeCells, slots, slotCell]
    have : i % 2 = 0 ∨ i % 2 = 1 := by omega
    rcases this with e | e <;> simp [e, List.getElem?_replicate] <;> split <;> rfl
theorem cnt_rep (n : Nat) (v : Int) : cnt (List.replicate (n + 1) 0) v = if v = 0 then n else 0 := by
  unfold cnt
  simp [List.replicate_succ, List.count_replicate]
  by_cases e : v = 0
  · simp [e]
  · simp [e, Ne.symm e]
def head0 (Q F n : Nat) (c0 : Int) : Array Value := #[.slice (some ⟨Q, 0, none⟩) (n + 1) (n + 1), .slice (some ⟨F, 0, none⟩) n n, .int .i64 c0, .int .i64 0, .int .i64 0, .int .i64 0, .int .i64 0]
structure MadeAt (w wr : World) (n P Q F k : Nat) : Prop where
  p0 : Blk wr P 53 (head0 Q F n 0)
  q0 : Blk wr Q 59 (slots (List.replicate (n + 1) 0) (List.replicate (n + 1) 0))
  f0 : Blk wr F 3 (upTo n k)
  hb : Below w.heap.size w wr
  lp : w.heap.size ≤ P
  lq : w.heap.size ≤ Q
  lf : w.heap.size ≤ F

set_option maxHeartbeats 1000000 in
theorem new_no (n : Int) (w : World) (h : n < 1 ∨ 4096 < n) :
    Calls Try.prog 6 #[.int .i64 n] w fun e w' => e = .returned (.tuple #[.pointer none, .int .i64 6]) ∧ w = w' := by
  have h2 : n < 1 ∨ (1 ≤ n ∧ 4096 < n) := by omega
  clear h
  rcases h2 with h | ⟨h0, h⟩
  all_goals
    go_enter Try.func6, Try.ntmps6
    go_wp2
    go_ret2
    exact ⟨rfl, rfl⟩

set_option maxHeartbeats 4000000 in
theorem new_yes (n : Nat) (w : World) (h1 : 1 ≤ n) (h4 : n ≤ 4096) :
    Calls Try.prog 6 #[.int .i64 n] w fun e w' => ∃ P Q fv, e = .returned (.tuple #[.pointer (some ⟨P, 0, none⟩), .int .i64 0]) ∧ ArnAt w' w.heap.size P Q fv (Arn.init n) ∧ Below w.heap.size w w' := by
  have hmk1 := fun W => run_make_rep (P := Try.prog) Try.underlying28 (e := 3) (z := .int .i64 0) (by_ := 8) (by kernel_rfl) rfl .i64 .i64 n n (Nat.le_refl _) (by omega) (by omega) W
  obtain ⟨i0, hi, hz0, hz1, hz2⟩ := info_parts (show (Try.prog.info? 59).map (fun i => (i.zero, i.size, i.bytes)) = some (some (.agg #[.int .i64 0, .int .i64 0]), 2, 16) by kernel_rfl)
  have hmk2 := fun W => run_make_rowN (P := Try.prog) 50 59 i0 _ Try.underlying50 hi hz0 .i64 .i64 (n + 1) (n + 1) (Nat.le_refl _) (by rw [hz2]; omega) (by omega) W
  simp only [Value.cells, hz1, slots_zero, Int.natCast_add, Int.natCast_one] at hmk2
  simp only [upTo_zero] at hmk1
  have hw1 : IntKind.i64.wrap ((n : Int) + 1) = (n : Int) + 1 := IntWalk.i64_in _ (by omega)
  clear hi hz0 hz1 hz2
  go_enter Try.func6, Try.ntmps6
  go_upto_region 3 with fail
  go_cut [4] (fun s4 wx => ∃ P Q F, s4 = .pointer (some ⟨P, 0, none⟩) ∧ MadeAt w wx n P Q F 0)
  case first =>
    go_region
    all_goals
      go_wp2_with fail
      go_meet
      case rel => first
        | (with_reducible exact ⟨w.heap.size + 1 + 1, w.heap.size, w.heap.size + 1, rfl, ⟨(blk3 w _ _ _ _ _ _).2.2.1.drew, (blk3 w _ _ _ _ _ _).1.drew, (blk3 w _ _ _ _ _ _).2.1.drew, (blk3 w _ _ _ _ _ _).2.2.2.drew, by omega, by omega, by omega⟩⟩)
        | (with_reducible exact ⟨w.heap.size + 1 + 1, w.heap.size + 1, w.heap.size, rfl, ⟨(blk3 w _ _ _ _ _ _).2.2.1.drew, (blk3 w _ _ _ _ _ _).2.1.drew, (blk3 w _ _ _ _ _ _).1.drew, (blk3 w _ _ _ _ _ _).2.2.2.drew, by omega, by omega, by omega⟩⟩)
  case rest =>
    obtain ⟨P, Q, F, rfl, hN⟩ := hcut
    have c1 : wc.cell? ⟨P, 1, none⟩ = some (.slice (some ⟨F, 0, none⟩) n n) := by rw [hN.p0.cell]; rfl
    have HN := hide hN
    clear hN hmk1 hmk2 hw1
    go_wp2_with fail
    clear c1
    go_loopw [5, 24] (fun _ i wr => ∃ k : Nat, k ≤ n ∧ i = .int .i64 k ∧ MadeAt w wr n P Q F k) (fun _ i _ => n - (intOf i).toNat)
    case atStart => exact ⟨0, by omega, rfl, HN.out⟩
    case round =>
      obtain ⟨k, hk, rfl, hA⟩ := hrel
      by_cases hlt : k < n
      · have c1 : wr.cell? ⟨P, 1, none⟩ = some (.slice (some ⟨F, 0, none⟩) n n) := by rw [hA.p0.cell]; rfl
        have c2 : wr.cell? ⟨F, k, none⟩ = some (.int .i64 (if k < k then ((n - k : Nat) : Int) else 0)) := by rw [hA.f0.cell, upTo_get n k k hlt]
        rw [if_neg (by omega)] at c2
        have f2 := hA.f0.frozen k
        have hs : IntKind.i64.wrap ((n : Int) - (k : Int)) = ((n - k : Nat) : Int) := by rw [IntWalk.i64_in _ (by omega)]; omega
        have hs2 : (n : Int) - (k : Int) = ((n - k : Nat) : Int) := by omega
        have nPF : P ≠ F := hA.p0.ne_ hA.f0 (by decide)
        have nQF : Q ≠ F := hA.q0.ne_ hA.f0 (by decide)
        have HA := hide hA
        have HS := hide hs2
        clear hA HN hs2 hs
        go_wp2
        go_roundw
        case rel =>
          have y := HA.out
          rw [HS.out]
          exact ⟨k + 1, by omega, by go_num, ⟨y.p0.far (fun e => nPF e) _, y.q0.far (fun e => nQF e) _, by rw [← upTo_set]; exact y.f0.set_ k _, y.hb.setCell y.lf _, y.lp, y.lq, y.lf⟩⟩
        case measure => first | (simp [intOf]; done) | (simp [intOf]; omega)
      · obtain rfl : k = n := by omega
        have c1 : wr.cell? ⟨P, 2, none⟩ = some (.int .i64 0) := by rw [hA.p0.cell]; rfl
        have f1 := hA.p0.frozen 2
        have nPF : P ≠ F := hA.p0.ne_ hA.f0 (by decide)
        have nPQ : P ≠ Q := hA.p0.ne_ hA.q0 (by decide)
        have HA := hide hA
        clear hA HN
        go_wp2
        go_ret2
        have y := HA.out
        have hown : wr.ownsRow w.heap.size 3 1 (.slice (some ⟨F, 0, none⟩) k k) k ((downTo k k).map (Value.int .i64)) :=
          ⟨by simp [downTo], .inr ⟨F, k, _, rfl, y.lf, y.f0, Nat.le_refl _, by simp [maxLen]; omega, by simp [upTo], by rw [upTo_end]; simp [downTo]; exact List.take_of_length_le (by simp)⟩⟩
        refine ⟨P, Q, .slice (some ⟨F, 0, none⟩) k k, rfl, ⟨⟨?_, ?_⟩, ?_, y.lp, y.lq⟩, y.hb.setCell y.lp _⟩
        · have h := y.p0.set_ 2 (.int .i64 k)
          have e : (head0 Q F k 0).setIfInBounds 2 (.int .i64 k) = head Q (Arn.init k).S.length (.slice (some ⟨F, 0, none⟩) k k) (Arn.init k).S := by
            simp [Arn.init, head, head0, cnt_rep]
          rw [← e]; exact h
        · exact y.q0.far (fun e => nPQ e.symm) _
        · have e : (Arn.init k).K.length = k := by simp [Arn.init, downTo]
          rw [e]
          exact own_keep hown fun g hg => Below.heap_setCell _ _ _ _ (by rintro rfl; simp [Value.ownBlock] at hg; exact nPF hg.symm)
end Go.Proofs.Ytoodcfldnojkjab
