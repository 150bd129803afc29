/-
  The package edges: whether lists of pairs are equal. Conditions: the slices read as lists of pairs.
-/
import Derived.Test.YtggbokgacffamaaEdgN
namespace Go.Proofs.Ytggbokgacffamaa
open Go.RowKit

theorem run_equal_pr (a b c d : Int) (W : World) : (Op.equalIn 10000 45 (.agg #[.int .i64 a, .int .i64 b]) (.agg #[.int .i64 c, .int .i64 d])).run Try.prog W = .ok (a == c && b == d) W := by
  rw [show (10000 : Nat) = 9998 + 2 from rfl, run_equalIn_intArray (P := Try.prog) W 9998 45 3 2 .i64 _ _ Try.underlying45 Try.underlying3 (by kernel_rfl) (fun i hi => ?_) (fun i hi => ?_)]
  · simp [eqUpTo, List.range_succ]
  all_goals
    have : i = 0 ∨ i = 1 := by omega
    rcases this with rfl | rfl
    · exact ⟨_, rfl⟩
    · exact ⟨_, rfl⟩
theorem run_neq_pr (a b c d : Int) {r : Bool} (h : (a == c && b == d) = r) (W : World) : (binOp .neq 45 (.agg #[.int .i64 a, .int .i64 b]) (.agg #[.int .i64 c, .int .i64 d])).run Try.prog W = .ok (.bool (!r)) W := by
  rw [run_neq_struct, run_equal_pr, h]; rfl
theorem pr_same {x y : Int × Int} (h : x = y) : (x.1 == y.1 && x.2 == y.2) = true := by subst h; simp
theorem pr_other {x y : Int × Int} (h : x ≠ y) : (x.1 == y.1 && x.2 == y.2) = false := by
  cases h1 : (x.1 == y.1 && x.2 == y.2) with
  | false => rfl
  | true => simp at h1; exact (h (Prod.ext h1.1 h1.2)).elim
theorem lens_falseP {α : Type} [DecidableEq α] {xs ys : List α} (h : xs.length ≠ ys.length) : decide (xs = ys) = false := decide_eq_false (fun e => h (by rw [e]))
theorem at_falseP {α : Type} [DecidableEq α] {xs ys : List α} {k : Nat} {x y : α} (hx : xs[k]? = some x) (hy : ys[k]? = some y) (h : x ≠ y) : decide (xs = ys) = false :=
  decide_eq_false (fun e => h (by rw [e, hy] at hx; injection hx with hx; exact hx.symm))
set_option maxHeartbeats 1000000 in
theorem samePairs_any (A B : Option Addr) (n c m d : Nat) (xs ys : List (Int × Int)) (w : World) (hx : Rd SPr w w.heap.size A xs) (hn : xs.length = n) (hc : n ≤ c) (hm : c ≤ 9223372036854775807)
    (hy : Rd SPr w w.heap.size B ys) (hn' : ys.length = m) (hd : m ≤ d) (hm' : d ≤ 9223372036854775807) :
    Calls Try.prog 19 #[.slice A n c, .slice B m d] w fun e w' => e = .returned (.bool (decide (xs = ys))) ∧ Drew w w' := by
  have Hn := hide hn
  have Hm := hide hn'
  by_cases hnm : n = m
  · subst hnm
    clear hn hn'
    go_enter Try.func19, Try.ntmps19
    go_wp2
    go_loopw [5, 13] (fun _ i wr => ∃ k : Nat, k ≤ n ∧ i = .int .i64 k ∧ Hid (xs.take k = ys.take k) ∧ Drew w wr) (fun _ i _ => n - (intOf i).toNat)
    case atStart => exact ⟨0, by omega, rfl, hide (by simp), Drew.refl _⟩
    case round =>
      obtain ⟨k, hk, rfl, ht, j, rfl⟩ := hrel
      by_cases hlt : k < n
      · obtain ⟨ad, ⟨x1, x2⟩, rfl, _, hx1, c1, c1'⟩ := RdR.pcell hx (k := k) (by have := Hn.out; omega)
        obtain ⟨ad2, ⟨y1, y2⟩, rfl, _, hy1, c2, c2'⟩ := RdR.pcell hy (k := k) (by have := Hm.out; omega)
        simp only at c1 c1' c2 c2'
        have h0 : (0 : Int) ≤ k := by omega
        have h1 : (k : Int) < n := by omega
        by_cases e : (x1, x2) = (y1, y2)
        · have HT := hide (show xs.take (k + 1) = ys.take (k + 1) by rw [takeI_snoc hx1, takeI_snoc hy1, ht.out, e])
          have he := run_neq_pr x1 x2 y1 y2 (pr_same e)
          clear hx hy hx1 hy1 e
          go_upto_region 6 with fail
          go_quiet (fail)
          go_wp2
          go_roundw
          case rel => exact ⟨k + 1, by omega, by go_num, HT, by first | exact ⟨_, rfl⟩ | exact drewN_drewN' _ _ _⟩
          case measure => simp [intOf]; omega
        · have HF := hide (at_falseP hx1 hy1 e)
          have he := run_neq_pr x1 x2 y1 y2 (pr_other e)
          clear hx hy hx1 hy1 e
          go_upto_region 6 with fail
          go_quiet (fail)
          go_wp2
          go_ret
          exact ⟨by rw [HF.out]; rfl, by first | exact ⟨_, rfl⟩ | exact drewN_drewN' _ _ _⟩
      · obtain rfl : k = n := by omega
        have HF := hide (show decide (xs = ys) = true from decide_eq_true (by
          have h := ht.out
          rwa [List.take_of_length_le (by have := Hn.out; omega), List.take_of_length_le (by have := Hm.out; omega)] at h))
        clear hx hy
        go_wp2
        go_ret
        exact ⟨by rw [HF.out]; rfl, by first | exact ⟨_, rfl⟩ | exact drewN_drewN' _ _ _⟩
  · have HF := hide (lens_falseP (xs := xs) (ys := ys) (by rw [Hn.out, Hm.out]; exact hnm))
    have hb : ((n : Int) != (m : Int)) = true := by simp; omega
    clear hx hy hn hn'
    go_enter Try.func19, Try.ntmps19
    go_wp2
    go_ret
    exact ⟨by rw [HF.out]; rfl, Drew.refl _⟩
end Go.Proofs.Ytggbokgacffamaa
