/-
  The package pack, and the document's: words of a slot's places in the ring. Conditions: the numbers are of their kinds.
-/
import Derived.Test.YtoadcfjkommlkacLib2
import Derived.Test.YtoadcfjkommlkacChecked
import Derived.RegionTactic
import Derived.Laws.BitsAllLaws
import Derived.IntWalk
import Derived.BigRegion
namespace Go.Proofs.Ytoadcfjkommlkac
set_option linter.unusedSimpArgs false
set_option linter.unusedVariables false
open Go.RowKit

/-- a word's parts: Next, Prev, error -/
def ringW (w : Int) : Int × Int × Int :=
  if w / 67108864 = 0 ∧ w % 8192 ≤ 4097 ∧ w / 8192 % 8192 ≤ 4097 then (w % 8192 - 1, w / 8192 % 8192 - 1, 0) else (0, 0, 6)
/-- the word of Next, Prev -/
def putW (n p : Int) : Int × Int := if -1 ≤ n ∧ n ≤ 4096 ∧ -1 ≤ p ∧ p ≤ 4096 then ((n + 1) + (p + 1) * 8192, 0) else (0, 6)
def U64 (x : Int) : Prop := 0 ≤ x ∧ x < 18446744073709551616
theorem low_eq {x : Int} (h : U64 x) : IntKind.u64.wrap (x * 2251799813685248) / 2251799813685248 = x % 8192 := by
  rw [IntKind.wrap_u64]; unfold U64 at h; omega
theorem or_put {n p : Int} (hn : -1 ≤ n ∧ n ≤ 4096) (hp : -1 ≤ p ∧ p ≤ 4096) : bits .or .u64 ((p + 1) * 8192) (n + 1) = (n + 1) + (p + 1) * 8192 := by
  obtain ⟨a, ha⟩ : ∃ a : Nat, n + 1 = a := ⟨(n + 1).toNat, by omega⟩
  obtain ⟨b, hb⟩ : ∃ b : Nat, p + 1 = b := ⟨(p + 1).toNat, by omega⟩
  have h := Nat.shiftLeft_add_eq_or_of_lt (b := a) (i := 13) (show a < 2 ^ 13 by omega) b
  rw [ha, hb]
  have h2 : b <<< 13 = b * 8192 := by rw [Nat.shiftLeft_eq]
  rw [h2] at h
  have e1 : ((b : Int) * 8192) = ((b * 8192 : Nat) : Int) := by omega
  rw [e1, u64_or_nat _ _ (by omega) (by omega), ← h]
  omega
set_option maxHeartbeats 1000000 in
theorem slot_any (n k : Int) (w : World) : Calls Try.prog 42 #[.int .i64 n, .int .i64 k] w fun e w' => e = .returned (.bool (decide (k ≤ n ∧ n ≤ 4096))) ∧ w = w' := by
  by_cases h1 : k ≤ n
  · have b1 : decide (k ≤ n) = true := decide_eq_true h1
    go_enter Try.func42, Try.ntmps42
    go_wp2
    go_ret
    exact ⟨by simp [h1], rfl⟩
  · have b1 : decide (k ≤ n) = false := decide_eq_false h1
    go_enter Try.func42, Try.ntmps42
    go_wp2
    go_ret
    exact ⟨by simp [h1], rfl⟩
set_option maxHeartbeats 1000000 in
theorem low_any (x : Int) (h : U64 x) (w : World) : Calls Try.prog 46 #[.int .u64 x, .int .i64 13] w fun e w' => e = .returned (.int .u64 (x % 8192)) ∧ w = w' := by
  have hl := low_eq h
  go_enter Try.func46, Try.ntmps46
  go_wp2
  go_ret
  exact ⟨by first | rfl | (show Ending.returned (.int .u64 (IntKind.u64.wrap (x * 2251799813685248) / 2251799813685248)) = _; rw [hl]), rfl⟩
set_option maxHeartbeats 1000000 in
theorem cut_any (x : Int) (h : U64 x) (w : World) : Calls Try.prog 41 #[.int .u64 x, .int .i64 13, .int .i64 1] w fun e w' => e = .returned (.tuple #[.int .i64 (x % 8192 - 1), .int .i64 (x / 8192 % 8192 - 1), .bool (decide (x / 67108864 = 0 ∧ x % 8192 ≤ 4097))]) ∧ w = w' := by
  have H1 := hide (low_any x h)
  have H2 := hide (low_any (x / 8192) (by unfold U64 at *; omega))
  have c1 : IntKind.i64.wrap (x % 8192) = x % 8192 := IntWalk.i64_in _ (by omega)
  have c2 : IntKind.i64.wrap (x / 8192 % 8192) = x / 8192 % 8192 := IntWalk.i64_in _ (by omega)
  have c3 : IntKind.i64.wrap (x % 8192 - 1) = x % 8192 - 1 := IntWalk.i64_in _ (by omega)
  have c4 : IntKind.i64.wrap (x / 8192 % 8192 - 1) = x / 8192 % 8192 - 1 := IntWalk.i64_in _ (by omega)
  by_cases h1 : x / 67108864 = 0
  · have b1 : (x / 67108864 == 0) = true := by simpa using h1

    clear h
    go_enter Try.func41, Try.ntmps41
    go_wp2_with (first
      | (go_at_call 46; with_reducible refine Calls.mono (H1.out _) ?_; rintro e _ ⟨rfl, rfl⟩)
      | (go_at_call 46; with_reducible refine Calls.mono (H2.out _) ?_; rintro e _ ⟨rfl, rfl⟩))
    go_ret3
    have b3 : decide (x % 8192 ≤ 4097) = decide (x / 67108864 = 0 ∧ x % 8192 ≤ 4097) := decide_eq_decide.2 ⟨fun h => ⟨h1, h⟩, fun h => h.2⟩
    have b4 : decide (x % 8192 - 1 ≤ 4096) = decide (x / 67108864 = 0 ∧ x % 8192 ≤ 4097) := decide_eq_decide.2 ⟨fun h => ⟨h1, by omega⟩, fun h => by omega⟩
    exact ⟨by first | (rw [← b3]; rfl) | (rw [← b4]; rfl), rfl⟩
  · have b1 : (x / 67108864 == 0) = false := by simpa using h1
    have b2 : decide (x / 67108864 = 0 ∧ x % 8192 ≤ 4097) = false := decide_eq_false fun h => h1 h.1
    clear h
    go_enter Try.func41, Try.ntmps41
    go_wp2_with (first
      | (go_at_call 46; with_reducible refine Calls.mono (H1.out _) ?_; rintro e _ ⟨rfl, rfl⟩)
      | (go_at_call 46; with_reducible refine Calls.mono (H2.out _) ?_; rintro e _ ⟨rfl, rfl⟩))
    go_ret3
    exact ⟨by first | rfl | (simp [b2]; done) | (simp [h1]; done), rfl⟩
set_option maxHeartbeats 1000000 in
theorem ring_word (x : Int) (h : U64 x) (w : World) : Calls Try.prog 25 #[.int .u64 x] w fun e w' => e = .returned (.tuple #[.int .i64 (ringW x).1, .int .i64 (ringW x).2.1, .int .i64 (ringW x).2.2]) ∧ w = w' := by
  have H1 := hide (cut_any x h)
  by_cases h1 : x / 67108864 = 0 ∧ x % 8192 ≤ 4097
  · have b1 : decide (x / 67108864 = 0 ∧ x % 8192 ≤ 4097) = true := decide_eq_true h1
    rw [b1] at H1
    by_cases h2 : x / 8192 % 8192 ≤ 4097
    · have b2 : decide (4096 < x / 8192 % 8192 - 1) = false := decide_eq_false (by omega)
      have e : ringW x = (x % 8192 - 1, x / 8192 % 8192 - 1, 0) := by unfold ringW; rw [if_pos ⟨h1.1, h1.2, h2⟩]
      rw [e]
      clear h h1 e b1
      go_enter Try.func25, Try.ntmps25
      go_wp2_with (go_at_call 41; refine (H1.out _).mono ?_; rintro e _ ⟨rfl, rfl⟩)
      go_ret3
      exact ⟨rfl, rfl⟩
    · have b2 : decide (4096 < x / 8192 % 8192 - 1) = true := decide_eq_true (by omega)
      have e : ringW x = (0, 0, 6) := by unfold ringW; rw [if_neg fun h => h2 h.2.2]
      rw [e]
      clear h h1 e b1
      go_enter Try.func25, Try.ntmps25
      go_wp2_with (go_at_call 41; refine (H1.out _).mono ?_; rintro e _ ⟨rfl, rfl⟩)
      go_ret3
      exact ⟨rfl, rfl⟩
  · have b1 : decide (x / 67108864 = 0 ∧ x % 8192 ≤ 4097) = false := decide_eq_false h1
    have e : ringW x = (0, 0, 6) := by unfold ringW; rw [if_neg fun h => h1 ⟨h.1, h.2.1⟩]
    rw [b1] at H1
    rw [e]
    clear h h1 e b1
    go_enter Try.func25, Try.ntmps25
    go_wp2_with (go_at_call 41; refine (H1.out _).mono ?_; rintro e _ ⟨rfl, rfl⟩)
    go_ret3
    exact ⟨rfl, rfl⟩
set_option maxHeartbeats 1000000 in
theorem putRing_any (n p : Int) (w : World) : Calls Try.prog 32 #[.int .i64 n, .int .i64 p] w fun e w' => e = .returned (.tuple #[.int .u64 (putW n p).1, .int .i64 (putW n p).2]) ∧ w = w' := by
  have H1 := hide (slot_any n (-1))
  have H2 := hide (slot_any p (-1))
  by_cases h1 : -1 ≤ n ∧ n ≤ 4096
  · rw [decide_eq_true h1] at H1
    by_cases h2 : -1 ≤ p ∧ p ≤ 4096
    · rw [decide_eq_true h2] at H2
      have e : putW n p = ((n + 1) + (p + 1) * 8192, 0) := by unfold putW; rw [if_pos ⟨h1.1, h1.2, h2.1, h2.2⟩]
      rw [e]
      have ho := or_put h1 h2
      have c1 : IntKind.i64.wrap (n + 1) = n + 1 := IntWalk.i64_in _ (by omega)
      have c2 : IntKind.i64.wrap (p + 1) = p + 1 := IntWalk.i64_in _ (by omega)
      have c3 : IntKind.u64.wrap (n + 1) = n + 1 := by rw [IntKind.wrap_u64]; omega
      have c4 : IntKind.u64.wrap (p + 1) = p + 1 := by rw [IntKind.wrap_u64]; omega
      have c5 : IntKind.u64.wrap ((p + 1) * 8192) = (p + 1) * 8192 := by rw [IntKind.wrap_u64]; omega
      clear h1 h2 e
      go_enter Try.func32, Try.ntmps32
      go_wp2_with (first
        | (go_at_call 42; with_reducible refine Calls.mono (H1.out _) ?_; rintro e _ ⟨rfl, rfl⟩)
        | (go_at_call 42; with_reducible refine Calls.mono (H2.out _) ?_; rintro e _ ⟨rfl, rfl⟩))
      go_ret2
      exact ⟨by first | rfl | (simp [ho]; done), rfl⟩
    · rw [decide_eq_false h2] at H2
      have e : putW n p = (0, 6) := by unfold putW; rw [if_neg fun h => h2 h.2.2]
      rw [e]
      clear h1 h2 e
      go_enter Try.func32, Try.ntmps32
      go_wp2_with (first
        | (go_at_call 42; with_reducible refine Calls.mono (H1.out _) ?_; rintro e _ ⟨rfl, rfl⟩)
        | (go_at_call 42; with_reducible refine Calls.mono (H2.out _) ?_; rintro e _ ⟨rfl, rfl⟩))
      go_ret2
      exact ⟨rfl, rfl⟩
  · rw [decide_eq_false h1] at H1
    have e : putW n p = (0, 6) := by unfold putW; rw [if_neg fun h => h1 ⟨h.1, h.2.1⟩]
    rw [e]
    clear h1 e
    go_enter Try.func32, Try.ntmps32
    go_wp2_with (go_at_call 42; with_reducible refine Calls.mono (H1.out _) ?_; rintro e _ ⟨rfl, rfl⟩)
    go_ret2
    exact ⟨rfl, rfl⟩
set_option maxHeartbeats 1000000 in
theorem refPutRing_any (n p : Int) (w : World) : Calls Try.prog 33 #[.int .i64 n, .int .i64 p] w fun e w' => e = .returned (.tuple #[.int .u64 (putW n p).1, .int .i64 (putW n p).2]) ∧ w = w' := by
  by_cases h1 : n < -1
  · have b1 : decide (n < -1) = true := decide_eq_true h1
    have e : putW n p = (0, 6) := by unfold putW; rw [if_neg fun h => by omega]
    rw [e]
    clear h1 e
    go_enter Try.func33, Try.ntmps33
    go_wp2
    go_ret2
    exact ⟨rfl, rfl⟩
  have b1 : decide (n < -1) = false := decide_eq_false h1
  by_cases h2 : 4096 < n
  · have b2 : decide (4096 < n) = true := decide_eq_true h2
    have e : putW n p = (0, 6) := by unfold putW; rw [if_neg fun h => by omega]
    rw [e]
    clear h1 h2 e
    go_enter Try.func33, Try.ntmps33
    go_wp2
    go_ret2
    exact ⟨rfl, rfl⟩
  have b2 : decide (4096 < n) = false := decide_eq_false h2
  by_cases h3 : p < -1
  · have b3 : decide (p < -1) = true := decide_eq_true h3
    have e : putW n p = (0, 6) := by unfold putW; rw [if_neg fun h => by omega]
    rw [e]
    clear h1 h2 h3 e
    go_enter Try.func33, Try.ntmps33
    go_wp2
    go_ret2
    exact ⟨rfl, rfl⟩
  have b3 : decide (p < -1) = false := decide_eq_false h3
  by_cases h4 : 4096 < p
  · have b4 : decide (4096 < p) = true := decide_eq_true h4
    have e : putW n p = (0, 6) := by unfold putW; rw [if_neg fun h => by omega]
    rw [e]
    clear h1 h2 h3 h4 e
    go_enter Try.func33, Try.ntmps33
    go_wp2
    go_ret2
    exact ⟨rfl, rfl⟩
  have b4 : decide (4096 < p) = false := decide_eq_false h4
  have e : putW n p = ((n + 1) + (p + 1) * 8192, 0) := by unfold putW; rw [if_pos ⟨by omega, by omega, by omega, by omega⟩]
  rw [e]
  have c1 : IntKind.i64.wrap (n + 1) = n + 1 := IntWalk.i64_in _ (by omega)
  have c2 : IntKind.i64.wrap (p + 1) = p + 1 := IntWalk.i64_in _ (by omega)
  have c3 : IntKind.u64.wrap (n + 1) = n + 1 := by rw [IntKind.wrap_u64]; omega
  have c4 : IntKind.u64.wrap (p + 1) = p + 1 := by rw [IntKind.wrap_u64]; omega
  have c5 : IntKind.u64.wrap ((p + 1) * 8192) = (p + 1) * 8192 := by rw [IntKind.wrap_u64]; omega
  have c6 : IntKind.u64.wrap (n + 1 + (p + 1) * 8192) = n + 1 + (p + 1) * 8192 := by rw [IntKind.wrap_u64]; omega
  clear h1 h2 h3 h4 e
  go_enter Try.func33, Try.ntmps33
  go_wp2
  go_ret2
  exact ⟨rfl, rfl⟩
set_option maxHeartbeats 1000000 in
theorem refRing_word (x : Int) (h : U64 x) (w : World) : Calls Try.prog 26 #[.int .u64 x] w fun e w' => e = .returned (.tuple #[.int .i64 (ringW x).1, .int .i64 (ringW x).2.1, .int .i64 (ringW x).2.2]) ∧ w = w' := by
  have q1 : x.tmod 8192 = x % 8192 := Int.tmod_eq_emod_of_nonneg h.1
  have q2 : x.tdiv 8192 = x / 8192 := Int.tdiv_eq_ediv_of_nonneg h.1
  have q3 : (x / 8192).tmod 8192 = x / 8192 % 8192 := Int.tmod_eq_emod_of_nonneg (by unfold U64 at h; omega)
  have q4 : IntKind.u64.wrap (x / 8192) = x / 8192 := by unfold U64 at h; rw [IntKind.wrap_u64]; omega
  have c1 : IntKind.i64.wrap (x % 8192) = x % 8192 := IntWalk.i64_in _ (by omega)
  have c2 : IntKind.i64.wrap (x / 8192 % 8192) = x / 8192 % 8192 := IntWalk.i64_in _ (by omega)
  have c3 : IntKind.i64.wrap (x % 8192 - 1) = x % 8192 - 1 := IntWalk.i64_in _ (by omega)
  have c4 : IntKind.i64.wrap (x / 8192 % 8192 - 1) = x / 8192 % 8192 - 1 := IntWalk.i64_in _ (by omega)
  have H1 := hide (refPutRing_any (x % 8192 - 1) (x / 8192 % 8192 - 1))
  by_cases h1 : x % 8192 ≤ 4097 ∧ x / 8192 % 8192 ≤ 4097
  · have e : putW (x % 8192 - 1) (x / 8192 % 8192 - 1) = (x % 8192 + x / 8192 % 8192 * 8192, 0) := by
      unfold putW
      rw [if_pos ⟨by omega, by omega, by omega, by omega⟩]
      simp
    rw [e] at H1
    by_cases h2 : x / 67108864 = 0
    · have e2 : x % 8192 + x / 8192 % 8192 * 8192 = x := by unfold U64 at h; omega
      rw [e2] at H1
      have e3 : ringW x = (x % 8192 - 1, x / 8192 % 8192 - 1, 0) := by unfold ringW; rw [if_pos ⟨h2, h1⟩]
      rw [e3]
      have b1 : (x != x) = false := by simp
      clear h h1 h2 e e2 e3
      go_enter Try.func26, Try.ntmps26
      go_wp2_with (go_at_call 33; refine (H1.out _).mono ?_; rintro e _ ⟨rfl, rfl⟩)
      go_ret3
      exact ⟨rfl, rfl⟩
    · have e3 : ringW x = (0, 0, 6) := by unfold ringW; rw [if_neg fun h => h2 h.1]
      rw [e3]
      have hne : x % 8192 + x / 8192 % 8192 * 8192 ≠ x := by unfold U64 at h; omega
      generalize x % 8192 + x / 8192 % 8192 * 8192 = y at *
      have b1 : (y != x) = true := by simpa using hne
      clear h h1 h2 e e3 hne
      go_enter Try.func26, Try.ntmps26
      go_wp2_with (go_at_call 33; refine (H1.out _).mono ?_; rintro e _ ⟨rfl, rfl⟩)
      go_ret3
      exact ⟨rfl, rfl⟩
  · have e : putW (x % 8192 - 1) (x / 8192 % 8192 - 1) = (0, 6) := by unfold putW; rw [if_neg fun h => h1 ⟨by omega, by omega⟩]
    have e3 : ringW x = (0, 0, 6) := by unfold ringW; rw [if_neg fun h => h1 h.2]
    rw [e] at H1
    rw [e3]
    clear h h1 e e3
    go_enter Try.func26, Try.ntmps26
    go_wp2_with (go_at_call 33; refine (H1.out _).mono ?_; rintro e _ ⟨rfl, rfl⟩)
    go_ret3
    exact ⟨rfl, rfl⟩
end Go.Proofs.Ytoadcfjkommlkac
