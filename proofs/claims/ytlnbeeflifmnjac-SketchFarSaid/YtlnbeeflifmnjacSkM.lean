/-
  The packages rng, sketch, and the document's: Mix, At, Sign. Conditions: the numbers are of their kinds.
-/
import Derived.Test.YtlnbeeflifmnjacSkC
import Derived.Laws.Closers25b
namespace Go.Proofs.Ytlnbeeflifmnjac
set_option linter.unusedSimpArgs false
set_option linter.unusedVariables false
open Go.RowKit

/-- a step of the mixing -/
def mixS (z m d : Int) : Int := IntKind.u64.wrap (bits .xor .u64 z (z / d) * m)
/-- what is mixed -/
def mixF (x : Int) : Int :=
  bits .xor .u64 (mixS (mixS (IntKind.u64.wrap (x + 11400714819323198485)) 13787848793156543929 1073741824) 10723151780598845931 134217728) (mixS (mixS (IntKind.u64.wrap (x + 11400714819323198485)) 13787848793156543929 1073741824) 10723151780598845931 134217728 / 2147483648)
theorem mixF_range (x : Int) : 0 ≤ mixF x ∧ mixF x < 18446744073709551616 := by
  have h1 := bits_lo_u64 .xor (mixS (mixS (IntKind.u64.wrap (x + 11400714819323198485)) 13787848793156543929 1073741824) 10723151780598845931 134217728) (mixS (mixS (IntKind.u64.wrap (x + 11400714819323198485)) 13787848793156543929 1073741824) 10723151780598845931 134217728 / 2147483648)
  have h2 := bits_hi_u64 .xor (mixS (mixS (IntKind.u64.wrap (x + 11400714819323198485)) 13787848793156543929 1073741824) 10723151780598845931 134217728) (mixS (mixS (IntKind.u64.wrap (x + 11400714819323198485)) 13787848793156543929 1073741824) 10723151780598845931 134217728 / 2147483648)
  unfold mixF
  omega
theorem quo_wrap (y : Int) (d : Nat) (hd : 0 < d) : IntKind.u64.wrap ((IntKind.u64.wrap y).tdiv (d : Int)) = IntKind.u64.wrap y / (d : Int) := by
  have h : IntKind.u64.wrap y = y % 18446744073709551616 := by rw [IntKind.wrap_u64]
  have h0 : 0 ≤ IntKind.u64.wrap y := by omega
  have h1 : IntKind.u64.wrap y < 18446744073709551616 := by omega
  generalize IntKind.u64.wrap y = z at *
  rw [Int.tdiv_eq_ediv_of_nonneg h0, IntKind.wrap_u64]
  have a : 0 ≤ z / (d : Int) := Int.ediv_nonneg h0 (by omega)
  have b : z / (d : Int) ≤ z := Int.ediv_le_self _ h0
  omega
theorem quo1 (y : Int) : IntKind.u64.wrap ((IntKind.u64.wrap y).tdiv 1073741824) = IntKind.u64.wrap y / 1073741824 := quo_wrap y 1073741824 (by omega)
theorem quo2 (y : Int) : IntKind.u64.wrap ((IntKind.u64.wrap y).tdiv 134217728) = IntKind.u64.wrap y / 134217728 := quo_wrap y 134217728 (by omega)
theorem quo3 (y : Int) : IntKind.u64.wrap ((IntKind.u64.wrap y).tdiv 2147483648) = IntKind.u64.wrap y / 2147483648 := quo_wrap y 2147483648 (by omega)
set_option maxHeartbeats 1000000 in
theorem mix_any (x : Int) (w : World) : Calls Try.prog 37 #[.int .u64 x] w fun e w' => e = .returned (.int .u64 (mixF x)) ∧ w = w' := by
  go_enter Try.func37, Try.ntmps37
  go_wp2
  go_ret
  exact ⟨rfl, rfl⟩
set_option maxHeartbeats 1000000 in
theorem refMix_any (x : Int) (w : World) : Calls Try.prog 38 #[.int .u64 x] w fun e w' => e = .returned (.int .u64 (mixF x)) ∧ w = w' := by
  go_enter Try.func38, Try.ntmps38
  go_wp2
  simp only [quo1, quo2, quo3]
  go_ret
  exact ⟨rfl, rfl⟩
/-- a number of a seed's -/
def atF (s n : Int) : Int := mixF (IntKind.u64.wrap (s + IntKind.u64.wrap (n * 11400714819323198485)))
theorem atF_range (s n : Int) : 0 ≤ atF s n ∧ atF s n < 18446744073709551616 := mixF_range _
theorem at_any (s n : Int) (w : World) : Calls Try.prog 23 #[.int .u64 s, .int .u64 n] w fun e w' => e = .returned (.int .u64 (atF s n)) ∧ w = w' := by
  have HC := hide (fun x => mix_any x w)
  go_enter Try.func23, Try.ntmps23
  go_wp2_with (go_at_call 37; refine (HC.out _).mono ?_; rintro e _ ⟨rfl, rfl⟩)
  go_ret
  exact ⟨rfl, rfl⟩
theorem refAt_any (s n : Int) (w : World) : Calls Try.prog 24 #[.int .u64 s, .int .u64 n] w fun e w' => e = .returned (.int .u64 (atF s n)) ∧ w = w' := by
  have HC := hide (fun x => refMix_any x w)
  go_enter Try.func24, Try.ntmps24
  go_wp2_with (go_at_call 38; refine (HC.out _).mono ?_; rintro e _ ⟨rfl, rfl⟩)
  go_ret
  exact ⟨rfl, rfl⟩
/-- a component's sign, for a plane -/
def sgn (seed p i : Int) : Int := if atF (atF seed p) i % 2 = 1 then 1 else -1
def sgnV (seed p i : Int) : Int := if p < 0 ∨ i < 0 then 0 else sgn seed p i
theorem sgn_bit (y : Int) (h : 0 ≤ y ∧ y < 18446744073709551616) : bits .and .u64 y 1 = y % 2 := by
  have k := bits_mask .u64 64 (by decide) (fun m h0 h1 => by rw [IntKind.wrap_u64]; omega) 1 (by omega) y h.1 (by omega)
  exact k
set_option maxHeartbeats 4000000 in
theorem eSign_any (seed p i : Int) (hp : p < 9223372036854775808) (hi : i < 9223372036854775808) (w : World) : Calls Try.prog 8 #[.int .u64 seed, .int .i64 p, .int .i64 i] w fun e w' => e = .returned (.int .i64 (sgnV seed p i)) ∧ w = w' := by
  have HC := hide (fun s x => at_any s x w)
  by_cases h : p < 0 ∨ i < 0
  · have e : decide (min p i < 0) = true := decide_eq_true (by omega)
    have e2 : sgnV seed p i = 0 := by unfold sgnV; rw [if_pos h]
    rw [e2]
    clear h
    go_enter Try.func8, Try.ntmps8
    go_wp2
    go_ret
    exact ⟨rfl, rfl⟩
  · have e : decide (min p i < 0) = false := decide_eq_false (by omega)
    have wp : IntKind.u64.wrap p = p := by rw [IntKind.wrap_u64]; omega
    have wi : IntKind.u64.wrap i = i := by rw [IntKind.wrap_u64]; omega
    obtain ⟨y, hy⟩ : ∃ y, atF (atF seed p) i = y := ⟨_, rfl⟩
    have hyb := atF_range (atF seed p) i
    rw [hy] at hyb
    have C1 := hide (at_any seed p w)
    have C2 := hide (at_any (atF seed p) i w)
    rw [hy] at C2
    obtain ⟨u, hu⟩ : ∃ u, atF seed p = u := ⟨_, rfl⟩
    rw [hu] at C1 C2 hy
    have hb := sgn_bit y hyb
    have e2 : sgnV seed p i = y % 2 * 2 - 1 := by unfold sgnV sgn; rw [if_neg h, hu, hy]; split <;> omega
    rw [e2]
    have hm : y % 2 < 2 := by omega
    have hm0 : 0 ≤ y % 2 := by omega
    obtain ⟨z, hz⟩ : ∃ z, y % 2 = z := ⟨_, rfl⟩
    rw [hz] at hb hm hm0
    rw [hz]
    clear h hz hy e2 hyb HC hu
    go_enter Try.func8, Try.ntmps8
    go_wp2_with (go_at_call 23; first | (refine C1.out.mono ?_; rintro e _ ⟨rfl, rfl⟩) | (refine C2.out.mono ?_; rintro e _ ⟨rfl, rfl⟩))
    go_ret
    exact ⟨by go_num, rfl⟩
set_option maxHeartbeats 4000000 in
theorem rSign_any (seed p i : Int) (hp : p < 9223372036854775808) (hi : i < 9223372036854775808) (w : World) : Calls Try.prog 9 #[.int .u64 seed, .int .i64 p, .int .i64 i] w fun e w' => e = .returned (.int .i64 (sgnV seed p i)) ∧ w = w' := by
  by_cases h : p < 0 ∨ i < 0
  · have e2 : sgnV seed p i = 0 := by unfold sgnV; rw [if_pos h]
    rw [e2]
    by_cases h1 : p < 0
    · have e : decide (p < 0) = true := decide_eq_true h1
      clear h
      go_enter Try.func9, Try.ntmps9
      go_wp2
      go_ret
      exact ⟨rfl, rfl⟩
    · have e : decide (p < 0) = false := decide_eq_false h1
      have e1 : decide (i < 0) = true := decide_eq_true (by omega)
      clear h
      go_enter Try.func9, Try.ntmps9
      go_wp2
      go_ret
      exact ⟨rfl, rfl⟩
  · have e : decide (p < 0) = false := decide_eq_false (by omega)
    have e1 : decide (i < 0) = false := decide_eq_false (by omega)
    have wp : IntKind.u64.wrap p = p := by rw [IntKind.wrap_u64]; omega
    have wi : IntKind.u64.wrap i = i := by rw [IntKind.wrap_u64]; omega
    obtain ⟨y, hy⟩ : ∃ y, atF (atF seed p) i = y := ⟨_, rfl⟩
    have hyb := atF_range (atF seed p) i
    rw [hy] at hyb
    have C1 := hide (refAt_any seed p w)
    have C2 := hide (refAt_any (atF seed p) i w)
    rw [hy] at C2
    obtain ⟨u, hu⟩ : ∃ u, atF seed p = u := ⟨_, rfl⟩
    rw [hu] at C1 C2 hy
    have ht : y.tmod 2 = y % 2 := Int.tmod_eq_emod_of_nonneg hyb.1
    have hw2 : IntKind.u64.wrap (y % 2) = y % 2 := by rw [IntKind.wrap_u64]; omega
    by_cases hz : y % 2 = 1
    · have e2 : sgnV seed p i = 1 := by unfold sgnV sgn; rw [if_neg h, hu, hy, if_pos hz]
      have e3 : (y % 2 == 1) = true := by rw [hz]; rfl
      rw [e2]
      clear h hy e2 hu
      go_enter Try.func9, Try.ntmps9
      go_wp2_with (go_at_call 24; first | (refine C1.out.mono ?_; rintro e _ ⟨rfl, rfl⟩) | (refine C2.out.mono ?_; rintro e _ ⟨rfl, rfl⟩))
      go_ret
      exact ⟨rfl, rfl⟩
    · have e2 : sgnV seed p i = -1 := by unfold sgnV sgn; rw [if_neg h, hu, hy, if_neg hz]
      have e3 : (y % 2 == 1) = false := beq_eq_false_iff_ne.2 hz
      rw [e2]
      clear h hy e2 hu
      go_enter Try.func9, Try.ntmps9
      go_wp2_with (go_at_call 24; first | (refine C1.out.mono ?_; rintro e _ ⟨rfl, rfl⟩) | (refine C2.out.mono ?_; rintro e _ ⟨rfl, rfl⟩))
      go_ret
      exact ⟨rfl, rfl⟩
end Go.Proofs.Ytlnbeeflifmnjac
