/-
  The package bitset: Has; the document's Has. Conditions: the slices read as lists of words.
-/
import Derived.Test.YtlnbeeflifmnjacSkC
import Derived.Test.YtlnbeeflifmnjacBitB
import Derived.Test.YtlnbeeflifmnjacRowN
namespace Go.Proofs.Ytlnbeeflifmnjac
set_option linter.unusedSimpArgs false
set_option linter.unusedVariables false
open Go.RowKit

/-- a number is in a set, as the program asks it -/
def hasW (l : List Int) (N : Int) : Bool := decide (0 ≤ N ∧ N < 4096) && mw l N.toNat
theorem hasW_nat (l : List Int) (k : Nat) (h : k < 4096) : hasW l k = mw l k := by
  unfold hasW
  rw [decide_eq_true (by omega), Int.toNat_natCast, Bool.true_and]
theorem hasW_neg {l : List Int} {N : Int} (h : N < 0) : hasW l N = false := by
  unfold hasW
  rw [decide_eq_false (by omega), Bool.false_and]
theorem hasW_big {l : List Int} {N : Int} (h : 4096 ≤ N) : hasW l N = false := by
  unfold hasW
  rw [decide_eq_false (by omega), Bool.false_and]
theorem hasW_far {l : List Int} {k : Nat} (h : l.length ≤ k / 64) : hasW l k = false := by
  unfold hasW mw
  rw [List.getD_eq_getElem?_getD, Int.toNat_natCast, List.getElem?_eq_none h]
  rw [show tb ((none : Option Int).getD 0) (k % 64) = false from Nat.zero_testBit _, Bool.and_false]
theorem tb_div {x : Int} (h : 0 ≤ x) (j : Nat) : tb x j = decide (x / 2 ^ j % 2 = 1) := by
  obtain ⟨n, rfl⟩ : ∃ n : Nat, x = n := ⟨x.toNat, by omega⟩
  unfold tb
  rw [Int.toNat_natCast, Nat.testBit_eq_decide_div_mod_eq]
  congr 1
  rw [eq_iff_iff]
  have : ((n : Int) / 2 ^ j) = ((n / 2 ^ j : Nat) : Int) := by simp
  omega
theorem and1 {x : Int} (h : 0 ≤ x ∧ x < 18446744073709551616) (j : Nat) : bits .and .u64 (x / 2 ^ j) 1 = x / 2 ^ j % 2 := by
  obtain ⟨n, rfl⟩ : ∃ n : Nat, x = n := ⟨x.toNat, by omega⟩
  have e : ((n : Int) / 2 ^ j) = ((n / 2 ^ j : Nat) : Int) := by simp
  have h2 : n / 2 ^ j ≤ n := Nat.div_le_self _ _
  have k := bits_mask .u64 64 (by decide) (fun m h0 h1 => by rw [IntKind.wrap_u64]; omega) 1 (by omega) ((n : Int) / 2 ^ j) (by rw [e]; exact Int.natCast_nonneg _) (by rw [e]; omega)
  exact k
theorem and1_ne {x : Int} (h : 0 ≤ x ∧ x < 18446744073709551616) (j : Nat) : (bits .and .u64 (x / 2 ^ j) 1 != 0) = tb x j := by
  rw [and1 h, tb_div h.1]
  rw [Bool.eq_iff_iff]
  simp only [bne_iff_ne, decide_eq_true_eq]
  generalize x / 2 ^ j = q
  omega
theorem and1_eq {x : Int} (h : 0 ≤ x ∧ x < 18446744073709551616) (j : Nat) : (bits .and .u64 (x / 2 ^ j) 1 == 1) = tb x j := by
  rw [and1 h, tb_div h.1]
  rw [Bool.eq_iff_iff]
  simp only [beq_iff_eq, decide_eq_true_eq]
theorem eHas_any {A : Option Addr} {n c : Nat} {l : List Int} {w : World} (hx : Rd (Sh.int .u64) w w.heap.size A l) (hn : l.length = n) (hc : n ≤ c) (hu : UL l) (N : Int) (hN : N ≤ 9223372036854775807) : Calls Try.prog 18 #[.slice A n c, .int .i64 N] w fun e w' => e = .returned (.bool (hasW l N)) ∧ w = w' := by
  have HC := hide (cut_any A n c w hc)
  obtain ⟨m, hm⟩ : ∃ m, min n 64 = m := ⟨_, rfl⟩
  rw [hm] at HC
  by_cases h0 : N < 0
  · have e : decide (0 ≤ N) = false := decide_eq_false (by omega)
    rw [hasW_neg h0]
    clear hx hn hu
    go_enter Try.func18, Try.ntmps18
    go_wp2_with (go_at_call 30; refine HC.out.mono ?_; rintro e w1 ⟨rfl, rfl⟩)
    go_ret
    exact ⟨rfl, rfl⟩
  · obtain ⟨k, rfl⟩ : ∃ k : Nat, N = k := ⟨N.toNat, by omega⟩
    have e : decide ((0 : Int) ≤ k) = true := decide_eq_true (by omega)
    have eq_ : ((k : Int).tdiv 64) = ((k / 64 : Nat) : Int) := by rw [Int.tdiv_eq_ediv_of_nonneg (by omega)]; omega
    have er_ : ((k : Int).tmod 64) = ((k % 64 : Nat) : Int) := by rw [Int.tmod_eq_emod_of_nonneg (by omega)]; omega
    by_cases h1 : k / 64 < m
    · have e1 : decide (((k / 64 : Nat) : Int) < m) = true := decide_eq_true (by omega)
      obtain ⟨ad, x, rfl, _, hv, q0⟩ := Rd.icell hx (k := k / 64) (by omega)
      rw [hasW_nat _ _ (by omega)]
      have hb := hu x (List.mem_of_getElem? hv)
      have eb : mw l k = (bits .and .u64 (x / 2 ^ (k % 64)) 1 != 0) := by
        unfold mw
        rw [List.getD_eq_getElem?_getD, hv, and1_ne hb]
        rfl
      rw [eb]
      clear hx hn hu eb
      have h2 : (0 : Int) ≤ ((k / 64 : Nat) : Int) := by omega
      have h3 : ((k / 64 : Nat) : Int) < m := by omega
      go_enter Try.func18, Try.ntmps18
      go_wp2_with (go_at_call 30; refine HC.out.mono ?_; rintro e w1 ⟨rfl, rfl⟩)
      go_ret
      exact ⟨rfl, rfl⟩
    · have e1 : decide ((k : Int) / 64 < m) = false := decide_eq_false (by omega)
      have e2 : hasW l k = false := by
        rcases Nat.lt_or_ge k 4096 with h | h
        · exact hasW_far (by rw [hn]; omega)
        · exact hasW_big (N := (k : Int)) (show (4096 : Int) ≤ k by omega)
      rw [e2]
      clear hx hn hu
      go_enter Try.func18, Try.ntmps18
      go_wp2_with (go_at_call 30; refine HC.out.mono ?_; rintro e w1 ⟨rfl, rfl⟩)
      go_ret
      exact ⟨rfl, rfl⟩
set_option maxRecDepth 100000 in
theorem rHas_any {A : Option Addr} {n c : Nat} {l : List Int} {w : World} (hx : Rd (Sh.int .u64) w w.heap.size A l) (hn : l.length = n) (hc : n ≤ c) (hu : UL l) (N : Int) (hN : N ≤ 9223372036854775807) : Calls Try.prog 36 #[.slice A n c, .int .i64 N] w fun e w' => e = .returned (.bool (hasW l N)) ∧ w = w' := by
  by_cases h0 : N < 0
  · have e : decide (0 ≤ N) = false := decide_eq_false (by omega)
    rw [hasW_neg h0]
    clear hx hn hu
    go_enter Try.func36, Try.ntmps36
    go_wp2
    go_ret
    exact ⟨rfl, rfl⟩
  · obtain ⟨k, rfl⟩ : ∃ k : Nat, N = k := ⟨N.toNat, by omega⟩
    have e : decide ((0 : Int) ≤ k) = true := decide_eq_true (by omega)
    have eq_ : ((k : Int).tdiv 64) = ((k / 64 : Nat) : Int) := by rw [Int.tdiv_eq_ediv_of_nonneg (by omega)]; omega
    have er_ : ((k : Int).tmod 64) = ((k % 64 : Nat) : Int) := by rw [Int.tmod_eq_emod_of_nonneg (by omega)]; omega
    by_cases h4 : k < 4096
    · have e4 : decide ((k : Int) < 4096) = true := decide_eq_true (by omega)
      by_cases h1 : k / 64 < n
      · have e1 : decide (((k / 64 : Nat) : Int) < n) = true := decide_eq_true (by omega)
        obtain ⟨ad, x, rfl, _, hv, q0⟩ := Rd.icell hx (k := k / 64) (by omega)
        rw [hasW_nat _ _ h4]
        have hb := hu x (List.mem_of_getElem? hv)
        have eb : mw l k = (bits .and .u64 (x / 2 ^ (k % 64)) 1 == 1) := by
          unfold mw
          rw [List.getD_eq_getElem?_getD, hv, and1_eq hb]
          rfl
        rw [eb]
        clear hx hn hu eb
        have h2 : (0 : Int) ≤ ((k / 64 : Nat) : Int) := by omega
        have h3 : ((k / 64 : Nat) : Int) < n := by omega
        go_enter Try.func36, Try.ntmps36
        go_wp2
        go_ret
        exact ⟨rfl, rfl⟩
      · have e1 : decide ((k : Int) / 64 < n) = false := decide_eq_false (by omega)
        rw [hasW_far (by rw [hn]; omega)]
        clear hx hn hu h0
        go_enter Try.func36, Try.ntmps36
        go_wp2
        go_ret
        exact ⟨rfl, rfl⟩
    · have e4 : decide ((k : Int) < 4096) = false := decide_eq_false (by omega)
      rw [hasW_big (N := (k : Int)) (show (4096 : Int) ≤ k by omega)]
      clear hx hn hu
      go_enter Try.func36, Try.ntmps36
      go_wp2
      go_ret
      exact ⟨rfl, rfl⟩
end Go.Proofs.Ytlnbeeflifmnjac
