/-
  sketch.above: a vector lies above a plane. Conditions: at most a thousand components, each of 32 bits.
-/
import Derived.Test.YtlnbeeflifmnjacSkM
import Derived.Test.YtlnbeeflifmnjacSkE
namespace Go.Proofs.Ytlnbeeflifmnjac
set_option linter.unusedSimpArgs false
set_option linter.unusedVariables false
open Go.RowKit

/-- a vector's sum, by the signs of a plane -/
def sumP (v : List Int) (seed p : Int) : Nat → Int
  | 0 => 0
  | k + 1 => sumP v seed p k + sgn seed p k * v.getD k 0
def I32L (v : List Int) : Prop := ∀ x ∈ v, -2147483648 ≤ x ∧ x ≤ 2147483647
theorem I32L.getD {v : List Int} (h : I32L v) (k : Nat) : -2147483648 ≤ v.getD k 0 ∧ v.getD k 0 ≤ 2147483647 := by
  rw [List.getD_eq_getElem?_getD]
  rcases e : v[k]? with _ | x
  · simp
  · exact h x (List.mem_of_getElem? e)
theorem sgn_mul (seed p i x : Int) : sgn seed p i * x = x ∨ sgn seed p i * x = -x := by
  unfold sgn
  split
  · left; omega
  · right; omega
theorem sumP_le {v : List Int} {seed p : Int} (h : I32L v) : ∀ k : Nat, -(2147483648 * (k : Int)) ≤ sumP v seed p k ∧ sumP v seed p k ≤ 2147483648 * (k : Int)
  | 0 => by simp [sumP]
  | k + 1 => by
    have ih := sumP_le (seed := seed) (p := p) h k
    have hb := h.getD k
    have hm := sgn_mul seed p k (v.getD k 0)
    unfold sumP
    generalize sgn seed p k * v.getD k 0 = m at *
    generalize v.getD k 0 = x at *
    omega
def aboveP (v : List Int) (seed p : Int) : Bool := decide (0 ≤ sumP v seed p v.length)
set_option maxHeartbeats 4000000 in
theorem eAbove_any {A : Option Addr} {n c : Nat} {v : List Int} {w : World} (hx : Rd (Sh.int .i32) w w.heap.size A v) (hn : v.length = n) (hc : n ≤ c) (h10 : n ≤ 1000) (hv : I32L v) (seed : Int) (p : Nat) (hp : p < 4096) :
    Calls Try.prog 25 #[.slice A n c, .int .u64 seed, .int .i64 p] w fun e w' => e = .returned (.bool (aboveP v seed p)) ∧ w = w' := by
  have HX := hide hx
  have Hn := hide hn
  have HV := hide hv
  have C1 := hide (at_any seed p w)
  obtain ⟨u, hu⟩ : ∃ u, atF seed p = u := ⟨_, rfl⟩
  rw [hu] at C1
  have Hu := hide hu
  have wp : IntKind.u64.wrap (p : Int) = p := by rw [IntKind.wrap_u64]; omega
  clear hx hn hv hu
  go_enter Try.func25, Try.ntmps25
  go_wp2_with (go_at_call 23; refine C1.out.mono ?_; rintro e _ ⟨rfl, rfl⟩)
  clear C1 wp
  go_loopw [7, 17] (fun s i wr => ∃ k : Nat, k ≤ n ∧ i = .int .i64 k ∧ s = .int .i64 (sumP v seed p k) ∧ w = wr) (fun _ i _ => n - (intOf i).toNat)
  case atStart => exact ⟨0, by omega, rfl, rfl, rfl⟩
  case round =>
    obtain ⟨k, hk, rfl, rfl, rfl⟩ := hrel
    by_cases hlt : k < n
    · obtain ⟨ad, x, rfl, _, hxv, q0⟩ := Rd.icell HX.out (k := k) (by have := Hn.out; omega)
      have g0 : (0 : Int) ≤ k := by omega
      have g1 : (k : Int) < n := by omega
      have hd : v.getD k 0 = x := by rw [List.getD_eq_getElem?_getD, hxv]; rfl
      have hb := HV.out.getD k
      rw [hd] at hb
      have hsl := sumP_le (seed := seed) (p := (p : Int)) HV.out k
      have C2 := hide (at_any u k w)
      obtain ⟨y, hy⟩ : ∃ y, atF u k = y := ⟨_, rfl⟩
      have hyb := atF_range u k
      rw [hy] at hyb C2
      have hbit := sgn_bit y hyb
      have wk : IntKind.u64.wrap (k : Int) = k := by rw [IntKind.wrap_u64]; omega
      have hs1 : sumP v seed p (k + 1) = sumP v seed p k + sgn seed p k * x := by show sumP v seed p k + sgn seed p k * v.getD k 0 = _; rw [hd]
      have hsg : sgn seed p k = if y % 2 = 1 then 1 else -1 := by unfold sgn; rw [Hu.out, hy]
      rw [hsg] at hs1
      by_cases hz : y % 2 = 1
      · rw [if_pos hz, Int.one_mul] at hs1
        have e3 : (bits .and .u64 y 1 == 0) = false := by rw [hbit, hz]; rfl
        have HS := hide hs1
        obtain ⟨t, ht⟩ : ∃ t, sumP v seed p k = t := ⟨_, rfl⟩
        rw [ht] at hsl HS
        rw [ht]
        have hs2 : -2147483648000 ≤ t ∧ t ≤ 2147483648000 := by omega
        clear hsl hd hxv hy hyb hbit hsg hs1 hz ht
        go_wp2_with (go_at_call 23; refine C2.out.mono ?_; rintro e _ ⟨rfl, rfl⟩)
        go_roundw
        case rel => exact ⟨k + 1, by omega, by go_num, by first | (rw [HS.out]; done) | (rw [HS.out]; go_num), by first | rfl | trivial⟩
        case measure => simp [intOf]; omega
      · rw [if_neg hz] at hs1
        have hz0 : y % 2 = 0 := by omega
        have e3 : (bits .and .u64 y 1 == 0) = true := by rw [hbit, hz0]; rfl
        have HS := hide (show sumP v seed p (k + 1) = sumP v seed p k - x by omega)
        obtain ⟨t, ht⟩ : ∃ t, sumP v seed p k = t := ⟨_, rfl⟩
        rw [ht] at hsl HS
        rw [ht]
        have hs2 : -2147483648000 ≤ t ∧ t ≤ 2147483648000 := by omega
        clear hsl hd hxv hy hyb hbit hsg hs1 hz hz0 ht
        go_wp2_with (go_at_call 23; refine C2.out.mono ?_; rintro e _ ⟨rfl, rfl⟩)
        go_roundw
        case rel => exact ⟨k + 1, by omega, by go_num, by first | (rw [HS.out]; done) | (rw [HS.out]; go_num), by first | rfl | trivial⟩
        case measure => simp [intOf]; omega
    · obtain rfl : n = k := by omega
      have HF := hide (show aboveP v seed p = decide (0 ≤ sumP v seed p n) by unfold aboveP; rw [Hn.out])
      go_wp2
      go_ret
      exact ⟨by rw [HF.out]; rfl, by first | rfl | trivial⟩
end Go.Proofs.Ytlnbeeflifmnjac
