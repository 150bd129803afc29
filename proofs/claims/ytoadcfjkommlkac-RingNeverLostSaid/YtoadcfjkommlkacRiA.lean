/-
  The package ring, and the document's: At, the list. Conditions: the slice reads as a list of words.
-/
import Derived.Test.YtoadcfjkommlkacPkA
import Derived.Test.YtoadcfjkommlkacMapI
namespace Go.Proofs.Ytoadcfjkommlkac
set_option linter.unusedSimpArgs false
set_option linter.unusedVariables false
open Go.RowKit

/-- a slot's Next and Prev -/
def atW (ws : List Int) (s : Int) : Int × Int :=
  if 0 ≤ s then (match ws[s.toNat]? with
    | some x => if (ringW x).2.2 = 0 then ((ringW x).1, (ringW x).2.1) else (-1, -1)
    | none => (-1, -1)) else (-1, -1)
theorem Rd.wcell {w : World} {B : Nat} {A : Option Addr} {xs : List Int} (h : Rd (Sh.int .u64) w B A xs) {k : Nat} (hk : k < xs.length) : ∃ ad x, A = some ad ∧ ad.block < B ∧ xs[k]? = some x ∧ w.cell? (ad.add k) = some (.int .u64 x) := by
  obtain ⟨ad, x, cs, e, hb, hx, hr, hc⟩ := h.at_ hk
  have h1 : cs = [.int .u64 x] := hr
  subst h1
  exact ⟨ad, x, e, hb, hx, by simpa [Sh.int] using hc 0 _ rfl⟩
theorem ringW_err (x : Int) : (ringW x).2.2 = 0 ∨ (ringW x).2.2 = 6 := by unfold ringW; split <;> simp
section
variable (A : Option Addr) (n c : Nat) (ws : List Int) (s : Int) (w : World) (hx : Rd (Sh.int .u64) w w.heap.size A ws) (hn : ws.length = n) (hu : ∀ x ∈ ws, U64 x)
include hx hn hu
set_option maxHeartbeats 1000000 in
theorem at_any : Calls Try.prog 6 #[.slice A n c, .int .i64 s] w fun e w' => e = .returned (.tuple #[.int .i64 (atW ws s).1, .int .i64 (atW ws s).2]) ∧ w = w' := by
  by_cases h0 : 0 ≤ s
  · have b0 : decide (0 ≤ s) = true := decide_eq_true h0
    obtain ⟨k, rfl⟩ : ∃ k : Nat, s = k := ⟨s.toNat, by omega⟩
    by_cases h1 : k < n
    · have b1 : decide (k < n) = true := decide_eq_true h1
      have b2 : decide ((k : Int) < n) = true := decide_eq_true (by omega)
      obtain ⟨ad, x, rfl, hb, hxk, c0⟩ := hx.wcell (k := k) (by omega)
      have HR := hide (ring_word x (hu x (List.mem_of_getElem? hxk)))
      have ea : atW ws (k : Int) = if (ringW x).2.2 = 0 then ((ringW x).1, (ringW x).2.1) else (-1, -1) := by
        unfold atW
        rw [if_pos h0, show ((k : Int)).toNat = k by omega, hxk]
      have h3 : (k : Int) < n := by omega
      rw [ea]
      have he := ringW_err x
      generalize (ringW x).1 = r1 at *
      generalize (ringW x).2.1 = r2 at *
      generalize (ringW x).2.2 = r3 at *
      clear hx hn hu hxk hb ea
      rcases he with rfl | rfl
      · go_enter Try.func6, Try.ntmps6
        go_wp2_with (go_at_call 25; refine (HR.out _).mono ?_; rintro e _ ⟨rfl, rfl⟩)
        go_ret2
        exact ⟨rfl, rfl⟩
      · go_enter Try.func6, Try.ntmps6
        go_wp2_with (go_at_call 25; refine (HR.out _).mono ?_; rintro e _ ⟨rfl, rfl⟩)
        go_ret2
        exact ⟨rfl, rfl⟩
    · have b1 : decide (k < n) = false := decide_eq_false h1
      have b2 : decide ((k : Int) < n) = false := decide_eq_false (by omega)
      have ea : atW ws (k : Int) = (-1, -1) := by
        unfold atW
        rw [if_pos h0, show ((k : Int)).toNat = k by omega, List.getElem?_eq_none (by omega)]
      rw [ea]
      clear hx hn hu ea
      go_enter Try.func6, Try.ntmps6
      go_wp2
      go_ret2
      exact ⟨rfl, rfl⟩
  · have b0 : decide (0 ≤ s) = false := decide_eq_false h0
    have ea : atW ws s = (-1, -1) := by unfold atW; rw [if_neg h0]
    rw [ea]
    clear hx hn hu ea
    go_enter Try.func6, Try.ntmps6
    go_wp2
    go_ret2
    exact ⟨rfl, rfl⟩
set_option maxHeartbeats 1000000 in
theorem refAt_any : Calls Try.prog 7 #[.slice A n c, .int .i64 s] w fun e w' => e = .returned (.tuple #[.int .i64 (atW ws s).1, .int .i64 (atW ws s).2]) ∧ w = w' := by
  by_cases h0 : s < 0
  · have b0 : decide (s < 0) = true := decide_eq_true h0
    have ea : atW ws s = (-1, -1) := by unfold atW; rw [if_neg (by omega)]
    rw [ea]
    clear hx hn hu ea
    go_enter Try.func7, Try.ntmps7
    go_wp2
    go_ret2
    exact ⟨rfl, rfl⟩
  · have b0 : decide (s < 0) = false := decide_eq_false h0
    obtain ⟨k, rfl⟩ : ∃ k : Nat, s = k := ⟨s.toNat, by omega⟩
    have h0' : (0 : Int) ≤ k := by omega
    by_cases h1 : k < n
    · have b1 : decide (n ≤ k) = false := decide_eq_false (by omega)
      have b2 : decide ((n : Int) ≤ k) = false := decide_eq_false (by omega)
      obtain ⟨ad, x, rfl, hb, hxk, c0⟩ := hx.wcell (k := k) (by omega)
      have HR := hide (refRing_word x (hu x (List.mem_of_getElem? hxk)))
      have ea : atW ws (k : Int) = if (ringW x).2.2 = 0 then ((ringW x).1, (ringW x).2.1) else (-1, -1) := by
        unfold atW
        rw [if_pos h0', show ((k : Int)).toNat = k by omega, hxk]
      have h3 : (k : Int) < n := by omega
      rw [ea]
      have he := ringW_err x
      generalize (ringW x).1 = r1 at *
      generalize (ringW x).2.1 = r2 at *
      generalize (ringW x).2.2 = r3 at *
      clear hx hn hu hxk hb ea
      rcases he with rfl | rfl
      · go_enter Try.func7, Try.ntmps7
        go_wp2_with (go_at_call 26; refine (HR.out _).mono ?_; rintro e _ ⟨rfl, rfl⟩)
        go_ret2
        exact ⟨rfl, rfl⟩
      · go_enter Try.func7, Try.ntmps7
        go_wp2_with (go_at_call 26; refine (HR.out _).mono ?_; rintro e _ ⟨rfl, rfl⟩)
        go_ret2
        exact ⟨rfl, rfl⟩
    · have b1 : decide (n ≤ k) = true := decide_eq_true (by omega)
      have b2 : decide ((n : Int) ≤ k) = true := decide_eq_true (by omega)
      have ea : atW ws (k : Int) = (-1, -1) := by
        unfold atW
        rw [if_pos h0', show ((k : Int)).toNat = k by omega, List.getElem?_eq_none (by omega)]
      rw [ea]
      clear hx hn hu ea
      go_enter Try.func7, Try.ntmps7
      go_wp2
      go_ret2
      exact ⟨rfl, rfl⟩
set_option maxHeartbeats 1000000 in
theorem next_any : Calls Try.prog 27 #[.slice A n c, .int .i64 s] w fun e w' => e = .returned (.int .i64 (atW ws s).1) ∧ w = w' := by
  have HA := hide (at_any A n c ws s w hx hn hu)
  clear hx hn hu
  go_enter Try.func27, Try.ntmps27
  go_wp2_with (go_at_call 6; refine HA.out.mono ?_; rintro e _ ⟨rfl, rfl⟩)
  go_ret
  exact ⟨rfl, rfl⟩
end
end Go.Proofs.Ytoadcfjkommlkac
