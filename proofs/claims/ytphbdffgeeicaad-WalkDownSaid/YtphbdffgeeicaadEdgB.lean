/-
  The package edges: Has (slices.Contains, slices.Index); the reference's With and Without. Conditions: the slices read as lists of ints.
-/
import Derived.Test.YtphbdffgeeicaadEdgA
namespace Go.Proofs.Ytphbdffgeeicaad
open Go.RowKit

theorem index_any (A : Option Addr) (n c : Nat) (l : List Int) (x : Int) (w : World) (hx : Rd (Sh.int .i64) w w.heap.size A l) (hn : l.length = n) (hc : n ≤ c) (hm : c ≤ 9223372036854775807) :
    Calls Try.prog 23 #[.slice A n c, .int .i64 x] w fun e w' => (∃ z : Int, e = .returned (.int .i64 z) ∧ decide (0 ≤ z) = decide (x ∈ l)) ∧ w = w' := by
  have HX := hide hx
  have Hn := hide hn
  clear hx hn
  go_enter Try.func23, Try.ntmps23
  go_wp2
  go_loopw [5, 8] (fun _ i wr => ∃ k : Nat, k ≤ n ∧ i = .int .i64 k ∧ Hid (x ∉ l.take k) ∧ wr = w) (fun _ i _ => n - (intOf i).toNat)
  case atStart => exact ⟨0, by omega, rfl, hide (by simp), rfl⟩
  case round =>
    obtain ⟨k, hk, rfl, HI, rfl⟩ := hrel
    by_cases hlt : k < n
    · obtain ⟨ad, y, rfl, _, hv, q0⟩ := RdR.icell HX.out (k := k) (by have := Hn.out; omega)
      have g0 : (0 : Int) ≤ k := by omega
      have g1 : (k : Int) < n := by omega
      by_cases e : y = x
      · have HF := hide (show decide (x ∈ l) = true from decide_eq_true (by rw [← e]; exact List.mem_of_getElem? hv))
        have he : (x == y) = true := by simpa using e.symm
        clear hv e
        go_wp2
        go_ret
        exact ⟨⟨(k : Int), rfl, by rw [HF.out]; exact decide_eq_true g0⟩, rfl⟩
      · have HS := hide (show x ∉ l.take (k + 1) by rw [mem_take_snoc hv]; rintro (h | h); exact HI.out h; exact e h.symm)
        have he : (x == y) = false := by simpa using Ne.symm e
        clear hv e
        go_wp2
        go_roundw
        case rel => exact ⟨k + 1, by omega, by go_num, HS, by first | exact rfl | trivial⟩
        case measure => simp [intOf]; omega
    · obtain rfl : k = n := by omega
      have HF := hide (show decide (x ∈ l) = false from decide_eq_false (by have h := HI.out; rwa [List.take_of_length_le (by have := Hn.out; omega)] at h))
      go_wp2
      go_ret
      exact ⟨⟨-1, rfl, by rw [HF.out]; rfl⟩, rfl⟩
theorem contains_any (A : Option Addr) (n c : Nat) (l : List Int) (x : Int) (w : World) (hx : Rd (Sh.int .i64) w w.heap.size A l) (hn : l.length = n) (hc : n ≤ c) (hm : c ≤ 9223372036854775807) :
    Calls Try.prog 18 #[.slice A n c, .int .i64 x] w fun e w' => e = .returned (.bool (decide (x ∈ l))) ∧ w = w' := by
  have H := hide (index_any A n c l x w hx hn hc hm)
  clear hx hn
  go_enter Try.func18, Try.ntmps18
  go_wp2_with fail
  refine H.out.mono ?_
  rintro e _ ⟨⟨z, rfl, hz⟩, rfl⟩
  have HZ := hide hz
  clear hz H
  go_wp2
  go_ret
  exact ⟨by rw [← HZ.out]; rfl, rfl⟩
theorem eHas_any (A : Option Addr) (n c : Nat) (l : List Int) (x : Int) (w : World) (hx : Rd (Sh.int .i64) w w.heap.size A l) (hn : l.length = n) (hc : n ≤ c) (hm : c ≤ 9223372036854775807) :
    Calls Try.prog 8 #[.slice A n c, .int .i64 x] w fun e w' => e = .returned (.bool (decide (x ∈ l))) ∧ w = w' := by
  have H := hide (contains_any A n c l x w hx hn hc hm)
  clear hx hn
  go_enter Try.func8, Try.ntmps8
  go_wp2_with fail
  refine H.out.mono ?_
  rintro e _ ⟨rfl, rfl⟩
  clear H
  go_wp2
  go_ret
  exact ⟨rfl, rfl⟩
end Go.Proofs.Ytphbdffgeeicaad
