/-
  The package edges: slices.IndexFunc at ints, by the closure of Without. Conditions: the slice reads as a list of ints.
-/
import Derived.Test.YtggbokgacffamaaEdgE
namespace Go.Proofs.Ytggbokgacffamaa
open Go.RowKit

set_option maxHeartbeats 1000000 in
theorem indexFunc_any (x : Int) (b5 : Nat) (A : Option Addr) (n c : Nat) (l : List Int) (w : World) (h5 : Blk w b5 3 #[.int .i64 x])
    (hx : Rd (Sh.int .i64) w w.heap.size A l) (hn : l.length = n) (hc : n ≤ c) (hm : c ≤ 9223372036854775807) :
    Calls Try.prog 37 #[.slice A n c, .func (.func 29) #[] #[.pointer (some ⟨b5, 0, none⟩)]] w fun e w' =>
      ((e = .returned (.int .i64 (-1)) ∧ x ∉ l) ∨ ∃ k : Nat, e = .returned (.int .i64 (k : Int)) ∧ l[k]? = some x ∧ x ∉ l.take k) ∧ w = w' := by
  have HX := hide hx
  have Hn := hide hn
  have HC := hide (fun y => without1_any y x b5 w h5)
  clear hx hn h5
  go_enter Try.func37, Try.ntmps37
  go_wp2
  go_loopw [5, 8] (fun _ i wr => ∃ j : Nat, j ≤ n ∧ i = .int .i64 j ∧ Hid (x ∉ l.take j) ∧ wr = w) (fun _ i _ => n - (intOf i).toNat)
  case atStart => exact ⟨0, by omega, rfl, hide (by simp), rfl⟩
  case round =>
    obtain ⟨j, hj, rfl, HA, rfl⟩ := hrel
    by_cases hlt : j < n
    · obtain ⟨ad, y, rfl, _, hv, q0⟩ := RdR.icell HX.out (k := j) (by have := Hn.out; omega)
      have g0 : (0 : Int) ≤ j := by omega
      have g1 : (j : Int) < n := by omega
      have HV := hide hv
      clear hv
      by_cases e : y = x
      · have HE := hide e
        have he : (y == x) = true := by simpa using e
        clear e
        go_wp2_with (go_at_call 29; refine (HC.out _).mono ?_; rintro e _ ⟨rfl, rfl⟩)
        go_ret
        exact ⟨.inr ⟨j, rfl, by rw [← HE.out]; exact HV.out, HA.out⟩, rfl⟩
      · have HS := hide (show x ∉ l.take (j + 1) by rw [mem_take_snoc HV.out]; rintro (h | h); exact HA.out h; exact e h.symm)
        have he : (y == x) = false := by simpa using e
        clear e
        go_wp2_with (go_at_call 29; refine (HC.out _).mono ?_; rintro e _ ⟨rfl, rfl⟩)
        go_roundw
        case rel => exact ⟨j + 1, by omega, by go_num, HS, by first | exact rfl | trivial⟩
        case measure => simp [intOf]; omega
    · obtain rfl : j = n := by omega
      go_wp2
      go_ret
      exact ⟨.inl ⟨rfl, by have h := HA.out; rwa [List.take_of_length_le (by have := Hn.out; omega)] at h⟩, rfl⟩
end Go.Proofs.Ytggbokgacffamaa
