/-
  The package edges: Most, Has, and the reference's. Conditions: the slices read as lists of ints.
-/
import Derived.Test.YtoadcfjkommlkacLib2
import Derived.Test.YtoadcfjkommlkacLib3
import Derived.Test.YtoadcfjkommlkacEqI
namespace Go.Proofs.Ytoadcfjkommlkac
open Go.RowKit

/-- how many neighbours there may be -/
def mostF (links level : Int) : Int := if level = 0 then 2 * min (max links 1) 32 else min (max links 1) 32
theorem mem_take_snoc {l : List Int} {k : Nat} {x y : Int} (h : l[k]? = some x) : y ∈ l.take (k + 1) ↔ y ∈ l.take k ∨ y = x := by
  rw [List.take_add_one, h]; simp
theorem refHas_any (A : Option Addr) (n c : Nat) (l : List Int) (x : Int) (w : World) (hx : Rd (Sh.int .i64) w w.heap.size A l) (hn : l.length = n) (hc : n ≤ c) (hm : c ≤ 9223372036854775807) :
    Calls Try.prog 28 #[.slice A n c, .int .i64 x] w fun e w' => e = .returned (.bool (decide (x ∈ l))) ∧ w = w' := by
  have HX := hide hx
  have Hn := hide hn
  clear hx hn
  go_enter Try.func28, Try.ntmps28
  go_wp2
  go_loopw [6, 9] (fun _ i wr => ∃ k : Nat, k ≤ n ∧ i = .int .i64 k ∧ Hid (x ∉ l.take k) ∧ wr = w) (fun _ i _ => n - (intOf i).toNat)
  case atStart => exact ⟨0, by omega, rfl, hide (by simp), rfl⟩
  case round =>
    obtain ⟨k, hk, rfl, HI, rfl⟩ := hrel
    by_cases hlt : k < n
    · obtain ⟨ad, y, rfl, _, hv, q0⟩ := RdR.icell HX.out (k := k) (by have := Hn.out; omega)
      have g0 : (0 : Int) ≤ k := by omega
      have g1 : (k : Int) < n := by omega
      by_cases e : y = x
      · have HF := hide (show decide (x ∈ l) = true from decide_eq_true (by rw [← e]; exact List.mem_of_getElem? hv))
        have he : (y == x) = true := by simpa using e
        clear hv e
        go_wp2
        go_ret
        exact ⟨by rw [HF.out]; rfl, rfl⟩
      · have HS := hide (show x ∉ l.take (k + 1) by rw [mem_take_snoc hv]; rintro (h | h); exact HI.out h; exact e h.symm)
        have he : (y == x) = false := by simpa using e
        clear hv e
        go_wp2
        go_roundw
        case rel => exact ⟨k + 1, by omega, by go_num, HS, by first | exact rfl | trivial⟩
        case measure => simp [intOf]; omega
    · obtain rfl : k = n := by omega
      have HF := hide (show decide (x ∈ l) = false from decide_eq_false (by have h := HI.out; rwa [List.take_of_length_le (by have := Hn.out; omega)] at h))
      go_wp2
      go_ret
      exact ⟨by rw [HF.out]; rfl, rfl⟩
end Go.Proofs.Ytoadcfjkommlkac
