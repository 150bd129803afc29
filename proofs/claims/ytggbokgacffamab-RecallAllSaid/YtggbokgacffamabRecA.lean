/-
  The package recall, its small functions: first, has, held, permille; hits as cells. Conditions: the slices read as lists of hits.
-/
import Derived.Test.YtggbokgacffamabChecked
import Derived.Test.YtggbokgacffamabRecM
import Derived.IntWalk
namespace Go.Proofs.Ytggbokgacffamab
open Go.RowKit

theorem sl_eq {A : Option Addr} {x y c : Nat} (h : x = y) : Value.slice A x c = Value.slice A y c := by rw [h]
/-- how many are first -/
def fstN (k : Int) (n : Nat) : Nat := min k.toNat n
theorem fstN_le (k : Int) (n : Nat) : fstN k n ≤ n := Nat.min_le_right _ _
set_option maxHeartbeats 1000000 in
theorem first_any (A : Option Addr) (n c : Nat) (k : Int) (w : World) (hc : n ≤ c) (hm : c ≤ 9223372036854775807) :
    Calls Try.prog 15 #[.slice A n c, .int .i64 k] w fun e w' => e = .returned (.slice A (fstN k n) c) ∧ w = w' := by
  by_cases h0 : k < 0
  · have e : fstN k n = 0 := by unfold fstN; omega
    have g1 : ¬ (n : Int) < k := by omega
    have g2 : k < (n : Int) := by omega
    rw [e]
    go_enter Try.func15, Try.ntmps15
    go_wp2
    all_goals go_ret
    all_goals exact ⟨congrArg Ending.returned (sl_eq (by omega)), rfl⟩
  · obtain ⟨j, rfl⟩ : ∃ j : Nat, k = j := ⟨k.toNat, by omega⟩
    by_cases h1 : j < n
    · have e : fstN j n = j := by unfold fstN; omega
      have g1 : ¬ n < j := by omega
      rw [e]
      go_enter Try.func15, Try.ntmps15
      go_wp2
      all_goals go_ret
      all_goals exact ⟨congrArg Ending.returned (sl_eq (by omega)), rfl⟩
    · have e : fstN j n = n := by unfold fstN; omega
      rw [e]
      by_cases h2 : n < j
      · go_enter Try.func15, Try.ntmps15
        go_wp2
        all_goals go_ret
        all_goals exact ⟨congrArg Ending.returned (sl_eq (by omega)), rfl⟩
      · obtain rfl : j = n := by omega
        go_enter Try.func15, Try.ntmps15
        go_wp2
        all_goals go_ret
        all_goals exact ⟨congrArg Ending.returned (sl_eq (by omega)), rfl⟩
/-- a part as it counts -/
def hB (b : Int) : Int := min b 2147483647
def hA (a b : Int) : Int := max 0 (min a (hB b))
theorem hB_le (b : Int) : hB b ≤ 2147483647 := by unfold hB; omega
theorem hA_le (a b : Int) : 0 ≤ hA a b ∧ hA a b ≤ 2147483647 := by unfold hA hB; omega
theorem agg2 {a b c d : Int} (h : a = b) (k : c = d) : Value.agg #[.int .i64 a, .int .i64 c] = Value.agg #[.int .i64 b, .int .i64 d] := by rw [h, k]
theorem tup2 {a b c d : Int} (h : a = b) (k : c = d) : Ending.returned (.tuple #[.int .i64 a, .int .i64 c]) = Ending.returned (.tuple #[.int .i64 b, .int .i64 d]) := by rw [h, k]
theorem part_cell {fn : Func} {p : Tmp} (h : fn.results = #[.cell p 49]) (tmps : Array Value) (w : World) (g : Nat) (x y : Int) (hp : tmps.getD p undef = .pointer (some ⟨g, 0, none⟩)) (hg : w.heap[g]? = some (.cells #[.int .i64 x, .int .i64 y] 49 (0, 0))) :
    (results fn tmps).run Try.prog w = .ok (.agg #[.int .i64 x, .int .i64 y]) w :=
  results_cell_row h tmps w g 49 _ (0, 0) _ hp hg Try.underlying49 rfl (by kernel_rfl)
set_option maxHeartbeats 1000000 in
theorem held_any (a b : Int) (w : World) : Calls Try.prog 16 #[.int .i64 a, .int .i64 b] w fun e w' => e = .returned (.agg #[.int .i64 (hA a b), .int .i64 (hB b)]) ∧ Below w.heap.size w w' := by
  go_enter Try.func16, Try.ntmps16
  go_wp2
  all_goals refine bodyPost_ret (part_cell rfl _ _ w.heap.size _ _ rfl (heap_alloc_new _ _)) rfl ⟨congrArg Ending.returned (agg2 ?_ ?_), below1 _ _⟩
  all_goals (simp only [hA, hB]; omega)
end Go.Proofs.Ytggbokgacffamab
