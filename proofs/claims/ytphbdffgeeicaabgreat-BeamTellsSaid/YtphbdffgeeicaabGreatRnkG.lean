/-
  The package rank: Least, and the reference's. Conditions: the slice reads as a list of spots; at most a million of them.
-/
import Derived.Test.YtphbdffgeeicaabGreatRnkE
import Derived.Test.YtphbdffgeeicaabGreatRnkF
namespace Go.Proofs.YtphbdffgeeicaabGreat
set_option linter.unusedSimpArgs false
set_option linter.unusedVariables false
open Go.RowKit

/-- how many are the least -/
def lstN (k : Int) (n : Nat) : Nat := min k.toNat n
theorem lstN_le (k : Int) (n : Nat) : lstN k n ≤ n := Nat.min_le_right _ _
set_option maxHeartbeats 1000000 in
theorem least_any (A : Option Addr) (n c : Nat) (k : Int) (l : List Spt) (w : World) (hx : Rd SP w w.heap.size A l) (hn : l.length = n) (hc : n ≤ c) (hm : c ≤ 9223372036854775807) (h6 : n ≤ 1000000) :
    Calls Tryz.prog 105 #[.slice A n c, .int .i64 k] w fun e w' => ∃ v, e = .returned v ∧ NewL SP w ((srtS l).take (lstN k n)) v w' := by
  have H1 := hide (sort_any A n c l w hx hn hc hm h6)
  have Hn := hide hn
  clear hx hn
  go_enter Tryz.func105, Tryz.ntmps105
  go_wp2_with fail
  refine H1.out.mono ?_
  rintro e w1 ⟨v, rfl, ho, hb⟩
  obtain ⟨A', c', rfl, p1, p2⟩ := own_form ho
  have HN : ∀ m, m = lstN k n → Hid (NewL SP w ((srtS l).take (lstN k n)) (.slice A' m c') w1) := fun m e => hide (by
    obtain ⟨_, _, _, e1, q1, q2, q3, q4, q5⟩ := flatS.new ho hb
    injection e1 with e1 e2 e3
    subst e1 e2 e3
    have := lstN_le k n
    exact ⟨A', m, c', rfl, by rw [List.length_take, q1, e]; omega, by omega, q3, q4.take _, q5⟩)
  have HN' := hide HN
  clear ho hb HN H1
  go_wp2
  all_goals go_ret
  all_goals exact ⟨_, rfl, (HN'.out _ (by unfold lstN; omega)).out⟩
set_option maxHeartbeats 1000000 in
theorem refLeast_any (A : Option Addr) (n c : Nat) (k : Int) (l : List Spt) (w : World) (hx : Rd SP w w.heap.size A l) (hn : l.length = n) (hc : n ≤ c) (hm : c ≤ 9223372036854775807) (h6 : n ≤ 1000000) :
    Calls Tryz.prog 103 #[.slice A n c, .int .i64 k] w fun e w' => ∃ v, e = .returned v ∧ NewL SP w ((srtS l).take (lstN k n)) v w' := by
  have H1 := hide (refSort_any A n c l w hx hn hc hm h6)
  have Hn := hide hn
  clear hx hn
  go_enter Tryz.func103, Tryz.ntmps103
  go_wp2_with fail
  refine H1.out.mono ?_
  rintro e w1 ⟨v, rfl, ho, hb⟩
  obtain ⟨A', c', rfl, p1, p2⟩ := own_form ho
  have HN : ∀ m, m = lstN k n → Hid (NewL SP w ((srtS l).take (lstN k n)) (.slice A' m c') w1) := fun m e => hide (by
    obtain ⟨_, _, _, e1, q1, q2, q3, q4, q5⟩ := flatS.new ho hb
    injection e1 with e1 e2 e3
    subst e1 e2 e3
    have := lstN_le k n
    exact ⟨A', m, c', rfl, by rw [List.length_take, q1, e]; omega, by omega, q3, q4.take _, q5⟩)
  have HN' := hide HN
  clear ho hb HN H1
  go_wp2
  all_goals go_ret
  all_goals exact ⟨_, rfl, (HN'.out _ (by unfold lstN; omega)).out⟩
end Go.Proofs.YtphbdffgeeicaabGreat
