/-
  The package vec, function by function: equal, ahead, right. Conditions: the slices read as lists of int32s.
-/
import Derived.Test.YtojanklgjdjniacVecA
namespace Go.Proofs.Ytojanklgjdjniac
open Go.RowKit

theorem lens_false {xs ys : List Int} (h : xs.length ≠ ys.length) : decide (xs = ys) = false := decide_eq_false (fun e => h (by rw [e]))
theorem at_false {xs ys : List Int} {k : Nat} {x y : Int} (hx : xs[k]? = some x) (hy : ys[k]? = some y) (h : x ≠ y) : decide (xs = ys) = false :=
  decide_eq_false (fun e => h (by rw [e, hy] at hx; injection hx with hx; exact hx.symm))
set_option maxHeartbeats 1000000 in
theorem equal_any (A B : Option Addr) (n c m d : Nat) (xs ys : List Int) (w : World) (hx : I32s w w.heap.size A xs) (hn : xs.length = n) (hc : n ≤ c) (hm : c ≤ 9223372036854775807)
    (hy : I32s w w.heap.size B ys) (hn' : ys.length = m) (hd : m ≤ d) (hm' : d ≤ 9223372036854775807) :
    Calls Try.prog 28 #[.slice A n c, .slice B m d] w fun e w' => e = .returned (.bool (decide (xs = ys))) ∧ Drew w w' := by
  have Hn := hide hn
  have Hm := hide hn'
  by_cases hnm : n = m
  · subst hnm
    clear hn hn'
    go_enter Try.func28, Try.ntmps28
    go_wp2
    go_loopw [13] (fun i wr => ∃ k : Nat, k ≤ n ∧ i = .int .i64 k ∧ Hid (xs.take k = ys.take k) ∧ Drew w wr) (fun i _ => n - (intOf i).toNat)
    case atStart => exact ⟨0, by omega, rfl, hide (by simp), Drew.refl _⟩
    case round =>
      obtain ⟨k, hk, rfl, ht, j, rfl⟩ := hrel
      by_cases hlt : k < n
      · obtain ⟨ad, x, rfl, _, hx1, c1⟩ := hx.icell (k := k) (by have := Hn.out; omega)
        obtain ⟨ad2, y, rfl, _, hy1, c2⟩ := hy.icell (k := k) (by have := Hm.out; omega)
        have h0 : (0 : Int) ≤ k := by omega
        have h1 : (k : Int) < n := by omega
        by_cases e : x = y
        · subst e
          have HT := hide (take_more ht.out hx1 hy1)
          have hb : (x != x) = false := by simp
          clear hx hy hx1 hy1
          go_upto_region 6 with fail
          go_quiet (fail)
          go_wp2
          go_roundw
          case rel => exact ⟨k + 1, by omega, by go_num, HT, ⟨_, rfl⟩⟩
          case measure => simp [intOf]; omega
        · have HF := hide (at_false hx1 hy1 e)
          have hb : (x != y) = true := by simp [e]
          clear hx hy hx1 hy1 e
          go_upto_region 6 with fail
          go_quiet (fail)
          go_wp2
          go_ret
          exact ⟨by rw [HF.out]; rfl, by first | exact ⟨_, rfl⟩ | exact drewN_drewN' _ _ _⟩
      · obtain rfl : k = n := by omega
        have HF := hide (decide_eq_true (same_of_take ht.out (by rw [Hn.out]; omega) (by rw [Hm.out]; omega)))
        clear hx hy
        go_wp2
        go_ret
        exact ⟨by rw [HF.out]; rfl, by first | exact ⟨_, rfl⟩ | exact drewN_drewN' _ _ _⟩
  · have HF := hide (lens_false (xs := xs) (ys := ys) (by omega))
    have hb : ((n : Int) != m) = true := by rw [bne_iff_ne]; omega
    clear hx hy hn hn' hnm
    go_enter Try.func28, Try.ntmps28
    go_wp2
    go_ret
    exact ⟨by rw [HF.out]; rfl, Drew.refl _⟩
theorem same_any (A B : Option Addr) (n c m d : Nat) (xs ys : List Int) (w : World) (hx : I32s w w.heap.size A xs) (hn : xs.length = n) (hc : n ≤ c) (hm : c ≤ 9223372036854775807)
    (hy : I32s w w.heap.size B ys) (hn' : ys.length = m) (hd : m ≤ d) (hm' : d ≤ 9223372036854775807) :
    Calls Try.prog 14 #[.slice A n c, .slice B m d] w fun e w' => e = .returned (.bool (decide (xs = ys))) ∧ Drew w w' := by
  have HC := hide (equal_any A B n c m d xs ys w hx hn hc hm hy hn' hd hm')
  clear hx hn hy hn'
  go_enter Try.func14, Try.ntmps14
  go_wp2_with (go_at_call 28; refine HC.out.mono ?_; rintro e w' ⟨rfl, j, rfl⟩)
  go_ret
  exact ⟨rfl, ⟨_, rfl⟩⟩
def outB (x : Int) : Bool := decide (x < -16777216 ∨ 16777216 < x)
set_option maxHeartbeats 1000000 in
theorem beyond_any (x : Int) (w : World) : Calls Try.prog 22 #[.int .i32 x] w fun e w' => e = .returned (.bool (outB x)) ∧ w = w' := by
  rcases (show x < -16777216 ∨ (¬ x < -16777216 ∧ 16777216 < x) ∨ (¬ x < -16777216 ∧ ¬ 16777216 < x) by omega) with h | ⟨h, h'⟩ | ⟨h, h'⟩
  · have hs : outB x = true := decide_eq_true (.inl h)
    have hb : decide (x < -16777216) = true := decide_eq_true h
    rw [hs]
    go_enter Try.func22, Try.ntmps22
    go_wp2
    go_ret
    exact ⟨rfl, rfl⟩
  · have hs : outB x = true := decide_eq_true (.inr h')
    have hb : decide (x < -16777216) = false := decide_eq_false h
    have hb' : decide (16777216 < x) = true := decide_eq_true h'
    rw [hs]
    go_enter Try.func22, Try.ntmps22
    go_wp2
    go_ret
    exact ⟨rfl, rfl⟩
  · have hs : outB x = false := decide_eq_false (by omega)
    have hb : decide (x < -16777216) = false := decide_eq_false h
    have hb' : decide (16777216 < x) = false := decide_eq_false h'
    rw [hs]
    go_enter Try.func22, Try.ntmps22
    go_wp2
    go_ret
    exact ⟨rfl, rfl⟩
theorem any_take {xs : List Int} {p : Int → Bool} {k : Nat} {x : Int} (h : (xs.take k).any p = false) (hx : xs[k]? = some x) (hp : p x = false) : (xs.take (k + 1)).any p = false := by
  rw [List.take_add_one, hx]; simp only [List.any_append, h, Bool.false_or]; simp [hp]
theorem any_at {xs : List Int} {p : Int → Bool} {k : Nat} {x : Int} (hx : xs[k]? = some x) (hp : p x = true) : xs.any p = true := List.any_eq_true.2 ⟨x, List.mem_of_getElem? hx, hp⟩
def Idx (b : Bool) (r : Int) : Prop := decide (0 ≤ r) = b
set_option maxHeartbeats 1000000 in
theorem indexFunc_any (A : Option Addr) (n c : Nat) (xs : List Int) (w : World) (hx : I32s w w.heap.size A xs) (hn : xs.length = n) (hc : n ≤ c) (hm : c ≤ 9223372036854775807) :
    Calls Try.prog 32 #[.slice A n c, .func (.func 22) #[] #[]] w fun e w' => (∃ r, e = .returned (.int .i64 r) ∧ Idx (xs.any outB) r) ∧ w = w' := by
  have Hn := hide hn
  clear hn
  go_enter Try.func32, Try.ntmps32
  go_wp2
  go_loopw [8] (fun i wr => ∃ k : Nat, k ≤ n ∧ i = .int .i64 k ∧ Hid ((xs.take k).any outB = false) ∧ w = wr) (fun i _ => n - (intOf i).toNat)
  case atStart => exact ⟨0, by omega, rfl, hide (by simp), by first | rfl | trivial⟩
  case round =>
    obtain ⟨k, hk, rfl, ht, rfl⟩ := hrel
    by_cases hlt : k < n
    · obtain ⟨ad, x, rfl, _, hx1, c1⟩ := hx.icell (k := k) (by have := Hn.out; omega)
      have h0 : (0 : Int) ≤ k := by omega
      have h1 : (k : Int) < n := by omega
      have CC := hide (beyond_any x w)
      cases ho : outB x
      · have HT := hide (any_take ht.out hx1 ho)
        rw [ho] at CC
        clear hx hx1 ho
        go_wp2_with (go_at_call 22; refine CC.out.mono ?_; rintro e w' ⟨rfl, rfl⟩)
        go_roundw
        case rel => exact ⟨k + 1, by omega, by go_num, HT, by first | rfl | trivial⟩
        case measure => simp [intOf]; omega
      · have HF := hide (any_at hx1 ho)
        rw [ho] at CC
        clear hx hx1 ho
        go_wp2_with (go_at_call 22; refine CC.out.mono ?_; rintro e w' ⟨rfl, rfl⟩)
        go_ret
        exact ⟨⟨k, rfl, by unfold Idx; rw [HF.out, decide_eq_true h0]⟩, rfl⟩
    · obtain rfl : k = n := by omega
      have HF : Hid (xs.any outB = false) := hide (by have := ht.out; rwa [List.take_of_length_le (by rw [Hn.out]; omega)] at this)
      clear hx
      go_wp2
      go_ret
      exact ⟨⟨-1, rfl, by unfold Idx; rw [HF.out]; rfl⟩, rfl⟩
theorem contains_any (A : Option Addr) (n c : Nat) (xs : List Int) (w : World) (hx : I32s w w.heap.size A xs) (hn : xs.length = n) (hc : n ≤ c) (hm : c ≤ 9223372036854775807) :
    Calls Try.prog 23 #[.slice A n c, .func (.func 22) #[] #[]] w fun e w' => e = .returned (.bool (xs.any outB)) ∧ w = w' := by
  have HC := hide (indexFunc_any A n c xs w hx hn hc hm)
  clear hx hn
  go_enter Try.func23, Try.ntmps23
  go_wp2_with (go_at_call 32; refine HC.out.mono ?_; rintro e w' ⟨⟨r, rfl, hr⟩, rfl⟩)
  go_ret
  exact ⟨by rw [← hr]; rfl, rfl⟩
/-- the error number of a check -/
def errOf (b : Bool) : Int := if b then 0 else 1
theorem vecOk_out (xs : List Int) (dim : Int) (h : (1 ≤ dim ∧ dim ≤ 4096 ∧ (xs.length : Int) = dim)) : vecOk xs dim = !xs.any outB := by
  unfold vecOk
  rw [decide_eq_true h, Bool.true_and, Bool.eq_iff_iff]
  simp only [List.all_eq_true, decide_eq_true_eq, Bool.not_eq_true', List.any_eq_false, outB]
  exact ⟨fun g x hx e => by have := g x hx; omega, fun g x hx => by have := g x hx; omega⟩
theorem vecOk_no (xs : List Int) (dim : Int) (h : ¬ (1 ≤ dim ∧ dim ≤ 4096 ∧ (xs.length : Int) = dim)) : vecOk xs dim = false := by
  unfold vecOk
  rw [decide_eq_false h, Bool.false_and]
set_option maxHeartbeats 2000000 in
theorem check_any (A : Option Addr) (n c : Nat) (xs : List Int) (dim : Int) (w : World) (hx : I32s w w.heap.size A xs) (hn : xs.length = n) (hc : n ≤ c) (hm : c ≤ 9223372036854775807) :
    Calls Try.prog 9 #[.slice A n c, .int .i64 dim] w fun e w' => e = .returned (.int .i64 (errOf (vecOk xs dim))) ∧ w = w' := by
  by_cases h : 1 ≤ dim ∧ dim ≤ 4096 ∧ (n : Int) = dim
  · have hs := vecOk_out xs dim (by rw [hn]; exact h)
    obtain ⟨h1, h2, h3⟩ := h
    subst h3
    have CC := hide (contains_any A n c xs w hx hn hc hm)
    have b1 : decide ((n : Int) < 1) = false := decide_eq_false (by omega)
    have b2 : decide (4096 < (n : Int)) = false := decide_eq_false (by omega)
    have b3 : ((n : Int) != n) = false := by simp
    rw [hs]
    clear hx hn hs
    cases ho : xs.any outB
    all_goals
      rw [ho] at CC
      clear ho
      go_enter Try.func9, Try.ntmps9
      go_wp2_with (go_at_call 23; refine CC.out.mono ?_; rintro e w' ⟨rfl, rfl⟩)
      go_ret
      exact ⟨rfl, rfl⟩
  · rw [vecOk_no xs dim (by rw [hn]; exact h)]
    clear hx hn
    rcases (show dim < 1 ∨ (¬ dim < 1 ∧ 4096 < dim) ∨ (¬ dim < 1 ∧ ¬ 4096 < dim ∧ (n : Int) ≠ dim) by omega) with h1 | ⟨h1, h2⟩ | ⟨h1, h2, h3⟩
    · have b1 : decide (dim < 1) = true := decide_eq_true h1
      clear h
      go_enter Try.func9, Try.ntmps9
      go_wp2
      go_ret
      exact ⟨rfl, rfl⟩
    · have b1 : decide (dim < 1) = false := decide_eq_false h1
      have b2 : decide (4096 < dim) = true := decide_eq_true h2
      clear h
      go_enter Try.func9, Try.ntmps9
      go_wp2
      go_ret
      exact ⟨rfl, rfl⟩
    · have b1 : decide (dim < 1) = false := decide_eq_false h1
      have b2 : decide (4096 < dim) = false := decide_eq_false h2
      have b3 : ((n : Int) != dim) = true := by rw [bne_iff_ne]; exact h3
      clear h h3
      go_enter Try.func9, Try.ntmps9
      go_wp2
      go_ret
      exact ⟨rfl, rfl⟩
end Go.Proofs.Ytojanklgjdjniac
