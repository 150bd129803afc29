/-
  The package vec, function by function: equal, ahead, right. Conditions: the slices read as lists of int32s.
-/
import Derived.Test.YtodlbbcgplhihagVecA
namespace Go.Proofs.Ytodlbbcgplhihag
open Go.RowKit

theorem lens_false {xs ys : List Int} (h : xs.length ≠ ys.length) : decide (xs = ys) = false := decide_eq_false (fun e => h (by rw [e]))
theorem at_false {xs ys : List Int} {k : Nat} {x y : Int} (hx : xs[k]? = some x) (hy : ys[k]? = some y) (h : x ≠ y) : decide (xs = ys) = false :=
  decide_eq_false (fun e => h (by rw [e, hy] at hx; injection hx with hx; exact hx.symm))
set_option maxHeartbeats 1000000 in
theorem equal_any (A B : Option Addr) (n c m d : Nat) (xs ys : List Int) (w : World) (hx : I32s w w.heap.size A xs) (hn : xs.length = n) (hc : n ≤ c) (hm : c ≤ 9223372036854775807)
    (hy : I32s w w.heap.size B ys) (hn' : ys.length = m) (hd : m ≤ d) (hm' : d ≤ 9223372036854775807) :
    Calls Try.prog 27 #[.slice A n c, .slice B m d] w fun e w' => e = .returned (.bool (decide (xs = ys))) ∧ Drew w w' := by
  have Hn := hide hn
  have Hm := hide hn'
  by_cases hnm : n = m
  · subst hnm
    clear hn hn'
    go_enter Try.func27, Try.ntmps27
    go_wp2
    go_loopw [13] (fun i wr => ∃ k : Nat, k ≤ n ∧ i = .int .i64 k ∧ Hid (xs.take k = ys.take k) ∧ Drew w wr) (fun i _ => n - (intOf i).toNat)
    case atStart => exact ⟨0, by omega, rfl, hide (by simp), Drew.refl _⟩
    case round =>
      obtain ⟨k, hk, rfl, ht, j, rfl⟩ := hrel
      by_cases hlt : k < n
      · obtain ⟨ad, x, rfl, _, hx1, c1⟩ := hx.icell (k := k) (by have := Hn.out; omega)
        obtain ⟨ad2, y, rfl, _, hy1, c2⟩ := hy.icell (k := k) (by have := Hm.out; omega)
        have h0 : (0 : Int) ≤ k := by omega
        have h1 : (k : Int) < n := by omega
        by_cases e : x = y
        · subst e
          have HT := hide (take_more ht.out hx1 hy1)
          have hb : (x != x) = false := by simp
          clear hx hy hx1 hy1
          go_upto_region 6 with fail
          go_quiet (fail)
          go_wp2
          go_roundw
          case rel => exact ⟨k + 1, by omega, by go_num, HT, ⟨_, rfl⟩⟩
          case measure => simp [intOf]; omega
        · have HF := hide (at_false hx1 hy1 e)
          have hb : (x != y) = true := by simp [e]
          clear hx hy hx1 hy1 e
          go_upto_region 6 with fail
          go_quiet (fail)
          go_wp2
          go_ret
          exact ⟨by rw [HF.out]; rfl, by first | exact ⟨_, rfl⟩ | exact drewN_drewN' _ _ _⟩
      · obtain rfl : k = n := by omega
        have HF := hide (decide_eq_true (same_of_take ht.out (by rw [Hn.out]; omega) (by rw [Hm.out]; omega)))
        clear hx hy
        go_wp2
        go_ret
        exact ⟨by rw [HF.out]; rfl, by first | exact ⟨_, rfl⟩ | exact drewN_drewN' _ _ _⟩
  · have HF := hide (lens_false (xs := xs) (ys := ys) (by omega))
    have hb : ((n : Int) != m) = true := by rw [bne_iff_ne]; omega
    clear hx hy hn hn' hnm
    go_enter Try.func27, Try.ntmps27
    go_wp2
    go_ret
    exact ⟨by rw [HF.out]; rfl, Drew.refl _⟩
def outB (x : Int) : Bool := decide (x < -16777216 ∨ 16777216 < x)
theorem any_take {xs : List Int} {p : Int → Bool} {k : Nat} {x : Int} (h : (xs.take k).any p = false) (hx : xs[k]? = some x) (hp : p x = false) : (xs.take (k + 1)).any p = false := by
  rw [List.take_add_one, hx]; simp only [List.any_append, h, Bool.false_or]; simp [hp]
theorem any_at {xs : List Int} {p : Int → Bool} {k : Nat} {x : Int} (hx : xs[k]? = some x) (hp : p x = true) : xs.any p = true := List.any_eq_true.2 ⟨x, List.mem_of_getElem? hx, hp⟩
def Idx (b : Bool) (r : Int) : Prop := decide (0 ≤ r) = b
/-- the error number of a check -/
def errOf (b : Bool) : Int := if b then 0 else 1
theorem vecOk_out (xs : List Int) (dim : Int) (h : (1 ≤ dim ∧ dim ≤ 4096 ∧ (xs.length : Int) = dim)) : vecOk xs dim = !xs.any outB := by
  unfold vecOk
  rw [decide_eq_true h, Bool.true_and, Bool.eq_iff_iff]
  simp only [List.all_eq_true, decide_eq_true_eq, Bool.not_eq_true', List.any_eq_false, outB]
  exact ⟨fun g x hx e => by have := g x hx; omega, fun g x hx => by have := g x hx; omega⟩
theorem vecOk_no (xs : List Int) (dim : Int) (h : ¬ (1 ≤ dim ∧ dim ≤ 4096 ∧ (xs.length : Int) = dim)) : vecOk xs dim = false := by
  unfold vecOk
  rw [decide_eq_false h, Bool.false_and]
end Go.Proofs.Ytodlbbcgplhihag
