/-
  Whether two lists of numbers are equal: the functions that tell it. Conditions: the slices read as lists.
-/
import Derived.Test.YtlnbeeflifmnjacVecB
namespace Go.Proofs.Ytlnbeeflifmnjac
open Go.RowKit

set_option maxHeartbeats 1000000 in
theorem sameInts_any (A B : Option Addr) (n c m d : Nat) (xs ys : List Int) (w : World) (hx : Rd (Sh.int .i64) w w.heap.size A xs) (hn : xs.length = n) (hc : n ≤ c) (hm : c ≤ 9223372036854775807)
    (hy : Rd (Sh.int .i64) w w.heap.size B ys) (hn' : ys.length = m) (hd : m ≤ d) (hm' : d ≤ 9223372036854775807) :
    Calls Try.prog 13 #[.slice A n c, .slice B m d] w fun e w' => e = .returned (.bool (decide (xs = ys))) ∧ Drew w w' := by
  have Hn := hide hn
  have Hm := hide hn'
  by_cases hnm : n = m
  · subst hnm
    clear hn hn'
    go_enter Try.func13, Try.ntmps13
    go_wp2
    go_loopw [13] (fun i wr => ∃ k : Nat, k ≤ n ∧ i = .int .i64 k ∧ Hid (xs.take k = ys.take k) ∧ Drew w wr) (fun i _ => n - (intOf i).toNat)
    case atStart => exact ⟨0, by omega, rfl, hide (by simp), Drew.refl _⟩
    case round =>
      obtain ⟨k, hk, rfl, ht, j, rfl⟩ := hrel
      by_cases hlt : k < n
      · obtain ⟨ad, x, rfl, _, hx1, c1⟩ := hx.icell (k := k) (by have := Hn.out; omega)
        obtain ⟨ad2, y, rfl, _, hy1, c2⟩ := hy.icell (k := k) (by have := Hm.out; omega)
        have h0 : (0 : Int) ≤ k := by omega
        have h1 : (k : Int) < n := by omega
        by_cases e : x = y
        · subst e
          have HT := hide (take_more ht.out hx1 hy1)
          have hb : (x != x) = false := by simp
          clear hx hy hx1 hy1
          go_upto_region 6 with fail
          go_quiet (fail)
          go_wp2
          go_roundw
          case rel => exact ⟨k + 1, by omega, by go_num, HT, ⟨_, rfl⟩⟩
          case measure => simp [intOf]; omega
        · have HF := hide (at_false hx1 hy1 e)
          have hb : (x != y) = true := by simp [e]
          clear hx hy hx1 hy1 e
          go_upto_region 6 with fail
          go_quiet (fail)
          go_wp2
          go_ret
          exact ⟨by rw [HF.out]; rfl, by first | exact ⟨_, rfl⟩ | exact drewN_drewN' _ _ _⟩
      · obtain rfl : k = n := by omega
        have HF := hide (decide_eq_true (same_of_take ht.out (by rw [Hn.out]; omega) (by rw [Hm.out]; omega)))
        clear hx hy
        go_wp2
        go_ret
        exact ⟨by rw [HF.out]; rfl, by first | exact ⟨_, rfl⟩ | exact drewN_drewN' _ _ _⟩
  · have HF := hide (lens_false (xs := xs) (ys := ys) (by omega))
    have hb : ((n : Int) != m) = true := by rw [bne_iff_ne]; omega
    clear hx hy hn hn' hnm
    go_enter Try.func13, Try.ntmps13
    go_wp2
    go_ret
    exact ⟨by rw [HF.out]; rfl, Drew.refl _⟩
set_option maxHeartbeats 1000000 in
theorem same64_any (A B : Option Addr) (n c m d : Nat) (xs ys : List Int) (w : World) (hx : Rd (Sh.int .u64) w w.heap.size A xs) (hn : xs.length = n) (hc : n ≤ c) (hm : c ≤ 9223372036854775807)
    (hy : Rd (Sh.int .u64) w w.heap.size B ys) (hn' : ys.length = m) (hd : m ≤ d) (hm' : d ≤ 9223372036854775807) :
    Calls Try.prog 10 #[.slice A n c, .slice B m d] w fun e w' => e = .returned (.bool (decide (xs = ys))) ∧ Drew w w' := by
  have Hn := hide hn
  have Hm := hide hn'
  by_cases hnm : n = m
  · subst hnm
    clear hn hn'
    go_enter Try.func10, Try.ntmps10
    go_wp2
    go_loopw [13] (fun i wr => ∃ k : Nat, k ≤ n ∧ i = .int .i64 k ∧ Hid (xs.take k = ys.take k) ∧ Drew w wr) (fun i _ => n - (intOf i).toNat)
    case atStart => exact ⟨0, by omega, rfl, hide (by simp), Drew.refl _⟩
    case round =>
      obtain ⟨k, hk, rfl, ht, j, rfl⟩ := hrel
      by_cases hlt : k < n
      · obtain ⟨ad, x, rfl, _, hx1, c1⟩ := hx.icell (k := k) (by have := Hn.out; omega)
        obtain ⟨ad2, y, rfl, _, hy1, c2⟩ := hy.icell (k := k) (by have := Hm.out; omega)
        have h0 : (0 : Int) ≤ k := by omega
        have h1 : (k : Int) < n := by omega
        by_cases e : x = y
        · subst e
          have HT := hide (take_more ht.out hx1 hy1)
          have hb : (x != x) = false := by simp
          clear hx hy hx1 hy1
          go_upto_region 6 with fail
          go_quiet (fail)
          go_wp2
          go_roundw
          case rel => exact ⟨k + 1, by omega, by go_num, HT, ⟨_, rfl⟩⟩
          case measure => simp [intOf]; omega
        · have HF := hide (at_false hx1 hy1 e)
          have hb : (x != y) = true := by simp [e]
          clear hx hy hx1 hy1 e
          go_upto_region 6 with fail
          go_quiet (fail)
          go_wp2
          go_ret
          exact ⟨by rw [HF.out]; rfl, by first | exact ⟨_, rfl⟩ | exact drewN_drewN' _ _ _⟩
      · obtain rfl : k = n := by omega
        have HF := hide (decide_eq_true (same_of_take ht.out (by rw [Hn.out]; omega) (by rw [Hm.out]; omega)))
        clear hx hy
        go_wp2
        go_ret
        exact ⟨by rw [HF.out]; rfl, by first | exact ⟨_, rfl⟩ | exact drewN_drewN' _ _ _⟩
  · have HF := hide (lens_false (xs := xs) (ys := ys) (by omega))
    have hb : ((n : Int) != m) = true := by rw [bne_iff_ne]; omega
    clear hx hy hn hn' hnm
    go_enter Try.func10, Try.ntmps10
    go_wp2
    go_ret
    exact ⟨by rw [HF.out]; rfl, Drew.refl _⟩
end Go.Proofs.Ytlnbeeflifmnjac
