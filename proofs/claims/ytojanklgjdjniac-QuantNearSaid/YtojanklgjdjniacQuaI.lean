/-
  Whether two tables are equal. Conditions: the slices read as lists of lists.
-/
import Derived.Test.YtojanklgjdjniacQuaH
import Derived.Test.YtojanklgjdjniacEqI
namespace Go.Proofs.Ytojanklgjdjniac
open Go.RowKit

theorem Drew.trans {a b c : World} (h : Drew a b) (k : Drew b c) : Drew a c := by
  obtain ⟨n, rfl⟩ := h
  obtain ⟨m, rfl⟩ := k
  exact drewN_drewN' _ _ _
theorem Rd.drew_to {α : Type} {S : Sh α} {w w' : World} {A : Option Addr} {xs : List α} (h : Rd S w w.heap.size A xs) (hd : Drew w w') : Rd S w' w'.heap.size A xs := by
  obtain ⟨n, rfl⟩ := hd
  exact h.drewN n
theorem llens_false {xs ys : List (List Int)} (h : xs.length ≠ ys.length) : decide (xs = ys) = false := decide_eq_false (fun e => h (by rw [e]))
theorem lat_false {xs ys : List (List Int)} {k : Nat} {x y : List Int} (hx : xs[k]? = some x) (hy : ys[k]? = some y) (h : decide (x = y) = false) : decide (xs = ys) = false :=
  decide_eq_false (fun e => (of_decide_eq_false h) (by rw [e, hy] at hx; injection hx with hx; exact hx.symm))
theorem ltake_more {xs ys : List (List Int)} {k : Nat} {x y : List Int} (h : xs.take k = ys.take k) (hx : xs[k]? = some x) (hy : ys[k]? = some y) (e : decide (x = y) = true) : xs.take (k + 1) = ys.take (k + 1) := by
  rw [List.take_add_one, List.take_add_one, h, hx, hy, of_decide_eq_true e]
theorem lsame_of_take {xs ys : List (List Int)} {k : Nat} (h : xs.take k = ys.take k) (hx : xs.length ≤ k) (hy : ys.length ≤ k) : xs = ys := by
  rwa [List.take_of_length_le hx, List.take_of_length_le hy] at h
theorem quiet_drew {P : Program} {f : FuncId} {args : Array Value} {w : World} {n : Nat} {v : Value} (h : Calls P f args (w.drewN n) fun e w' => e = .returned v ∧ Drew (w.drewN n) w') :
    Calls P f args (w.drewN n) fun e w' => e = .returned v ∧ ∃ m, w' = w.drewN m := h.mono fun _ _ ⟨h1, h2⟩ => ⟨h1, (drewN_some w n).trans h2⟩
set_option maxHeartbeats 2000000 in
theorem sameTable_any (A B : Option Addr) (n c m d : Nat) (xs ys : List (List Int)) (w : World) (hx : Rd (Sh.list (Sh.int .u64)) w w.heap.size A xs) (hn : xs.length = n) (hc : n ≤ c) (hm : c ≤ 9223372036854775807)
    (hy : Rd (Sh.list (Sh.int .u64)) w w.heap.size B ys) (hn' : ys.length = m) (hd : m ≤ d) (hm' : d ≤ 9223372036854775807) :
    Calls Try.prog 17 #[.slice A n c, .slice B m d] w fun e w' => e = .returned (.bool (decide (xs = ys))) ∧ Drew w w' := by
  have Hn := hide hn
  have Hm := hide hn'
  have HX := hide hx
  have HY := hide hy
  clear hx hy
  by_cases hnm : n = m
  · subst hnm
    clear hn hn'
    have hne : ((n : Int) != n) = false := by simp
    go_enter Try.func17, Try.ntmps17
    go_wp2
    go_loopw [13] (fun i wr => ∃ k : Nat, k ≤ n ∧ i = .int .i64 k ∧ Hid (xs.take k = ys.take k) ∧ Hid (Drew w wr)) (fun i _ => n - (intOf i).toNat)
    case atStart => exact ⟨0, by omega, rfl, hide (by simp), hide (Drew.refl _)⟩
    case round =>
      obtain ⟨k, hk, rfl, ht, hD⟩ := hrel
      by_cases hlt : k < n
      · obtain ⟨ad, x, A1, c1, rfl, _, hx1, a0, a1, a2, a3⟩ := (HX.out.drew_to hD.out).slc (k := k) (by have := Hn.out; omega)
        obtain ⟨ad2, y, A2, c2, rfl, _, hy1, b0, b1, b2, b3⟩ := (HY.out.drew_to hD.out).slc (k := k) (by have := Hm.out; omega)
        have h0 : (0 : Int) ≤ k := by omega
        have h1 : (k : Int) < n := by omega
        have HC := hide (fun j => same64_any A1 A2 x.length c1 y.length c2 x y (wr.drewN j) (a3.drewN j) rfl a1 a2 (b3.drewN j) rfl b1 b2)
        have HX1 := hide hx1
        have HY1 := hide hy1
        clear hx1 hy1 a3 b3
        cases hxy : decide (x = y)
        · have HF := hide (lat_false HX1.out HY1.out hxy)
          simp only [hxy] at HC
          clear hxy
          go_upto_region 6 with fail
          go_quiet ((go_at_call 29; exact quiet_drew (HC.out _)))
          go_wp2
          go_ret
          exact ⟨by rw [HF.out]; rfl, hD.out.trans (by first | exact drewN_some _ _ | exact drewN_drewN' _ _ _)⟩
        · have HT := hide (ltake_more ht.out HX1.out HY1.out hxy)
          simp only [hxy] at HC
          clear hxy
          go_upto_region 6 with fail
          go_quiet ((go_at_call 29; exact quiet_drew (HC.out _)))
          go_wp2
          go_roundw
          case rel => exact ⟨k + 1, by omega, by go_num, HT, hide (hD.out.trans (by first | exact drewN_some _ _ | exact drewN_drewN' _ _ _))⟩
          case measure => simp [intOf]; omega
      · obtain rfl : n = k := by omega
        have HF := hide (decide_eq_true (lsame_of_take ht.out (by rw [Hn.out]; omega) (by rw [Hm.out]; omega)))
        go_wp2
        go_ret
        exact ⟨by rw [HF.out]; rfl, hD.out⟩
  · have HF := hide (llens_false (xs := xs) (ys := ys) (by omega))
    have hb : ((n : Int) != m) = true := by rw [bne_iff_ne]; omega
    clear hn hn' hnm
    go_enter Try.func17, Try.ntmps17
    go_wp2
    go_ret
    exact ⟨by rw [HF.out]; rfl, Drew.refl _⟩

end Go.Proofs.Ytojanklgjdjniac
