/-
  Whether two lists of hits are equal. Conditions: the slices read as lists of hits.
-/
import Derived.Test.YtphbdffgeeicaabGreatHit
import Derived.Test.YtphbdffgeeicaabGreatSmall
namespace Go.Proofs.YtphbdffgeeicaabGreat
set_option linter.unusedSimpArgs false
set_option linter.unusedVariables false
open Go.RowKit

set_option maxHeartbeats 1000000 in
theorem sameHits_any (A B : Option Addr) (n c m d : Nat) (xs ys : List Hit) (w : World) (hx : Rd SH w w.heap.size A xs) (hn : xs.length = n) (hc : n ≤ c) (hm : c ≤ 9223372036854775807)
    (hy : Rd SH w w.heap.size B ys) (hn' : ys.length = m) (hd : m ≤ d) (hm' : d ≤ 9223372036854775807) :
    Calls Tryz.prog 11 #[.slice A n c, .slice B m d] w fun e w' => e = .returned (.bool (decide (xs = ys))) ∧ Drew w w' := by
  have Hn := hide hn
  have Hm := hide hn'
  by_cases hnm : n = m
  · subst hnm
    clear hn hn'
    go_enter Tryz.func11, Tryz.ntmps11
    go_wp2
    go_loopw [5, 13] (fun _ i wr => ∃ k : Nat, k ≤ n ∧ i = .int .i64 k ∧ Hid (xs.take k = ys.take k) ∧ Drew w wr) (fun _ i _ => n - (intOf i).toNat)
    case atStart => exact ⟨0, by omega, rfl, hide (by simp), Drew.refl _⟩
    case round =>
      obtain ⟨k, hk, rfl, ht, j, rfl⟩ := hrel
      by_cases hlt : k < n
      · obtain ⟨ad, ⟨x1, x2⟩, rfl, _, hx1, c1, c1'⟩ := hx.hcell (k := k) (by have := Hn.out; omega)
        obtain ⟨ad2, ⟨y1, y2⟩, rfl, _, hy1, c2, c2'⟩ := hy.hcell (k := k) (by have := Hm.out; omega)
        simp only at c1 c1' c2 c2'
        have h0 : (0 : Int) ≤ k := by omega
        have h1 : (k : Int) < n := by omega
        by_cases e : (x1, x2) = (y1, y2)
        · have HT := hide (show xs.take (k + 1) = ys.take (k + 1) by rw [take_snoc hx1, take_snoc hy1, ht.out, e])
          have he := run_neq_hit x1 x2 y1 y2 (hit_same e)
          clear hx hy hx1 hy1 e
          go_upto_region 6 with fail
          go_quiet (fail)
          go_wp2
          go_roundw
          case rel => exact ⟨k + 1, by omega, by go_num, HT, by first | exact ⟨_, rfl⟩ | exact drewN_drewN' _ _ _⟩
          case measure => simp [intOf]; omega
        · have HF := hide (at_falseG hx1 hy1 e)
          have he := run_neq_hit x1 x2 y1 y2 (hit_other e)
          clear hx hy hx1 hy1 e
          go_upto_region 6 with fail
          go_quiet (fail)
          go_wp2
          go_ret
          exact ⟨by rw [HF.out]; rfl, by first | exact ⟨_, rfl⟩ | exact drewN_drewN' _ _ _⟩
      · obtain rfl : k = n := by omega
        have HF := hide (show decide (xs = ys) = true from decide_eq_true (by
          have h := ht.out
          rwa [List.take_of_length_le (by have := Hn.out; omega), List.take_of_length_le (by have := Hm.out; omega)] at h))
        clear hx hy
        go_wp2
        go_ret
        exact ⟨by rw [HF.out]; rfl, by first | exact ⟨_, rfl⟩ | exact drewN_drewN' _ _ _⟩
  · have HF := hide (lens_falseG (xs := xs) (ys := ys) (by omega))
    have hb : ((n : Int) != m) = true := by rw [bne_iff_ne]; omega
    clear hx hy hn hn' hnm
    go_enter Tryz.func11, Tryz.ntmps11
    go_wp2
    go_ret
    exact ⟨by rw [HF.out]; rfl, Drew.refl _⟩
end Go.Proofs.YtphbdffgeeicaabGreat
