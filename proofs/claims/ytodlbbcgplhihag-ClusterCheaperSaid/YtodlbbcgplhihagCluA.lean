/-
  The package cluster, function by function: sums, groups, costs. Conditions: the slices read as lists of int32s.
-/
import Derived.Test.YtodlbbcgplhihagVecD
import Derived.Test.YtodlbbcgplhihagLib3
import Derived.Test.YtodlbbcgplhihagCluP
import Derived.Test.YtodlbbcgplhihagEqI
namespace Go.Proofs.Ytodlbbcgplhihag
open Go.RowKit

set_option maxHeartbeats 1000000 in
theorem clone_any (A : Option Addr) (n c : Nat) (xs : List Int) (w : World) (hx : I32s w w.heap.size A xs) (hn : xs.length = n) (h6 : n ≤ 1000000) :
    Calls Try.prog 21 #[.slice A n c] w (GivesI .i32 w xs) := by
  have Hn := hide hn
  have HX := hide hx
  have he := fun W : World => Lib.run_eql_slice_nil (P := Try.prog) W 27 21 A n c 0 0 Try.underlying27
  rcases A with _ | ad
  · have hxs : xs = [] := by
      rcases xs with _ | ⟨x, xs⟩
      · rfl
      · obtain ⟨ad, e, _⟩ := hx (by simp)
        cases e
    have HF := hide (show GivesI .i32 w xs (.returned (.slice none 0 0)) w by subst hxs; exact ⟨_, rfl, NewInts.nil (Below.refl _ _)⟩)
    clear hx hn hxs
    go_enter Try.func21, Try.ntmps21
    go_wp2
    go_ret
    exact HF.out
  · clear hx hn
    have ho := hide (World.ownsRow_lit (base := w.heap.size) (e := 21) (size := 1) w #[] 0 (Nat.le_refl _) (by simp [maxLen]) rfl)
    go_enter Try.func21, Try.ntmps21
    go_wp2_with (at_builtin; refine wpList_append_ints rfl _ _ 27 rfl w.heap.size Try.underlying27 info_i32 rfl _ 0 [] rfl ho.out w.heap.size _ n c xs rfl (HX.out.alloc (Nat.le_refl _) _) Hn.out (by simp only [maxLen]; omega) (by omega) (by simp) ?_; intro v' w9 hown9 hgr9 hat9; have HO := hide hown9; have HG := hide (below_own ((Below.refl w.heap.size w).alloc (Nat.le_refl _) _) ho.out (by simp) hgr9); clear hown9 hgr9 hat9)
    go_ret
    exact ⟨_, rfl, NewInts.of_own (n := 0 + n) HO.out HG.out⟩

set_option maxHeartbeats 1000000 in
theorem add_any (g : Nat) (s d : Int) (w : World) (hg : Blk w g 47 #[.int .u64 s]) (h0 : 0 ≤ s) (h1 : s < 18446744073709551616) (d0 : 0 ≤ d) (d1 : d < 18446744073709551616) :
    Calls Try.prog 24 #[.pointer (some ⟨g, 0, none⟩), .int .u64 d] w fun e w' => e = .returned (.tuple #[]) ∧ w.setCell ⟨g, 0, none⟩ (.int .u64 (addH s d)) = w' := by
  have c0 : w.cell? ⟨g, 0, none⟩ = some (.int .u64 s) := by rw [hg.cell]; rfl
  have f0 := hg.frozen 0
  clear hg
  by_cases ho : s + d < 18446744073709551616
  · have hadd := run_add64_small h0 d0 ho
    have HS := hide (show addH s d = s + d from held_small ho)
    go_enter Try.func24, Try.ntmps24
    go_wp2
    go_end0
    exact ⟨rfl, by rw [HS.out]⟩
  · have hadd := run_add64_great h0 d0 h1 d1 (by omega)
    have HS := hide (show addH s d = 18446744073709551615 from held_great (by omega))
    go_enter Try.func24, Try.ntmps24
    go_wp2
    go_end0
    exact ⟨rfl, by rw [HS.out]⟩

theorem held_lt {n : Int} (h : 0 ≤ n) : 0 ≤ held n ∧ held n < 18446744073709551616 := by have := held_le n; have := held_nonneg h; omega
theorem dist_lt (xs ys : List Int) : 0 ≤ distOf xs ys ∧ distOf xs ys < 18446744073709551616 := by have := distOf_le xs ys; omega
theorem cAt_of {l : List (List Int)} {k : Nat} {v : List Int} (h : l[k]? = some v) : cAt l k = v := by simp [cAt, h]
theorem sum_zero (w : World) : (zeroValue 47).run Try.prog w = .ok (.int .u64 0) w := by kernel_rfl

set_option maxHeartbeats 1000000 in
theorem far_any (A B : Option Addr) (n c m d : Nat) (l : List (List Int)) (ys : List Int) (w : World) (hx : LL w w.heap.size A l) (hn : l.length = n) (hc : n ≤ c) (hm : c ≤ 9223372036854775807) (hi : ∀ v ∈ l, I32 v)
    (hy : I32s w w.heap.size B ys) (hn' : ys.length = m) (hyi : I32 ys) (hd : m ≤ d) (hm' : d ≤ 9223372036854775807) :
    Calls Try.prog 23 #[.slice A n c, .slice B m d] w fun e w' => e = .returned (.int .u64 (held (farOf l ys))) ∧ Below w.heap.size w w' := by
  have HX := hide hx
  have HY := hide hy
  have HI := hide hi
  have HYI := hide hyi
  have Hn := hide hn
  have Hm := hide hn'
  have HE := hide (show farOf l ys = farTo l ys n by unfold farOf; rw [hn])
  have hz := sum_zero
  have S0 := hide (show Blk (w.alloc (.cells #[.int .u64 0] 47)) w.heap.size 47 #[.int .u64 (held (farTo l ys 0))] ∧ Below w.heap.size w (w.alloc (.cells #[.int .u64 0] 47)) from ⟨Blk.new _ _ _, below1 _ _⟩)
  clear hx hy hi hyi hn hn'
  go_enter Try.func23, Try.ntmps23
  go_wp2
  go_loopw [10] (fun i wr => ∃ k : Nat, k ≤ n ∧ i = .int .i64 k ∧ Hid (Blk wr w.heap.size 47 #[.int .u64 (held (farTo l ys k))] ∧ Below w.heap.size w wr)) (fun i _ => n - (intOf i).toNat)
  case atStart => exact ⟨0, by omega, rfl, S0⟩
  case round =>
    obtain ⟨k, hk, rfl, hS⟩ := hrel
    clear S0
    by_cases hlt : k < n
    · obtain ⟨ad', v, A', c', rfl, _, hv, q0, q1, q2, q3⟩ := (HX.out.below hS.out.2 (Nat.le_refl _)).slc (k := k) (by have := Hn.out; omega)
      have hvi := hide (i32_get HI.out hv)
      have HV := hide hv
      have HQ := hide (show I32s wr wr.heap.size A' v from q3.more hS.out.2.size)
      have HYW := hide (show I32s wr wr.heap.size B ys from (HY.out.below hS.out.2 (Nat.le_refl _)).more hS.out.2.size)
      have hnx := hide (show addH (held (farTo l ys k)) (distOf v ys) = held (farTo l ys (k + 1)) by
        rw [addH_held (farTo_nonneg _ _ _) (dist_lt _ _).1]; simp only [farTo]; rw [cAt_of hv])
      have g0 : (0 : Int) ≤ k := by omega
      have g1 : (k : Int) < n := by omega
      clear hv q3
      go_wp2_with (first
        | (go_at_call 8; refine (dist_any A' B v.length c' m d v ys _ HQ.out rfl hvi.out q1 q2 HYW.out Hm.out HYI.out hd hm').mono ?_; rintro e _ ⟨rfl, rfl⟩)
        | (go_at_call 24; refine (add_any w.heap.size (held (farTo l ys k)) (distOf v ys) _ hS.out.1 (held_lt (farTo_nonneg _ _ _)).1 (held_lt (farTo_nonneg _ _ _)).2 (dist_lt _ _).1 (dist_lt _ _).2).mono ?_; rintro e w2 ⟨rfl, hw2⟩; have S2 := hide (show Blk w2 w.heap.size 47 #[.int .u64 (held (farTo l ys (k + 1)))] ∧ Below w.heap.size w w2 from (by rw [← hw2, hnx.out]; exact ⟨hS.out.1.set_ 0 _, hS.out.2.setCell (Nat.le_refl _) _⟩)); clear hw2))
      go_roundw
      case rel => exact ⟨k + 1, by omega, by go_num, S2⟩
      case measure => simp [intOf]; omega
    · obtain rfl : n = k := by omega
      have c0 : wr.cell? ⟨w.heap.size, 0, none⟩ = some (.int .u64 (held (farTo l ys n))) := by rw [hS.out.1.cell]; rfl
      go_wp2
      go_ret
      exact ⟨by rw [HE.out]; rfl, hS.out.2⟩

set_option maxHeartbeats 2000000 in
theorem group_any (A B : Option Addr) (n c m d : Nat) (v : List Int) (cs : List (List Int)) (w : World) (hx : I32s w w.heap.size A v) (hn : v.length = n) (hxi : I32 v) (hc : n ≤ c) (hm : c ≤ 9223372036854775807)
    (hy : LL w w.heap.size B cs) (hn' : cs.length = m) (hyi : ∀ u ∈ cs, I32 u) (hd : m ≤ d) (hm' : d ≤ 9223372036854775807) (h0 : 0 < m) :
    Calls Try.prog 18 #[.slice A n c, .slice B m d] w fun e w' => e = .returned (.tuple #[.int .i64 (best v cs), .int .u64 (distOf v (cAt cs (best v cs)))]) ∧ w = w' := by
  have HX := hide hx
  have HY := hide hy
  have HXI := hide hxi
  have HYI := hide hyi
  have Hn := hide hn
  have Hm := hide hn'
  have HE := hide (show best v cs = bestTo v cs m by unfold best; rw [hn'])
  obtain ⟨ad, x0, A0, c0, rfl, _, hx0, k0, k1, k2, k3⟩ := hy.slc (k := 0) (by omega)
  rw [add_zero'] at k0
  have HD0 := hide (dist_any A A0 n c x0.length c0 v x0 w hx hn hxi hc hm k3 rfl (i32_get hyi hx0) k1 k2)
  have hb1 : distOf v x0 = distOf v (cAt cs (bestTo v cs 1)) := by rw [bestTo_one, cAt_of hx0]
  rw [hb1] at HD0
  clear hx hy hxi hyi hn hn' hx0 k3 hb1
  by_cases hd1 : d = 1
  · subst hd1
    obtain rfl : m = 1 := by omega
    go_enter Try.func18, Try.ntmps18
    go_wp2_with (go_at_call 8; refine HD0.out.mono ?_; rintro e _ ⟨rfl, rfl⟩)
    go_loop [6, 7, 19] (fun b ls i => i = .int .i64 0 ∧ b = .int .i64 0 ∧ ls = .int .u64 (distOf v (cAt cs (bestTo v cs 1)))) (fun _ _ i => 0)
    case atStart => exact ⟨rfl, rfl, rfl⟩
    case round =>
      obtain ⟨rfl, rfl, rfl⟩ := hrel
      go_wp2
      go_ret2
      exact ⟨by rw [HE.out, bestTo_one]; rfl, rfl⟩
  · obtain ⟨q, rfl⟩ : ∃ q, m = q + 1 := ⟨m - 1, by omega⟩
    go_enter Try.func18, Try.ntmps18
    go_wp2_with (go_at_call 8; refine HD0.out.mono ?_; rintro e _ ⟨rfl, rfl⟩)
    go_loopw [6, 7, 19] (fun b ls i wr => ∃ k : Nat, k ≤ q ∧ i = .int .i64 k ∧ b = .int .i64 (bestTo v cs (k + 1)) ∧ ls = .int .u64 (distOf v (cAt cs (bestTo v cs (k + 1)))) ∧ w = wr) (fun _ _ i _ => q - (intOf i).toNat)
    case atStart => exact ⟨0, by omega, rfl, by rw [bestTo_one]; rfl, rfl, by first | rfl | trivial⟩
    case round =>
      obtain ⟨k, hk, rfl, rfl, rfl, rfl⟩ := hrel
      have hb := bestTo_lt v cs (k + 1) (by omega)
      by_cases hlt : k < q
      · obtain ⟨ad', u, A', c', e', _, hu, q0, q1, q2, q3⟩ := HY.out.slc (k := k + 1) (by have := Hm.out; omega)
        injection e' with e'
        subst e'
        have q0' : w.cell? ⟨ad.block, ad.off + 1 + k, none⟩ = some (.slice A' u.length c') := by rw [← q0, add_succ']
        have HDk := hide (dist_any A A' n c u.length c' v u w HX.out Hn.out HXI.out hc hm q3 rfl (i32_get HYI.out hu) q1 q2)
        have hS : bestTo v cs (k + 1 + 1) = if distOf v u < distOf v (cAt cs (bestTo v cs (k + 1))) then k + 1 else bestTo v cs (k + 1) := by
          show (if distOf v (cAt cs (k + 1)) < _ then _ else _) = _
          rw [cAt_of hu]
        have hU := hide (cAt_of hu)
        clear hu q3 q0
        have g0 : (0 : Int) ≤ k := by omega
        have g1 : (k : Int) < q := by omega
        by_cases hcmp : distOf v u < distOf v (cAt cs (bestTo v cs (k + 1)))
        · rw [if_pos hcmp] at hS
          have HS := hide hS
          have hdc : decide (distOf v u < distOf v (cAt cs (bestTo v cs (k + 1)))) = true := decide_eq_true hcmp
          clear hS
          go_wp2_with (go_at_call 8; refine HDk.out.mono ?_; rintro e _ ⟨rfl, rfl⟩)
          go_roundw
          case rel => exact ⟨k + 1, by omega, by go_num, by rw [HS.out]; go_num, by rw [HS.out, hU.out], by first | rfl | trivial⟩
          case measure => simp [intOf]; omega
        · rw [if_neg hcmp] at hS
          have HS := hide hS
          have hdc : decide (distOf v u < distOf v (cAt cs (bestTo v cs (k + 1)))) = false := decide_eq_false hcmp
          clear hS
          go_wp2_with (go_at_call 8; refine HDk.out.mono ?_; rintro e _ ⟨rfl, rfl⟩)
          go_roundw
          case rel => exact ⟨k + 1, by omega, by go_num, by rw [HS.out], by rw [HS.out], by first | rfl | trivial⟩
          case measure => simp [intOf]; omega
      · obtain rfl : q = k := by omega
        go_wp2
        go_ret2
        exact ⟨by rw [HE.out]; rfl, rfl⟩
end Go.Proofs.Ytodlbbcgplhihag
