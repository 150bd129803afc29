/-
  The package cluster: groups, cost, whether lists of centers are equal. Conditions: the slices read as lists of int32s.
-/
import Derived.Test.YtodlbbcgplhihagCluA
namespace Go.Proofs.Ytodlbbcgplhihag
open Go.RowKit

set_option maxHeartbeats 2000000 in
theorem groups_any (A B : Option Addr) (n c m d : Nat) (l cs : List (List Int)) (w : World) (hx : LL w w.heap.size A l) (hn : l.length = n) (hc : n ≤ c) (hm : c ≤ 9223372036854775807) (hi : ∀ v ∈ l, I32 v)
    (hy : LL w w.heap.size B cs) (hn' : cs.length = m) (hyi : ∀ u ∈ cs, I32 u) (hd : m ≤ d) (hm' : d ≤ 9223372036854775807) (h6 : n ≤ 1000000) :
    Calls Try.prog 7 #[.slice A n c, .slice B m d] w (GivesI .i64 w (groupsOf l cs)) := by
  rcases Nat.eq_zero_or_pos m with h0 | h0
  · subst h0
    have HF := hide (show GivesI .i64 w (groupsOf l cs) (.returned (.slice none 0 0)) w by
      rw [List.eq_nil_of_length_eq_zero hn']; exact ⟨_, rfl, NewInts.nil (Below.refl _ _)⟩)
    clear hx hn hi hy hn' hyi
    go_enter Try.func7, Try.ntmps7
    go_wp2
    go_ret
    exact HF.out
  have HX := hide hx
  have HY := hide hy
  have HI := hide hi
  have HYI := hide hyi
  have Hn := hide hn
  have Hm := hide hn'
  have hne : ((m : Int) == 0) = false := by rw [beq_eq_false_iff_ne]; omega
  have HE : Hid (groupsOf l cs = (List.range n).map fun i => (best (cAt l i) cs : Int)) := hide (by
    unfold groupsOf
    rw [if_neg (by rintro rfl; simp at hn'; omega)]
    apply List.ext_getElem?
    intro i
    rcases Nat.lt_or_ge i n with h | h
    · rw [List.getElem?_map, List.getElem?_map, List.getElem?_range h, List.getElem?_eq_getElem (by omega)]
      simp [cAt, List.getD_eq_getElem?_getD, List.getElem?_eq_getElem (show i < l.length by omega)]
    · rw [List.getElem?_eq_none (by simp; omega), List.getElem?_eq_none (by simp; omega)])
  have hmk := fun W => run_make_rep (P := Try.prog) Try.underlying25 (e := 3) (z := .int .i64 0) (by_ := 8) (by kernel_rfl) rfl .i64 .i64 n n (Nat.le_refl _) (by omega) (by omega) W
  have S0 := hide (show Blk (w.alloc (.cells (rep n (.int .i64 0)) 3)) w.heap.size 3 (ics .i64 (stp (fun _ => 0) (fun i => (best (cAt l i) cs : Int)) 0) n) ∧ Below w.heap.size w (w.alloc (.cells (rep n (.int .i64 0)) 3)) from
    ⟨by rw [ics_stp0, ← ics_zero]; exact Blk.new _ _ _, below1 _ _⟩)
  clear hx hy hi hyi hn hn'
  go_enter Try.func7, Try.ntmps7
  go_wp2
  go_loopw [16] (fun i wr => ∃ k : Nat, k ≤ n ∧ i = .int .i64 k ∧ Hid (Blk wr w.heap.size 3 (ics .i64 (stp (fun _ => 0) (fun i => (best (cAt l i) cs : Int)) k) n) ∧ Below w.heap.size w wr)) (fun i _ => n - (intOf i).toNat)
  case atStart => exact ⟨0, by omega, rfl, S0⟩
  case round =>
    obtain ⟨k, hk, rfl, hS⟩ := hrel
    clear S0
    by_cases hlt : k < n
    · obtain ⟨ad', v, A', c', rfl, _, hv, q0, q1, q2, q3⟩ := (HX.out.below hS.out.2 (Nat.le_refl _)).slc (k := k) (by have := Hn.out; omega)
      have hvi := hide (i32_get HI.out hv)
      have HQ := hide (show I32s wr wr.heap.size A' v from q3.more hS.out.2.size)
      have HYW := hide (show LL wr wr.heap.size B cs from (HY.out.below hS.out.2 (Nat.le_refl _)).more hS.out.2.size)
      have HG := hide (group_any A' B v.length c' m d v cs wr HQ.out rfl hvi.out q1 q2 HYW.out Hm.out HYI.out hd hm' h0)
      have hst := ics_stp .i64 (fun _ => 0) (fun i => (best (cAt l i) cs : Int)) n k
      rw [cAt_of hv] at hst
      have HST := hide hst
      have hcell : wr.cell? ⟨w.heap.size, k, none⟩ = some (.int .i64 0) := by rw [hS.out.1.cell, ics_get _ _ _ _ hlt]; simp [stp]
      have hfr := hS.out.1.frozen k
      have g0 : (0 : Int) ≤ k := by omega
      have g1 : (k : Int) < n := by omega
      clear hv q3 hst
      go_wp2_with (go_at_call 18; refine HG.out.mono ?_; rintro e _ ⟨rfl, rfl⟩)
      go_roundw
      case rel => exact ⟨k + 1, by omega, by go_num, hide ⟨by rw [← HST.out]; exact hS.out.1.set_ _ _, hS.out.2.setCell (Nat.le_refl _) _⟩⟩
      case measure => simp [intOf]; omega
    · obtain rfl : n = k := by omega
      clear hmk
      go_wp2
      go_ret
      have hb := hS.out.1
      rw [ics_stpm] at hb
      exact ⟨_, rfl, _, _, _, rfl, by rw [HE.out]; simp, Nat.le_refl _, by omega, intR_blk hb ⟨Nat.le_refl _, hb.lt⟩ HE.out, hS.out.2⟩

theorem costOf_at {l cs : List (List Int)} (h : cs ≠ []) : costOf l cs = held (costTo l cs l.length) := by unfold costOf; rw [if_neg h, costTo_take _ _ _ (Nat.le_refl _), List.take_length]
set_option maxHeartbeats 2000000 in
theorem cost_any (A B : Option Addr) (n c m d : Nat) (l cs : List (List Int)) (w : World) (hx : LL w w.heap.size A l) (hn : l.length = n) (hc : n ≤ c) (hm : c ≤ 9223372036854775807) (hi : ∀ v ∈ l, I32 v)
    (hy : LL w w.heap.size B cs) (hn' : cs.length = m) (hyi : ∀ u ∈ cs, I32 u) (hd : m ≤ d) (hm' : d ≤ 9223372036854775807) :
    Calls Try.prog 10 #[.slice A n c, .slice B m d] w fun e w' => e = .returned (.int .u64 (costOf l cs)) ∧ Below w.heap.size w w' := by
  have HX := hide hx
  have HY := hide hy
  have HI := hide hi
  have HYI := hide hyi
  have Hn := hide hn
  have Hm := hide hn'
  have hz := sum_zero
  rcases Nat.eq_zero_or_pos m with h0 | h0
  · subst h0
    have HE := hide (show costOf l cs = 0 by rw [List.eq_nil_of_length_eq_zero hn']; rfl)
    have S0 := hide (show Blk (w.alloc (.cells #[.int .u64 0] 47)) w.heap.size 47 #[.int .u64 0] ∧ Below w.heap.size w (w.alloc (.cells #[.int .u64 0] 47)) from ⟨Blk.new _ _ _, below1 _ _⟩)
    clear hx hy hi hyi hn hn'
    go_enter Try.func10, Try.ntmps10
    go_wp2
    go_loopw [12] (fun i wr => ∃ k : Nat, k ≤ n ∧ i = .int .i64 k ∧ Hid (Blk wr w.heap.size 47 #[.int .u64 0] ∧ Below w.heap.size w wr)) (fun i _ => n - (intOf i).toNat)
    case atStart => exact ⟨0, by omega, rfl, S0⟩
    case round =>
      obtain ⟨k, hk, rfl, hS⟩ := hrel
      clear S0
      by_cases hlt : k < n
      · obtain ⟨ad', v, A', c', rfl, _, hv, q0, q1, q2, q3⟩ := (HX.out.below hS.out.2 (Nat.le_refl _)).slc (k := k) (by have := Hn.out; omega)
        have g0 : (0 : Int) ≤ k := by omega
        have g1 : (k : Int) < n := by omega
        clear hv q3
        go_wp2
        go_roundw
        case rel => exact ⟨k + 1, by omega, by go_num, hS⟩
        case measure => simp [intOf]; omega
      · obtain rfl : n = k := by omega
        have c0 : wr.cell? ⟨w.heap.size, 0, none⟩ = some (.int .u64 0) := by rw [hS.out.1.cell]; rfl
        go_wp2
        go_ret
        exact ⟨by rw [HE.out]; rfl, hS.out.2⟩
  · have hcs : cs ≠ [] := by rintro rfl; simp at hn'; omega
    have HE := hide (costOf_at (l := l) hcs)
    have S0 := hide (show Blk (w.alloc (.cells #[.int .u64 0] 47)) w.heap.size 47 #[.int .u64 (held (costTo l cs 0))] ∧ Below w.heap.size w (w.alloc (.cells #[.int .u64 0] 47)) from ⟨Blk.new _ _ _, below1 _ _⟩)
    have hpos : (0 : Int) < m := by omega
    clear hx hy hi hyi hn hn' hcs
    go_enter Try.func10, Try.ntmps10
    go_wp2
    go_loopw [12] (fun i wr => ∃ k : Nat, k ≤ n ∧ i = .int .i64 k ∧ Hid (Blk wr w.heap.size 47 #[.int .u64 (held (costTo l cs k))] ∧ Below w.heap.size w wr)) (fun i _ => n - (intOf i).toNat)
    case atStart => exact ⟨0, by omega, rfl, S0⟩
    case round =>
      obtain ⟨k, hk, rfl, hS⟩ := hrel
      clear S0
      by_cases hlt : k < n
      · obtain ⟨ad', v, A', c', rfl, _, hv, q0, q1, q2, q3⟩ := (HX.out.below hS.out.2 (Nat.le_refl _)).slc (k := k) (by have := Hn.out; omega)
        have hvi := hide (i32_get HI.out hv)
        have HQ := hide (show I32s wr wr.heap.size A' v from q3.more hS.out.2.size)
        have HYW := hide (show LL wr wr.heap.size B cs from (HY.out.below hS.out.2 (Nat.le_refl _)).more hS.out.2.size)
        have HG := hide (group_any A' B v.length c' m d v cs wr HQ.out rfl hvi.out q1 q2 HYW.out Hm.out HYI.out hd hm' h0)
        have hnx := hide (show addH (held (costTo l cs k)) (distOf v (cAt cs (best v cs))) = held (costTo l cs (k + 1)) by
          rw [addH_held (costTo_nonneg _ _ _) (dist_lt _ _).1]; simp only [costTo]; rw [cAt_of hv])
        have g0 : (0 : Int) ≤ k := by omega
        have g1 : (k : Int) < n := by omega
        clear hv q3
        go_wp2_with (first
          | (go_at_call 18; refine HG.out.mono ?_; rintro e _ ⟨rfl, rfl⟩)
          | (go_at_call 24; refine (add_any w.heap.size (held (costTo l cs k)) (distOf v (cAt cs (best v cs))) _ hS.out.1 (held_lt (costTo_nonneg _ _ _)).1 (held_lt (costTo_nonneg _ _ _)).2 (dist_lt _ _).1 (dist_lt _ _).2).mono ?_; rintro e w2 ⟨rfl, hw2⟩; have S2 := hide (show Blk w2 w.heap.size 47 #[.int .u64 (held (costTo l cs (k + 1)))] ∧ Below w.heap.size w w2 from (by rw [← hw2, hnx.out]; exact ⟨hS.out.1.set_ 0 _, hS.out.2.setCell (Nat.le_refl _) _⟩)); clear hw2))
        go_roundw
        case rel => exact ⟨k + 1, by omega, by go_num, S2⟩
        case measure => simp [intOf]; omega
      · obtain rfl : n = k := by omega
        have c0 : wr.cell? ⟨w.heap.size, 0, none⟩ = some (.int .u64 (held (costTo l cs n))) := by rw [hS.out.1.cell]; rfl
        have Hn' := Hn.out
        go_wp2
        go_ret
        exact ⟨by rw [HE.out, Hn.out]; rfl, hS.out.2⟩

theorem llens_false {xs ys : List (List Int)} (h : xs.length ≠ ys.length) : decide (xs = ys) = false := decide_eq_false (fun e => h (by rw [e]))
theorem lat_false {xs ys : List (List Int)} {k : Nat} {x y : List Int} (hx : xs[k]? = some x) (hy : ys[k]? = some y) (h : decide (x = y) = false) : decide (xs = ys) = false :=
  decide_eq_false (fun e => (of_decide_eq_false h) (by rw [e, hy] at hx; injection hx with hx; exact hx.symm))
theorem ltake_more {xs ys : List (List Int)} {k : Nat} {x y : List Int} (h : xs.take k = ys.take k) (hx : xs[k]? = some x) (hy : ys[k]? = some y) (e : decide (x = y) = true) : xs.take (k + 1) = ys.take (k + 1) := by
  rw [List.take_add_one, List.take_add_one, h, hx, hy, of_decide_eq_true e]
theorem lsame_of_take {xs ys : List (List Int)} {k : Nat} (h : xs.take k = ys.take k) (hx : xs.length ≤ k) (hy : ys.length ≤ k) : xs = ys := by
  rwa [List.take_of_length_le hx, List.take_of_length_le hy] at h
set_option maxHeartbeats 2000000 in
theorem eqFunc_any (A B : Option Addr) (n c m d : Nat) (xs ys : List (List Int)) (w : World) (hx : LL w w.heap.size A xs) (hn : xs.length = n) (hc : n ≤ c) (hm : c ≤ 9223372036854775807)
    (hy : LL w w.heap.size B ys) (hn' : ys.length = m) (hd : m ≤ d) (hm' : d ≤ 9223372036854775807) :
    Calls Try.prog 26 #[.slice A n c, .slice B m d, .func (.func 27) #[] #[]] w fun e w' => e = .returned (.bool (decide (xs = ys))) ∧ Drew w w' := by
  have Hn := hide hn
  have Hm := hide hn'
  have HX := hide hx
  have HY := hide hy
  clear hx hy
  by_cases hnm : n = m
  · subst hnm
    clear hn hn'
    have hne : ((n : Int) != n) = false := by simp
    go_enter Try.func26, Try.ntmps26
    go_wp2
    go_loopw [17] (fun i wr => ∃ k : Nat, k ≤ n ∧ i = .int .i64 k ∧ Hid (xs.take k = ys.take k) ∧ Drew w wr) (fun i _ => n - (intOf i).toNat)
    case atStart => exact ⟨0, by omega, rfl, hide (by simp), Drew.refl _⟩
    case round =>
      obtain ⟨k, hk, rfl, ht, j, rfl⟩ := hrel
      by_cases hlt : k < n
      · obtain ⟨ad, x, A1, c1, rfl, _, hx1, a0, a1, a2, a3⟩ := (HX.out.drewN j).slc (k := k) (by have := Hn.out; omega)
        obtain ⟨ad2, y, A2, c2, rfl, _, hy1, b0, b1, b2, b3⟩ := (HY.out.drewN j).slc (k := k) (by have := Hm.out; omega)
        have h0 : (0 : Int) ≤ k := by omega
        have h1 : (k : Int) < n := by omega
        have HC := hide (equal_any A1 A2 x.length c1 y.length c2 x y (w.drewN j) a3 rfl a1 a2 b3 rfl b1 b2)
        have HX1 := hide hx1
        have HY1 := hide hy1
        clear hx1 hy1 a3 b3
        cases hxy : decide (x = y)
        · have HF := hide (lat_false HX1.out HY1.out hxy)
          rw [hxy] at HC
          clear hxy
          go_wp2_with (go_at_call 27; refine HC.out.mono ?_; rintro e _ ⟨rfl, i, rfl⟩)
          go_ret
          exact ⟨by rw [HF.out]; rfl, by first | exact ⟨_, rfl⟩ | exact drewN_drewN' _ _ _⟩
        · have HT := hide (ltake_more ht.out HX1.out HY1.out hxy)
          rw [hxy] at HC
          clear hxy
          go_wp2_with (go_at_call 27; refine HC.out.mono ?_; rintro e _ ⟨rfl, i, rfl⟩)
          go_roundw
          case rel => exact ⟨k + 1, by omega, by go_num, HT, by first | exact ⟨_, rfl⟩ | exact drewN_drewN' _ _ _⟩
          case measure => simp [intOf]; omega
      · obtain rfl : n = k := by omega
        have HF := hide (decide_eq_true (lsame_of_take ht.out (by rw [Hn.out]; omega) (by rw [Hm.out]; omega)))
        go_wp2
        go_ret
        exact ⟨by rw [HF.out]; rfl, ⟨_, rfl⟩⟩
  · have HF := hide (llens_false (xs := xs) (ys := ys) (by omega))
    have hb : ((n : Int) != m) = true := by rw [bne_iff_ne]; omega
    clear hn hn' hnm
    go_enter Try.func26, Try.ntmps26
    go_wp2
    go_ret
    exact ⟨by rw [HF.out]; rfl, Drew.refl _⟩
end Go.Proofs.Ytodlbbcgplhihag
