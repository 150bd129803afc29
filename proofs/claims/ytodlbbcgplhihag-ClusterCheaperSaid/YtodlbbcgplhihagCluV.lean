/-
  The document's clusters: sums, groups, members, costs. Conditions: the slices read as lists of int32s, not too many.
-/
import Derived.Test.YtodlbbcgplhihagCluU
import Derived.Test.YtodlbbcgplhihagVecE
namespace Go.Proofs.Ytodlbbcgplhihag
open Go.RowKit

theorem Drew.trans {a b c : World} (h : Drew a b) (k : Drew b c) : Drew a c := by
  obtain ⟨n, rfl⟩ := h
  obtain ⟨m, rfl⟩ := k
  exact drewN_drewN' _ _ _
theorem quiet_drew {P : Program} {f : FuncId} {args : Array Value} {w : World} {n : Nat} {v : Value} (h : Calls P f args (w.drewN n) fun e w' => e = .returned v ∧ Drew (w.drewN n) w') :
    Calls P f args (w.drewN n) fun e w' => e = .returned v ∧ ∃ m, w' = w.drewN m := h.mono fun _ _ ⟨h1, h2⟩ => ⟨h1, (drewN_some w n).trans h2⟩
theorem Rd.drew_to {α : Type} {S : Sh α} {w w' : World} {A : Option Addr} {xs : List α} (h : Rd S w w.heap.size A xs) (hd : Drew w w') : Rd S w' w'.heap.size A xs := by
  obtain ⟨n, rfl⟩ := hd
  exact h.drewN n
set_option maxHeartbeats 1000000 in
theorem refAdd_any (a b : Int) (w : World) (a0 : 0 ≤ a) (a1 : a < 18446744073709551616) (b0 : 0 ≤ b) (b1 : b < 18446744073709551616) :
    Calls Try.prog 29 #[.int .u64 a, .int .u64 b] w fun e w' => e = .returned (.int .u64 (addH a b)) ∧ w = w' := by
  by_cases h : a + b < 18446744073709551616
  · have HS := hide (show addH a b = a + b from held_small h)
    have h' : ¬ 18446744073709551615 - b < a := by omega
    go_enter Try.func29, Try.ntmps29
    go_wp2
    go_ret
    exact ⟨by rw [HS.out]; rfl, rfl⟩
  · have HS := hide (show addH a b = 18446744073709551615 from held_great (by omega))
    have h' : 18446744073709551615 - b < a := by omega
    go_enter Try.func29, Try.ntmps29
    go_wp2
    go_ret
    exact ⟨by rw [HS.out]; rfl, rfl⟩

set_option maxHeartbeats 2000000 in
theorem refGroup_any (A B : Option Addr) (n c m d : Nat) (v : List Int) (cs : List (List Int)) (w : World) (hx : I32s w w.heap.size A v) (hn : v.length = n) (hxi : I32 v) (hc : n ≤ c) (hm : c ≤ 9223372036854775807)
    (hy : LL w w.heap.size B cs) (hn' : cs.length = m) (hyi : ∀ u ∈ cs, I32 u) (hd : m ≤ d) (hm' : d ≤ 9223372036854775807) :
    Calls Try.prog 28 #[.slice A n c, .slice B m d] w fun e w' => e = .returned (.int .i64 (best v cs)) ∧ Drew w w' := by
  have HX := hide hx
  have HY := hide hy
  have HXI := hide hxi
  have HYI := hide hyi
  have Hn := hide hn
  have Hm := hide hn'
  have HE := hide (show best v cs = bestTo v cs m by unfold best; rw [hn'])
  clear hx hy hxi hyi hn hn'
  go_enter Try.func28, Try.ntmps28
  go_wp2
  go_loopw [5, 10] (fun b i wr => ∃ k : Nat, k ≤ m ∧ i = .int .i64 k ∧ b = .int .i64 (bestTo v cs k) ∧ Hid (Drew w wr)) (fun _ i _ => m - (intOf i).toNat)
  case atStart => exact ⟨0, by omega, rfl, rfl, hide (Drew.refl _)⟩
  case round =>
    obtain ⟨k, hk, rfl, rfl, hD⟩ := hrel
    by_cases hlt : k < m
    · have hbl : bestTo v cs k < m := by have := bestTo_le v cs k; omega
      have HYW := hide (HY.out.drew_to hD.out)
      have HXW := hide (HX.out.drew_to hD.out)
      obtain ⟨ad', u, A', c', rfl, _, hu, q0, q1, q2, q3⟩ := HYW.out.slc (k := k) (by have := Hm.out; omega)
      obtain ⟨ad2, u2, A2, c2, e2, _, hu2, r0, r1, r2, r3⟩ := HYW.out.slc (k := bestTo v cs k) (by have := Hm.out; omega)
      injection e2 with e2
      subst e2
      have D1 := hide (fun j => refDist_any A A' n c u.length c' v u (wr.drewN j) (HXW.out.drewN j) Hn.out HXI.out hc hm (q3.drewN j) rfl (i32_get HYI.out hu) q1 q2)
      have D2 := hide (fun j => refDist_any A A2 n c u2.length c2 v u2 (wr.drewN j) (HXW.out.drewN j) Hn.out HXI.out hc hm (r3.drewN j) rfl (i32_get HYI.out hu2) r1 r2)
      have hS : bestTo v cs (k + 1) = if distOf v u < distOf v u2 then k else bestTo v cs k := by
        show (if distOf v (cAt cs k) < distOf v (cAt cs (bestTo v cs k)) then _ else _) = _
        rw [cAt_of hu, cAt_of hu2]
      have g0 : (0 : Int) ≤ k := by omega
      have g1 : (k : Int) < m := by omega
      have b0 : (0 : Int) ≤ (bestTo v cs k : Nat) := by omega
      have b1 : ((bestTo v cs k : Nat) : Int) < m := by omega
      clear hu hu2 q3 r3
      generalize bestTo v cs k = q at *
      generalize distOf v u = p at *
      generalize distOf v u2 = r at *
      by_cases hcmp : p < r
      · rw [if_pos hcmp] at hS
        have HS := hide hS
        have hdc : decide (p < r) = true := decide_eq_true hcmp
        clear hS
        go_upto_region 5 with fail
        go_quiet ((first | (go_at_call 33; (first | (with_reducible exact quiet_left (D1.out _)) | (with_reducible exact quiet_left (D2.out _))))))
        go_wp2
        go_roundw
        case rel => exact ⟨k + 1, by omega, by go_num, by rw [HS.out], hide (hD.out.trans (by first | exact drewN_some _ _ | exact drewN_drewN' _ _ _))⟩
        case measure => simp [intOf]; omega
      · rw [if_neg hcmp] at hS
        have HS := hide hS
        have hdc : decide (p < r) = false := decide_eq_false hcmp
        clear hS
        go_upto_region 5 with fail
        go_quiet ((first | (go_at_call 33; (first | (with_reducible exact quiet_left (D1.out _)) | (with_reducible exact quiet_left (D2.out _))))))
        go_wp2
        go_roundw
        case rel => exact ⟨k + 1, by omega, by go_num, by rw [HS.out], hide (hD.out.trans (by first | exact drewN_some _ _ | exact drewN_drewN' _ _ _))⟩
        case measure => simp [intOf]; omega
    · obtain rfl : m = k := by omega
      go_wp2
      go_ret
      exact ⟨by rw [HE.out]; rfl, hD.out⟩

set_option maxHeartbeats 2000000 in
theorem refGroups_any (A B : Option Addr) (n c m d : Nat) (l cs : List (List Int)) (w : World) (hx : LL w w.heap.size A l) (hn : l.length = n) (hc : n ≤ c) (hm : c ≤ 9223372036854775807) (hi : ∀ v ∈ l, I32 v)
    (hy : LL w w.heap.size B cs) (hn' : cs.length = m) (hyi : ∀ u ∈ cs, I32 u) (hd : m ≤ d) (hm' : d ≤ 9223372036854775807) (h6 : n ≤ 1000000) :
    Calls Try.prog 15 #[.slice A n c, .slice B m d] w (GivesI .i64 w (groupsOf l cs)) := by
  rcases Nat.eq_zero_or_pos m with h0 | h0
  · subst h0
    have HF := hide (show GivesI .i64 w (groupsOf l cs) (.returned (.slice none 0 0)) w by
      rw [List.eq_nil_of_length_eq_zero hn']; exact ⟨_, rfl, NewInts.nil (Below.refl _ _)⟩)
    clear hx hn hi hy hn' hyi
    go_enter Try.func15, Try.ntmps15
    go_wp2
    go_ret
    exact HF.out
  have HX := hide hx
  have HY := hide hy
  have HI := hide hi
  have HYI := hide hyi
  have Hn := hide hn
  have Hm := hide hn'
  have hne : ((m : Int) == 0) = false := by rw [beq_eq_false_iff_ne]; omega
  have HE : Hid (groupsOf l cs = (List.range n).map fun i => (best (cAt l i) cs : Int)) := hide (by
    unfold groupsOf
    rw [if_neg (by rintro rfl; simp at hn'; omega)]
    apply List.ext_getElem?
    intro i
    rcases Nat.lt_or_ge i n with h | h
    · rw [List.getElem?_map, List.getElem?_map, List.getElem?_range h, List.getElem?_eq_getElem (by omega)]
      simp [cAt, List.getD_eq_getElem?_getD, List.getElem?_eq_getElem (show i < l.length by omega)]
    · rw [List.getElem?_eq_none (by simp; omega), List.getElem?_eq_none (by simp; omega)])
  clear hx hy hi hyi hn hn'
  go_enter Try.func15, Try.ntmps15
  go_wp2
  go_loopw [5, 13] (fun v i wr => ∃ k : Nat, k ≤ n ∧ i = .int .i64 k ∧ Hid (wr.ownsRow w.heap.size 3 1 v k (((List.range k).map fun i => (best (cAt l i) cs : Int)).map (Value.int .i64))) ∧ Hid (Below w.heap.size w wr)) (fun _ i _ => n - (intOf i).toNat)
  case atStart => exact ⟨0, by omega, rfl, hide ⟨rfl, .inl ⟨rfl, rfl⟩⟩, hide (Below.refl _ _)⟩
  case round =>
    obtain ⟨k, hk, rfl, hO, hB⟩ := hrel
    by_cases hlt : k < n
    · obtain ⟨ad', v, A', c', rfl, _, hv, q0, q1, q2, q3⟩ := (HX.out.below hB.out (Nat.le_refl _)).slc (k := k) (by have := Hn.out; omega)
      have hvi := hide (i32_get HI.out hv)
      have HV := hide (cAt_of hv)
      have HG := hide (refGroup_any A' B v.length c' m d v cs _ (show I32s _ _ A' v from q3.more hB.out.size) rfl hvi.out q1 q2 (HY.out.at_world hB.out) Hm.out HYI.out hd hm')
      have g0 : (0 : Int) ≤ k := by omega
      have g1 : (k : Int) < n := by omega
      clear hv q3
      go_wp2_with (first
        | (go_at_call 28; refine HG.out.mono ?_; rintro e w4 ⟨rfl, hd4⟩; have HO4 := hide (own_keep hO.out fun g hg => hd4.below.block g (hO.out.lt g hg).2); have HB4 := hide (Below.step hB.out hd4.below); clear hd4)
        | (at_builtin; refine wpList_append_elem rfl _ _ 25 rfl w.heap.size Try.underlying25 info_i64 rfl (by decide) _ k _ rfl HO4.out _ _ rfl rfl (by simp [Value.oneCell']) (by simp only [maxLen]; omega) (by omega) HB4.out.size ?_; intro v' w9 hown9 hgr9 hat9; have HO9 := hide hown9; have HB9 := hide (below_own HB4.out HO4.out HB4.out.size hgr9); clear hown9 hgr9 hat9))
      go_roundw
      case rel => exact ⟨k + 1, by omega, by go_num, hide (by have := HO9.out; rw [List.range_succ, List.map_append, List.map_append]; simpa [HV.out] using this), HB9⟩
      case measure => simp [intOf]; omega
    · obtain rfl : n = k := by omega
      obtain ⟨A9, c9, rfl, o1, o2⟩ := own_form hO.out
      go_wp2
      go_ret
      exact ⟨_, rfl, by rw [HE.out]; exact NewInts.of_own (n := n) hO.out hB.out⟩

set_option maxHeartbeats 1000000 in
theorem refSum_any (A B : Option Addr) (n c m d : Nat) (l : List (List Int)) (ys : List Int) (w : World) (hx : LL w w.heap.size A l) (hn : l.length = n) (hc : n ≤ c) (hm : c ≤ 9223372036854775807) (hi : ∀ v ∈ l, I32 v)
    (hy : I32s w w.heap.size B ys) (hn' : ys.length = m) (hyi : I32 ys) (hd : m ≤ d) (hm' : d ≤ 9223372036854775807) :
    Calls Try.prog 30 #[.slice A n c, .slice B m d] w fun e w' => e = .returned (.int .u64 (held (farOf l ys))) ∧ w = w' := by
  have HX := hide hx
  have HY := hide hy
  have HI := hide hi
  have HYI := hide hyi
  have Hn := hide hn
  have Hm := hide hn'
  have HE := hide (show farOf l ys = farTo l ys n by unfold farOf; rw [hn])
  have hz : held (farTo l ys 0) = 0 := rfl
  have HZ := hide hz
  clear hx hy hi hyi hn hn' hz
  go_enter Try.func30, Try.ntmps30
  go_wp2
  go_loopw [5, 10] (fun s i wr => ∃ k : Nat, k ≤ n ∧ i = .int .i64 k ∧ s = .int .u64 (held (farTo l ys k)) ∧ w = wr) (fun _ i _ => n - (intOf i).toNat)
  case atStart => exact ⟨0, by omega, rfl, by rw [HZ.out], by first | rfl | trivial⟩
  case round =>
    obtain ⟨k, hk, rfl, rfl, rfl⟩ := hrel
    by_cases hlt : k < n
    · obtain ⟨ad', v, A', c', rfl, _, hv, q0, q1, q2, q3⟩ := HX.out.slc (k := k) (by have := Hn.out; omega)
      have hvi := hide (i32_get HI.out hv)
      have HQ := hide q3
      have hnx := hide (show addH (held (farTo l ys k)) (distOf v ys) = held (farTo l ys (k + 1)) by
        rw [addH_held (farTo_nonneg _ _ _) (dist_lt _ _).1]; simp only [farTo]; rw [cAt_of hv])
      have hA := hide (refAdd_any (held (farTo l ys k)) (distOf v ys) w (held_lt (farTo_nonneg _ _ _)).1 (held_lt (farTo_nonneg _ _ _)).2 (dist_lt _ _).1 (dist_lt _ _).2)
      rw [hnx.out] at hA
      have g0 : (0 : Int) ≤ k := by omega
      have g1 : (k : Int) < n := by omega
      clear hv q3 hnx
      go_wp2_with (first
        | (go_at_call 33; refine (refDist_any A' B v.length c' m d v ys _ HQ.out rfl hvi.out q1 q2 HY.out Hm.out HYI.out hd hm').mono ?_; rintro e _ ⟨rfl, rfl⟩)
        | (go_at_call 29; refine hA.out.mono ?_; rintro e _ ⟨rfl, rfl⟩))
      go_roundw
      case rel => exact ⟨k + 1, by omega, by go_num, rfl, by first | rfl | trivial⟩
      case measure => simp [intOf]; omega
    · obtain rfl : n = k := by omega
      go_wp2
      go_ret
      exact ⟨by rw [HE.out]; rfl, rfl⟩
end Go.Proofs.Ytodlbbcgplhihag
