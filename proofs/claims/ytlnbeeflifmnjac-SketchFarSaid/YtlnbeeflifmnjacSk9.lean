/-
  The walk of SketchFar. Conditions: the slices read as lists.
-/
import Derived.Test.YtlnbeeflifmnjacSk5
import Derived.Test.YtlnbeeflifmnjacSk7
namespace Go.Proofs.Ytlnbeeflifmnjac
set_option linter.unusedSimpArgs false
set_option linter.unusedVariables false
open Go.RowKit

theorem info_i32 : (Try.prog.info? 21).map (fun i => (i.zero, i.size, i.bytes)) = some (some (.int .i32 0), 1, 4) := by kernel_rfl
/-- two rows of the call's own that share no block -/
def Apt (v u : Value) : Prop := ∀ g, v.ownBlock = some g → u.ownBlock ≠ some g
theorem Apt.symm {v u : Value} (h : Apt v u) : Apt u v := fun g h1 h2 => h g h2 h1
theorem apt_nil (u : Value) : Apt (.slice none 0 0) u := fun g h => by simp [Value.ownBlock] at h
theorem own_apart {w w' : World} {base : Nat} {e : TypeId} {v u : Value} {n k : Nat} {xs : List Value} (h : w.ownsRow base e k u n xs) (hd : Apt v u) (hg : w.grownBy w' v.ownBlock) : w'.ownsRow base e k u n xs :=
  own_keep h fun g hu => hg.block g (h.lt g hu).2 fun ee => hd g ee.symm hu
theorem apt_grown {w : World} {base : Nat} {e : TypeId} {v v' u : Value} {n k : Nat} {xs : List Value} (h : w.ownsRow base e k u n xs) (hd : Apt v u) (ha : v'.ownBlock = v.ownBlock ∨ v'.ownBlock = some (w.heap.size + 1)) : Apt v' u := fun g h1 h2 => by
  rcases ha with ha | ha
  · exact hd g (ha ▸ h1) h2
  · rw [ha] at h1
    injection h1 with h1
    have := (h.lt g h2).2
    omega
theorem map_snoc {f : Int → Int} {l : List Int} {k : Nat} {x : Int} (h : l[k]? = some x) : ((l.take (k + 1)).map f).map (Value.int .i32) = ((l.take k).map f).map (Value.int .i32) ++ [.int .i32 (f x)] := by
  rw [List.take_add_one, h, List.map_append, List.map_append]; rfl
def Near24 (l : List Int) : Prop := ∀ x ∈ l, -16777216 ≤ x ∧ x ≤ 16777216
theorem Near24.i32 {l : List Int} (h : Near24 l) : I32L (twiceF l) ∧ I32L (backF l) := by
  constructor
  · intro y hy
    obtain ⟨x, hx, rfl⟩ := List.mem_map.1 hy
    have := h x hx
    refine ⟨?_, ?_⟩ <;> (show _ ≤ _; omega)
  · intro y hy
    obtain ⟨x, hx, rfl⟩ := List.mem_map.1 hy
    have := h x hx
    refine ⟨?_, ?_⟩ <;> (show _ ≤ _; omega)
theorem Near24.snoc {l : List Int} {k : Nat} {x : Int} (h : Near24 (l.take k)) (hx : l[k]? = some x) (h1 : -16777216 ≤ x ∧ x ≤ 16777216) : Near24 (l.take (k + 1)) := by
  intro y hy
  rw [List.take_add_one, hx, List.mem_append] at hy
  rcases hy with hy | hy
  · exact h y hy
  · simp at hy; subst hy; exact h1
theorem wrap_i32s {x : Int} (h : -2147483648 ≤ x ∧ x ≤ 2147483647) : IntKind.i32.wrap x = x := by
  simp [IntKind.wrap, IntKind.bits, IntKind.signed]; omega
set_option maxHeartbeats 8000000 in
set_option maxRecDepth 100000 in
theorem far_any {A B C V : Option Addr} {na ca nb cb nc cc nv cv : Nat} {a b c v : List Int} {w : World} (seed n : Int)
    (ha : Rd (Sh.int .u64) w w.heap.size A a) (hna : a.length = na) (hca : na ≤ ca) (hma : ca ≤ 9223372036854775807) (hua : UL a)
    (hb : Rd (Sh.int .u64) w w.heap.size B b) (hnb : b.length = nb) (hcb : nb ≤ cb) (hmb : cb ≤ 9223372036854775807) (hub : UL b)
    (hc : Rd (Sh.int .u64) w w.heap.size C c) (hnc : c.length = nc) (hcc : nc ≤ cc) (hmc : cc ≤ 9223372036854775807) (huc : UL c)
    (hv : Rd (Sh.int .i32) w w.heap.size V v) (hnv : v.length = nv) (hcv : nv ≤ cv) (hi : I32L v) (hn9 : -9223372036854775808 ≤ n ∧ n ≤ 9223372036854775807) :
    Calls Try.prog 4 #[.slice A na ca, .slice B nb cb, .slice C nc cc, .slice V nv cv, .int .u64 seed, .int .i64 n] w fun e w' => e = .returned (.bool true) ∧ Below w.heap.size w w' := by
  have HA := hide ha
  have HNa := hide hna
  have HUa := hide hua
  have HB' := hide hb
  have HNb := hide hnb
  have HUb := hide hub
  have HC := hide hc
  have HNc := hide hnc
  have HUc := hide huc
  have HV := hide hv
  have HI := hide hi
  have HNv := hide hnv
  clear ha hna hua hb hnb hub hc hnc huc hv hi hnv
  by_cases h0 : 80 < na
  · have b0 : decide ((80 : Int) < na) = true := decide_eq_true (by omega)
    have a0 : decide (80 < na) = true := decide_eq_true (by omega)
    clear h0 HA HB' HC HV
    go_enter Try.func4, Try.ntmps4
    go_wp2_with (go_at_call 5; refine (lives_any _).mono ?_; rintro e w1 ⟨rfl, hb⟩)
    go_ret
    exact ⟨rfl, hb⟩
  by_cases h1 : 80 < nb
  · have b0 : decide ((80 : Int) < na) = false := decide_eq_false (by omega)
    have a0 : decide (80 < na) = false := decide_eq_false (by omega)
    have b1 : decide ((80 : Int) < nb) = true := decide_eq_true (by omega)
    have a1 : decide (80 < nb) = true := decide_eq_true (by omega)
    clear h0 h1 HA HB' HC HV
    go_enter Try.func4, Try.ntmps4
    go_wp2_with (go_at_call 5; refine (lives_any _).mono ?_; rintro e w1 ⟨rfl, hb⟩)
    go_ret
    exact ⟨rfl, hb⟩
  by_cases h2 : 80 < nc
  · have b0 : decide ((80 : Int) < na) = false := decide_eq_false (by omega)
    have a0 : decide (80 < na) = false := decide_eq_false (by omega)
    have b1 : decide ((80 : Int) < nb) = false := decide_eq_false (by omega)
    have a1 : decide (80 < nb) = false := decide_eq_false (by omega)
    have b2 : decide ((80 : Int) < nc) = true := decide_eq_true (by omega)
    have a2 : decide (80 < nc) = true := decide_eq_true (by omega)
    clear h0 h1 h2 HA HB' HC HV
    go_enter Try.func4, Try.ntmps4
    go_wp2_with (go_at_call 5; refine (lives_any _).mono ?_; rintro e w1 ⟨rfl, hb⟩)
    go_ret
    exact ⟨rfl, hb⟩
  by_cases h3 : 200 < nv
  · have b0 : decide ((80 : Int) < na) = false := decide_eq_false (by omega)
    have a0 : decide (80 < na) = false := decide_eq_false (by omega)
    have b1 : decide ((80 : Int) < nb) = false := decide_eq_false (by omega)
    have a1 : decide (80 < nb) = false := decide_eq_false (by omega)
    have b2 : decide ((80 : Int) < nc) = false := decide_eq_false (by omega)
    have a2 : decide (80 < nc) = false := decide_eq_false (by omega)
    have b3 : decide ((200 : Int) < nv) = true := decide_eq_true (by omega)
    have a3 : decide (200 < nv) = true := decide_eq_true (by omega)
    clear h0 h1 h2 h3 HA HB' HC HV
    go_enter Try.func4, Try.ntmps4
    go_wp2_with (go_at_call 5; refine (lives_any _).mono ?_; rintro e w1 ⟨rfl, hb⟩)
    go_ret
    exact ⟨rfl, hb⟩
  by_cases h4 : (300 : Int) < n
  · have b0 : decide ((80 : Int) < na) = false := decide_eq_false (by omega)
    have a0 : decide (80 < na) = false := decide_eq_false (by omega)
    have b1 : decide ((80 : Int) < nb) = false := decide_eq_false (by omega)
    have a1 : decide (80 < nb) = false := decide_eq_false (by omega)
    have b2 : decide ((80 : Int) < nc) = false := decide_eq_false (by omega)
    have a2 : decide (80 < nc) = false := decide_eq_false (by omega)
    have b3 : decide ((200 : Int) < nv) = false := decide_eq_false (by omega)
    have a3 : decide (200 < nv) = false := decide_eq_false (by omega)
    have b4 : decide ((300 : Int) < n) = true := decide_eq_true (by omega)
    clear h0 h1 h2 h3 h4 HA HB' HC HV
    go_enter Try.func4, Try.ntmps4
    go_wp2_with (go_at_call 5; refine (lives_any _).mono ?_; rintro e w1 ⟨rfl, hb⟩)
    go_ret
    exact ⟨rfl, hb⟩
  have b0 : decide ((80 : Int) < na) = false := decide_eq_false (by omega)
  have a0 : decide (80 < na) = false := decide_eq_false (by omega)
  have b1 : decide ((80 : Int) < nb) = false := decide_eq_false (by omega)
  have a1 : decide (80 < nb) = false := decide_eq_false (by omega)
  have b2 : decide ((80 : Int) < nc) = false := decide_eq_false (by omega)
  have a2 : decide (80 < nc) = false := decide_eq_false (by omega)
  have b3 : decide ((200 : Int) < nv) = false := decide_eq_false (by omega)
  have a3 : decide (200 < nv) = false := decide_eq_false (by omega)
  have b4 : decide ((300 : Int) < n) = false := decide_eq_false (by omega)
  have hv10 : nv ≤ 1000 := by omega
  have hn3 : n ≤ 300 := by omega
  have hN1 : ∃ N : Nat, min (max n 0) 4096 = N ∧ max n 0 = (N : Int) ∧ N ≤ 4096 := ⟨(min (max n 0) 4096).toNat, by omega, by omega, by omega⟩
  obtain ⟨N, hN, hNm, hN4⟩ := hN1
  have hM1 : ∃ M : Nat, min (max (n + 1) 0) 4096 = M := ⟨(min (max (n + 1) 0) 4096).toNat, by omega⟩
  obtain ⟨M, hM⟩ := hM1
  have HN := hide hN
  have HNm := hide hNm
  have HM := hide hM
  have HComm := hide (apartW_comm b a)
  have HTri := hide (apartW_tri a b c)
  have HSelf := hide (apartW_self a)
  clear hN hM hNm h0 h1 h2 h3 h4
  go_enter Try.func4, Try.ntmps4
  go_wp2_with fail
  refine (lives_any _).mono ?_
  rintro e w1 ⟨rfl, hb⟩
  have HB := hide hb
  clear hb
  go_wp2_with fail
  refine (eApart_any (HA.out.at_world HB.out) HNa.out hca hma HUa.out (HB'.out.at_world HB.out) HNb.out hcb hmb HUb.out).mono ?_
  rintro e w1 ⟨rfl, hb⟩
  have HB := hide (Below.step HB.out hb)
  clear hb
  go_wp2_with fail
  refine (eApart_any (HB'.out.at_world HB.out) HNb.out hcb hmb HUb.out (HA.out.at_world HB.out) HNa.out hca hma HUa.out).mono ?_
  rintro e w1 ⟨rfl, hb⟩
  have HB := hide (Below.step HB.out hb)
  clear hb
  rw [HComm.out]
  obtain ⟨p1, hp1⟩ : ∃ p, apartW a b = p := ⟨_, rfl⟩
  rw [hp1] at HTri ⊢
  go_wp2_with fail
  refine (eApart_any (HA.out.at_world HB.out) HNa.out hca hma HUa.out (HC.out.at_world HB.out) HNc.out hcc hmc HUc.out).mono ?_
  rintro e w1 ⟨rfl, hb⟩
  have HB := hide (Below.step HB.out hb)
  clear hb
  obtain ⟨p2, hp2⟩ : ∃ p, apartW a c = p := ⟨_, rfl⟩
  rw [hp2] at HTri ⊢
  go_wp2_with fail
  refine (eApart_any (HA.out.at_world HB.out) HNa.out hca hma HUa.out (HB'.out.at_world HB.out) HNb.out hcb hmb HUb.out).mono ?_
  rintro e w1 ⟨rfl, hb⟩
  have HB := hide (Below.step HB.out hb)
  clear hb
  rw [hp1]
  go_wp2_with fail
  refine (eApart_any (HB'.out.at_world HB.out) HNb.out hcb hmb HUb.out (HC.out.at_world HB.out) HNc.out hcc hmc HUc.out).mono ?_
  rintro e w1 ⟨rfl, hb⟩
  have HB := hide (Below.step HB.out hb)
  clear hb
  obtain ⟨p3, hp3⟩ : ∃ p, apartW b c = p := ⟨_, rfl⟩
  rw [hp3] at HTri ⊢
  have b7 : decide ((p1 : Int) + p3 < p2) = false := decide_eq_false (by have := HTri.out; omega)
  have hp4 : p1 ≤ 4096 ∧ p3 ≤ 4096 := by have h1 := apartW_le a b; have h2 := apartW_le b c; omega
  clear hp1 hp2 hp3
  go_wp2_with fail
  refine (eApart_any (HA.out.at_world HB.out) HNa.out hca hma HUa.out (HA.out.at_world HB.out) HNa.out hca hma HUa.out).mono ?_
  rintro e w1 ⟨rfl, hb⟩
  have HB := hide (Below.step HB.out hb)
  clear hb
  rw [HSelf.out]
  clear HA HB' HC HComm HTri HSelf b7
  obtain ⟨w0, hw0⟩ : ∃ w0, w0 = w1 := ⟨_, rfl⟩
  go_wp2
  go_loopw [13, 14, 16, 77] (fun o1 o2 _ i wr => ∃ (k : Nat) (T U : Option Addr) (p1 p2 : Nat), k ≤ nv ∧ i = .int .i64 k ∧ o1 = .slice T k p1 ∧ o2 = .slice U k p2 ∧ k ≤ p1 ∧ p1 ≤ 9223372036854775807 ∧ k ≤ p2 ∧ p2 ≤ 9223372036854775807 ∧ Hid (Near24 (v.take k)) ∧ Hid (wr.ownsRow w.heap.size 21 1 (.slice T k p1) k (((v.take k).map (2 * ·)).map (Value.int .i32))) ∧ Hid (wr.ownsRow w.heap.size 21 1 (.slice U k p2) k (((v.take k).map (- ·)).map (Value.int .i32))) ∧ Hid (Apt (.slice T k p1) (.slice U k p2)) ∧ Hid (Below w.heap.size w wr)) (fun _ _ _ i _ => nv - (intOf i).toNat)
  case atStart => exact ⟨0, none, none, 0, 0, by omega, rfl, rfl, rfl, by omega, by omega, by omega, by omega, hide (fun x hx => by simp at hx), hide (World.ownsRow_nil _ _ _ _), hide (World.ownsRow_nil _ _ _ _), hide (apt_nil _), HB⟩
  case round =>
    obtain ⟨k, T, U, p1, p2, hk, rfl, rfl, rfl, e1, e2, e3, e4, HN24, HO1, HO2, HAp, HBr⟩ := hrel
    clear HB
    by_cases hlt : k < nv
    · have g0 : (0 : Int) ≤ k := by omega
      have g1 : (k : Int) < nv := by omega
      obtain ⟨ad, x, rfl, _, hxv, q0⟩ := Rd.icell (HV.out.at_world HBr.out) (k := k) (by have := HNv.out; omega)
      have HXv := hide hxv
      clear hxv
      by_cases hs : x < -16777216
      · have b8 : decide (x < -16777216) = true := decide_eq_true hs
        go_wp2
        go_ret
        exact ⟨rfl, HBr.out⟩
      by_cases hg : 16777216 < x
      · have b8 : decide (x < -16777216) = false := decide_eq_false hs
        have b9 : decide (16777216 < x) = true := decide_eq_true hg
        go_wp2
        go_ret
        exact ⟨rfl, HBr.out⟩
      have b8 : decide (x < -16777216) = false := decide_eq_false hs
      have b9 : decide (16777216 < x) = false := decide_eq_false hg
      have HN24' := hide (HN24.out.snoc HXv.out ⟨by omega, by omega⟩)
      have w2 : IntKind.i32.wrap (2 * x) = 2 * x := wrap_i32s (by omega)
      have w3 : IntKind.i32.wrap (-x) = -x := wrap_i32s (by omega)
      have HT := hide (map_snoc (f := (2 * ·)) HXv.out)
      have HU := hide (map_snoc (f := (- ·)) HXv.out)
      go_wp2_with (first
        | (at_builtin; refine wpList_append_elem rfl (.tmp 87) (.tmp 90) 22 rfl w.heap.size Try.underlying22 info_i32 rfl (by decide) (.slice T k p1) k _ rfl HO1.out _ _ rfl rfl (by simp [Value.oneCell']) (by simp only [maxLen]; omega) (by omega) HBr.out.size ?_; intro v9 w9 hown9 hgr9 hat9; have HP1 := hide (show w9.ownsRow w.heap.size 21 1 v9 (k + 1) (((v.take (k + 1)).map (2 * ·)).map (Value.int .i32)) by rw [HT.out]; exact hown9); have HP2 := hide (own_apart HO2.out HAp.out hgr9); have HAp9 := hide (apt_grown HO2.out HAp.out hat9); have HB9 := hide (below_own HBr.out HO1.out HBr.out.size hgr9); obtain ⟨T9, q1, rfl, l1, l2⟩ := own_form hown9; clear hown9 hgr9 hat9)
        | (at_builtin; refine wpList_append_elem rfl (.tmp 92) (.tmp 95) 22 rfl w.heap.size Try.underlying22 info_i32 rfl (by decide) (.slice U k p2) k _ rfl HP2.out _ _ rfl rfl (by simp [Value.oneCell']) (by simp only [maxLen]; omega) (by omega) HB9.out.size ?_; intro v8 w8 hown8 hgr8 hat8; have HQ2 := hide (show w8.ownsRow w.heap.size 21 1 v8 (k + 1) (((v.take (k + 1)).map (- ·)).map (Value.int .i32)) by rw [HU.out]; exact hown8); have HQ1 := hide (own_apart HP1.out HAp9.out.symm hgr8); have HAp8 := hide (apt_grown HP1.out HAp9.out.symm hat8).symm; have HB8 := hide (below_own HB9.out HP2.out HB9.out.size hgr8); obtain ⟨U9, q2, rfl, l3, l4⟩ := own_form hown8; clear hown8 hgr8 hat8))
      go_roundw
      case rel => exact ⟨k + 1, T9, U9, q1, q2, by omega, by go_num, rfl, rfl, l1, l2, l3, l4, HN24', HQ1, HQ2, HAp8, HB8⟩
      case measure => simp [intOf]; omega
    · obtain rfl : nv = k := by omega
      have HE := hide (show v.take nv = v from List.take_of_length_le (by have := HNv.out; omega))
      rw [HE.out] at HN24 HO1 HO2
      have HR1 := hide (show Rd (Sh.int .i32) wr wr.heap.size T (twiceF v) from (intR_own HO1.out).rd fun d hd => hd.2)
      have HR2 := hide (show Rd (Sh.int .i32) wr wr.heap.size U (backF v) from (intR_own HO2.out).rd fun d hd => hd.2)
      have HL1 := hide (show (twiceF v).length = nv by unfold twiceF; rw [List.length_map]; exact HNv.out)
      have HL2 := hide (show (backF v).length = nv by unfold backF; rw [List.length_map]; exact HNv.out)
      have HB := HBr
      clear HO1 HO2 HAp HBr HE
      go_wp2_with fail
      refine (eSk_any (HV.out.at_world HB.out) HNv.out hcv hv10 HI.out seed n N HN.out).mono ?_
      rintro e w4 ⟨s, v4, hs, rfl, A1, n1, c1, rfl, k1, k2, k3, k4, k5⟩
      have HB := hide (Below.step HB.out k5)
      have HR1 := hide (HR1.out.at_world k5)
      have HR2 := hide (HR2.out.at_world k5)
      have HSr := hide (k4.rd (B := w4.heap.size) fun d hd => hd.2)
      have HS := hide hs
      have HSn := hide k1
      clear k1 k4 k5 hs
      go_wp2_with fail
      refine (eSk_any HR1.out HL1.out e1 hv10 HN24.out.i32.1 seed n N HN.out).mono ?_
      rw [planes_twice]
      rintro e w5 ⟨t, v5, ht, rfl, A2, n2, c2, rfl, j1, j2, j3, j4, j5⟩
      obtain rfl : s = t := HS.out.one ht
      have HB := hide (Below.step HB.out j5)
      have HR2 := hide (HR2.out.at_world j5)
      have HSr := hide (HSr.out.at_world j5)
      have HTr := hide (j4.rd (B := w5.heap.size) fun d hd => hd.2)
      have HTn := hide j1
      clear j1 j4 j5 ht HR1
      go_wp2_with fail
      refine (eSk_any HR2.out HL2.out e3 hv10 HN24.out.i32.2 seed n N HN.out).mono ?_
      rintro e w6 ⟨u, v6, hu, rfl, A3, n3, c3, rfl, i1, i2, i3, i4, i5⟩
      have HB := hide (Below.step HB.out i5)
      have HSr := hide (HSr.out.at_world i5)
      have HTr := hide (HTr.out.at_world i5)
      have HUr := hide (i4.rd (B := w6.heap.size) fun d hd => hd.2)
      have HUn := hide i1
      have HUs := hide hu
      have HCnt := hide (both_count hN4 HS.out hu)
      clear i1 i4 i5 hu HR2 HL1 HL2
      go_wp2_with fail
      refine (eApart_any HSr.out HSn.out k2 k3 HS.out.c.u HTr.out HTn.out j2 j3 HS.out.c.u).mono ?_
      rw [apartW_self]
      rintro e w7 ⟨rfl, hb⟩
      have HB := hide (Below.step HB.out hb)
      have HSr := hide (HSr.out.at_world hb)
      have HUr := hide (HUr.out.at_world hb)
      clear hb HTr HTn
      go_wp2_with fail
      refine (eUnionW_any HSr.out HSn.out k2 k3 HUr.out HUn.out i2 i3).mono ?_
      rintro e w8 ⟨v8, rfl, A4, n4, c4, rfl, m1, m2, m3, m4, m5⟩
      have HB := hide (Below.step HB.out m5)
      have HSr := hide (HSr.out.at_world m5)
      have CC := hide (eCountW_any (m4.rd (B := w8.heap.size) fun d hd => hd.2) m1 m2 (unionW_canon HS.out.c.u HUs.out.c.u).u)
      rw [HCnt.out] at CC
      clear m1 m4 m5 HUr HUn HUs HCnt
      go_wp2_with fail
      refine CC.out.mono ?_
      rintro e _ ⟨rfl, rfl⟩
      clear CC
      have hNx : min (N : Int) 4096 = N := by omega
      have hNmx := HNm.out
      go_wp2
      go_loopw [20, 21, 22, 23, 24, 126] (fun _ _ _ _ _ i wq => ∃ p : Nat, p ≤ N ∧ i = .int .i64 p ∧ w8 = wq) (fun _ _ _ _ _ i _ => N - (intOf i).toNat)
      case atStart => exact ⟨0, by omega, rfl, rfl⟩
      case round =>
        obtain ⟨p, hp, rfl, rfl⟩ := hrel
        by_cases hpN : p < N
        · have p0 : (0 : Int) ≤ p := by omega
          have p1 : (p : Int) < N := by omega
          go_wp2
          go_loopw [21, 22, 23, 24, 131] (fun t _ _ _ i wq => ∃ j : Nat, j ≤ nv ∧ i = .int .i64 j ∧ t = .int .i64 (sumP v seed p j) ∧ w8 = wq) (fun _ _ _ _ i _ => nv - (intOf i).toNat)
          case atStart => exact ⟨0, by omega, rfl, rfl, rfl⟩
          case round =>
            obtain ⟨j, hj, rfl, rfl, rfl⟩ := hrel
            by_cases hjn : j < nv
            · have j0 : (0 : Int) ≤ j := by omega
              have j1' : (j : Int) < nv := by omega
              obtain ⟨ad, x, rfl, _, hxv, q0⟩ := Rd.icell (HV.out.at_world HB.out) (k := j) (by have := HNv.out; omega)
              have hd : v.getD j 0 = x := by rw [List.getD_eq_getElem?_getD, hxv]; rfl
              have hxb := HI.out.getD j
              rw [hd] at hxb
              have hsl := sumP_le (seed := seed) (p := (p : Int)) HI.out j
              have C2 := hide (eSign_any seed p j (by omega) (by omega) w8)
              rw [sgnV_nat] at C2
              have hs1 : sumP v seed p (j + 1) = sumP v seed p j + sgn seed p j * x := by show sumP v seed p j + sgn seed p j * v.getD j 0 = _; rw [hd]
              obtain ⟨t, ht⟩ : ∃ t, sumP v seed p j = t := ⟨_, rfl⟩
              rw [ht] at hsl hs1
              rw [ht]
              have hs2 : -2147483648000 ≤ t ∧ t ≤ 2147483648000 := by omega
              rcases sgn_pm seed p j with hz | hz
              · rw [hz] at hs1 C2
                have HS2 := hide (show sumP v seed p (j + 1) = t + x by omega)
                clear hsl hd hxv hs1 hz ht
                go_wp2_with (go_at_call 8; refine C2.out.mono ?_; rintro e _ ⟨rfl, rfl⟩)
                go_roundw
                case rel => exact ⟨j + 1, by omega, by go_num, by first | (rw [HS2.out]; done) | (rw [HS2.out]; go_num), by first | rfl | trivial⟩
                case measure => simp [intOf]; omega
              · rw [hz] at hs1 C2
                have HS2 := hide (show sumP v seed p (j + 1) = t - x by omega)
                clear hsl hd hxv hs1 hz ht
                go_wp2_with (go_at_call 8; refine C2.out.mono ?_; rintro e _ ⟨rfl, rfl⟩)
                go_roundw
                case rel => exact ⟨j + 1, by omega, by go_num, by first | (rw [HS2.out]; done) | (rw [HS2.out]; go_num), by first | rfl | trivial⟩
                case measure => simp [intOf]; omega
            · obtain rfl : nv = j := by omega
              have CH := hide (eHas_any HSr.out HSn.out k2 HS.out.c.u p (by omega))
              rw [hasW_nat _ _ (by omega), has_plane HS.out hpN (by omega), HNv.out] at CH
              obtain ⟨t, ht⟩ : ∃ t, sumP v seed p nv = t := ⟨_, rfl⟩
              rw [ht] at CH
              rw [ht]
              clear ht
              go_wp2_with (go_at_call 18; refine CH.out.mono ?_; rintro e _ ⟨rfl, rfl⟩)
              go_roundw
              case rel => exact ⟨p + 1, by omega, by go_num, by first | rfl | trivial⟩
              case measure => simp [intOf]; omega
        · obtain rfl : N = p := by omega
          go_wp2_with fail
          refine (eSk_any (HV.out.at_world HB.out) HNv.out hcv hv10 HI.out seed (n + 1) M HM.out).mono ?_
          rintro e w9 ⟨t, v9, ht, rfl, A5, n5, c5, rfl, l1, l2, l3, l4, l5⟩
          have HB := hide (Below.step HB.out l5)
          have HSr := hide (HSr.out.at_world l5)
          have HTr := hide (l4.rd (B := w9.heap.size) fun d hd => hd.2)
          have HTn := hide l1
          have HTs := hide ht
          clear l1 l4 l5 ht
          go_wp2_with fail
          refine (eOf_any (n := 1) (c := 1) (l := [n]) (lit_at [n] (Blk.new w9 _ _) (by simp)) rfl (Nat.le_refl _) (by omega) (by intro x hx; simp at hx; subst hx; omega)).mono ?_
          rintro e w10 ⟨o, v10, ho, rfl, A6, n6, c6, rfl, i1, i2', i3', i4, i5⟩
          have hb10 := Below.step (below1 w9 _) i5
          have HB := hide (Below.step HB.out hb10)
          have HSr := hide (HSr.out.at_world hb10)
          have HTr := hide (HTr.out.at_world hb10)
          have HOr := hide (i4.rd (B := w10.heap.size) fun d hd => hd.2)
          have HOn := hide i1
          have HOs := hide ho
          clear i1 i4 i5 ho hb10
          go_wp2_with fail
          refine (eLessW_any HTr.out HTn.out l2 l3 HOr.out HOn.out i2' i3').mono ?_
          rw [← more_planes HS.out HTs.out HOs.out HN.out HM.out hn3]
          rintro e w11 ⟨v11, rfl, A7, n7, c7, rfl, i1, i2'', i3'', i4, i5⟩
          have HB := hide (Below.step HB.out i5)
          have HSr := hide (HSr.out.at_world i5)
          have HLr := hide (i4.rd (B := w11.heap.size) fun d hd => hd.2)
          have HLn := hide i1
          clear i1 i4 i5 HTr HTn HTs HOr HOn HOs
          go_wp2_with fail
          refine (same64_any _ _ _ _ _ _ s s _ HSr.out HSn.out k2 k3 HLr.out HLn.out i2'' i3'').mono ?_
          rintro e w12 ⟨rfl, hd⟩
          have HB := hide (Below.step HB.out hd.below)
          rw [decide_eq_true (Eq.refl s)]
          clear hd
          go_wp2
          go_ret
          exact ⟨rfl, HB.out⟩
end Go.Proofs.Ytlnbeeflifmnjac
