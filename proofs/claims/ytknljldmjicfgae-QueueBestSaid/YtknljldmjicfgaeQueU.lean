/-
  The law QueueBest. Conditions: the slice reads as a list of spots.
-/
import Derived.Test.YtknljldmjicfgaeQueT
namespace Go.Proofs.Ytknljldmjicfgae
set_option linter.unusedSimpArgs false
set_option linter.unusedVariables false
open Go.RowKit

theorem min_most (most : Int) (x : List Spt) {n : Nat} (hn : x.length = n) : (srtS x).take (lstN (min most 4096) n) = (srtS x).take (mostB most) := by
  rw [take_lst _ (by rw [srtS_len]; exact hn)]
  congr 1
  unfold mostB
  omega
/-- what is looked at in the end -/
structure EB (w1 : World) (Q Q2 Q3 K : Nat) (v v2 v3 : Value) (l2 l3 x : List Spt) (A Aa : Option Addr) (W : World) : Prop where
  tri : Tri w1 W Q Q2 Q3 K K v v2 v3 [] l2 l3
  row : Rd SP W W.heap.size Aa (srtS x)
  inp : Rd SP W W.heap.size A x
theorem EB.step {w1 W W' : World} {Q Q2 Q3 K : Nat} {v v2 v3 : Value} {l2 l3 x : List Spt} {A Aa : Option Addr} (h : EB w1 Q Q2 Q3 K v v2 v3 l2 l3 x A Aa W) (hb : Below W.heap.size W W') : EB w1 Q Q2 Q3 K v v2 v3 l2 l3 x A Aa W' := ⟨h.tri.below hb, h.row.at_world hb, h.inp.at_world hb⟩
def NewK (L : List Spt) (W : World) (e : Ending) (w' : World) : Prop := ∃ A n c, e = .returned (.slice A n c) ∧ L.length = n ∧ n ≤ c ∧ c ≤ 9223372036854775807 ∧ Rd SP w' w'.heap.size A L ∧ Below W.heap.size W w'
theorem listK {W : World} {B Q k : Nat} {v : Value} {l L : List Spt} (h : BAt W B Q k v l) (hsz : l.length ≤ 500000) (e : srtS l = L) : Calls Try.prog 19 #[.pointer (some ⟨Q, 0, none⟩)] W (NewK L W) := by
  subst e
  exact (bListS h hsz).mono fun e w' ⟨A, c, h1, h2, h3, h4, h5⟩ => ⟨A, _, c, h1, rfl, h2, h3, h4.rd fun b hb => hb.2, h5⟩
theorem leastK {W : World} (A : Option Addr) (n c : Nat) (x : List Spt) (most : Int) (hx : Rd SP W W.heap.size A x) (hn : x.length = n) (hc : n ≤ c) (hm : c ≤ 9223372036854775807) (h6 : n ≤ 1000000) {K : Nat} (hK : mostB most = K) : Calls Try.prog 21 #[.slice A n c, .int .i64 (min most 4096)] W (NewK ((srtS x).take K) W) := by
  subst hK
  rw [← min_most most x hn]
  refine (least_any A n c (min most 4096) x W hx hn hc hm h6).mono ?_
  rintro e w' ⟨v, rfl, A', n', c', rfl, h1, h2, h3, h4, h5⟩
  exact ⟨A', n', c', rfl, h1, h2, h3, h4.rd fun b hb => hb.2, h5⟩
theorem sameK {W : World} (A B : Option Addr) (n c m d : Nat) (L : List Spt) (hx : Rd SP W W.heap.size A L) (hn : L.length = n) (hc : n ≤ c) (hm : c ≤ 9223372036854775807) (hy : Rd SP W W.heap.size B L) (hn' : L.length = m) (hd : m ≤ d) (hm' : d ≤ 9223372036854775807) : Calls Try.prog 18 #[.slice A n c, .slice B m d] W fun e w' => e = .returned (.bool true) ∧ Below W.heap.size W w' :=
  (same_any A B n c m d L L W hx hn hc hm hy hn' hd hm').mono fun e w' ⟨h1, h2⟩ => ⟨by rw [h1]; simp, h2.below⟩
set_option maxHeartbeats 8000000 in
set_option maxRecDepth 100000 in
theorem best_any (A : Option Addr) (n c : Nat) (x : List Spt) (most : Int) (w : World) (hx : Rd SP w w.heap.size A x) (hn : x.length = n) (hc : n ≤ c) (hm : c ≤ 9223372036854775807) :
    Calls Try.prog 4 #[.slice A n c, .int .i64 most] w fun e w' => e = .returned (.bool true) ∧ Below w.heap.size w w' := by
  rcases Nat.lt_or_ge 200 n with h1 | h1
  · have b1 : decide ((200 : Int) < n) = true := by simp; omega
    have b0 : decide (200 < n) = true := by simp; omega
    clear hx hn
    go_enter Try.func4, Try.ntmps4
    go_wp2_with (go_at_call 5; refine (lives_any _).mono ?_; rintro e w1 ⟨rfl, hb⟩)
    go_ret
    exact ⟨rfl, hb⟩
  have b1 : decide ((200 : Int) < n) = false := by simp; omega
  have b0 : decide (200 < n) = false := by simp; omega
  have HX := hide hx
  have Hn := hide hn
  clear hx hn
  go_enter Try.func4, Try.ntmps4
  go_wp2_with (first
    | (go_at_call 5; refine (lives_any _).mono ?_; rintro e w1 ⟨rfl, hb⟩; have HX1 := hide (HX.out.at_world hb); have HW := hide hb; clear hb HX)
    | (go_at_call 6; refine (newQ_any _).mono ?_; rintro e w2 ⟨Q, rfl, hq, hB⟩; have HQ := hide hq; have HB1 := hide hB; clear hq hB)
    | (go_at_call 7; refine (newB_any most _).mono ?_; rintro e w4 ⟨Q3, rfl, hc3, hB⟩; have HT := hide (tri_start HQ.out HB1.out HB.out HB2.out hc3 hB); clear hc3 hB HQ HB1 HB HB2)
    | (go_at_call 7; refine (newB_any most _).mono ?_; rintro e w3 ⟨Q2, rfl, hb, hB⟩; have HB := hide hb; have HB2 := hide hB; clear hb hB))
  obtain ⟨K, hK⟩ : ∃ K, mostB most = K := ⟨_, rfl⟩
  have HK := hide hK
  rw [hK] at HT
  clear hK
  go_loopw [35] (fun i wr => ∃ (j : Nat) (v v2 v3 : Value) (l l2 l3 : List Spt), j ≤ n ∧ i = .int .i64 j ∧ Hid (Tri w1 wr Q Q2 Q3 K K v v2 v3 l l2 l3) ∧ Hid (Put K j x l l2 l3)) (fun i _ => n - (intOf i).toNat)
  case atStart => exact ⟨0, _, _, _, [], [], [], by omega, rfl, HT, hide (put0 _ _)⟩
  case round =>
    obtain ⟨j, v, v2, v3, l, l2, l3, hj, rfl, HTr, HPu⟩ := hrel
    clear HT
    have Hlen := hide HPu.out.lens
    by_cases hlt : j < n
    · obtain ⟨ad, ⟨⟨s1, s2⟩, s3⟩, rfl, hbl, hs, c0, c1, c2⟩ := RdR.scell (HX1.out.below HTr.out.bel (Nat.le_refl _)) (k := j) (by rw [Hn.out]; exact hlt)
      obtain ⟨_, ⟨⟨u1, u2⟩, u3⟩, he, hbl2, hu, x0, x1, x2⟩ := RdR.scell HX1.out (k := n - 1 - j) (by rw [Hn.out]; omega)
      injection he with he
      subst he
      simp only at c0 c1 c2 x0 x1 x2
      obtain ⟨t, ht⟩ : ∃ t, n - 1 - j = t := ⟨_, rfl⟩
      rw [ht] at hu x0 x1 x2
      have HS := hide hs
      have HU := hide (show x.reverse[j]? = some ((u1, u2), u3) from rev_at hu (by rw [Hn.out]; omega))
      have HE := hide (show t < n ∧ t + j + 1 = n by omega)
      have HXC := hide (show ∀ W, Below w1.heap.size w1 W → W.cell? (ad.add (t * 3)) = some (.int .u64 u1) ∧ W.cell? ⟨(ad.add (t * 3)).block, (ad.add (t * 3)).off + 1, none⟩ = some (.int .u64 u2) ∧ W.cell? ⟨(ad.add (t * 3)).block, (ad.add (t * 3)).off + 2, none⟩ = some (.int .i64 u3) from fun W hb => ⟨(hb.cell (p := ad.add (t * 3)) (by rw [block_of_add]; exact hbl2)).trans x0, (hb.cell (p := ⟨(ad.add (t * 3)).block, (ad.add (t * 3)).off + 1, none⟩) (by show (ad.add (t * 3)).block < _; rw [block_of_add]; exact hbl2)).trans x1, (hb.cell (p := ⟨(ad.add (t * 3)).block, (ad.add (t * 3)).off + 2, none⟩) (by show (ad.add (t * 3)).block < _; rw [block_of_add]; exact hbl2)).trans x2⟩)
      have hk0 : (0 : Int) ≤ j := by omega
      have hkl : (j : Int) < n := by omega
      clear hs hu hbl hbl2 x0 x1 x2 ht
      go_upto_region 11 with fail
      have hb1 := below1 wr (.cells #[.int .u64 s1, .int .u64 s2, .int .i64 s3] 33)
      have HG := hide (Blk.new wr 33 #[.int .u64 s1, .int .u64 s2, .int .i64 s3])
      have HT1 := hide (HTr.out.below hb1)
      have HNQ := hide (show wr.heap.size ≠ Q ∧ v.ownBlock ≠ some wr.heap.size from by
        obtain ⟨a1, a2⟩ := HTr.out.q.low
        exact ⟨by omega, fun e => by have := a2 _ e; omega⟩)
      clear hb1 c0 c1 c2
      generalize World.alloc wr _ = w5 at *
      generalize wr.heap.size = g at *
      obtain ⟨z0, z1, z2⟩ := cell3s HG.out
      have hl6 : l.length ≤ 500000 := by have := Hlen.out; have := Hn.out; omega
      go_upto_region 12 with (go_at_call 9; refine (qPush_any HT1.out.q HT1.out.hq ((s1, s2), s3) hl6).mono ?_; rintro e w6 ⟨rfl, hd⟩; obtain ⟨l', v', r1, r2, r3, r4⟩ := HT1.out.q_ hd; have HT2 := hide r2; have HG2 := hide (HpAt.blk r3 HG.out HNQ.out.1 HNQ.out.2); have HR1 := hide r1; clear hd r1 r2 r3 r4)
      clear z0 z1 z2 hl6
      obtain ⟨z0, z1, z2⟩ := cell3s HG2.out
      have hl6 : l2.length ≤ 400000 := by have := Hlen.out; have := Hn.out; omega
      go_upto_region 13 with (go_at_call 12; refine (bOffer_any HT2.out.b HT2.out.hb ((s1, s2), s3) hl6).mono ?_; rintro e w7 ⟨r, m2, rfl, ho2, hd2⟩; obtain ⟨l2', v2', p2, t3, _⟩ := HT2.out.b_ hd2; have HT3 := hide t3; have HO2 := hide ho2; have HP2 := hide p2; clear ho2 hd2 p2 t3)
      clear z0 z1 z2 hl6
      obtain ⟨z0, z1, z2⟩ := HXC.out _ HT3.out.bel
      have hl6 : l3.length ≤ 400000 := by have := Hlen.out; have := Hn.out; omega
      have hw1 : (n : Int) - 1 - j = t := by have := HE.out; omega
      have ht0 : (0 : Int) ≤ t := by omega
      have htn : (t : Int) < n := by have := HE.out; omega
      go_wp2_with (go_at_call 12; refine (bOffer_any HT3.out.c HT3.out.hc ((u1, u2), u3) hl6).mono ?_; rintro e w8 ⟨r', m3, rfl, ho3, hd3⟩; obtain ⟨l3', v3', p3, t4, _⟩ := HT3.out.c_ hd3; have HT4 := hide t4; have HO3 := hide ho3; have HP3 := hide p3; clear ho3 hd3 p3 t4)
      go_roundw
      case rel => exact ⟨j + 1, v', v2', v3', l', l2', l3', by omega, by go_num, HT4, hide (HPu.out.step HS.out HU.out HR1.out HTr.out.hb HTr.out.hc HO2.out HP2.out HO3.out HP3.out)⟩
      case measure => simp [intOf]; omega
    · obtain rfl : j = n := by omega
      clear hlt hj
      have HDn := hide (HPu.out.done Hn.out)
      have HTk : Hid (Taken w1 wr Q Q2 Q3 K v2 v3 l2 l3 x (.slice none 0 0) 0 0 v l) := hide ⟨HTr.out, by simpa [fcs] using World.ownsRow_nil wr w1.heap.size 33 3, by simpa using HDn.out.1, Apart.nil _, Apart.nil _, Apart.nil _⟩
      have Hl2 := hide (show l2.length ≤ 500000 ∧ l3.length ≤ 500000 by have := Hlen.out; have := Hn.out; omega)
      clear HTr HPu Hlen
      go_wp2
      go_loopw [10] (fun a wr => ∃ (i : Nat) (Aa : Option Addr) (ca : Nat) (v : Value) (l : List Spt), i ≤ j ∧ a = .slice Aa i ca ∧ i ≤ ca ∧ ca ≤ 9223372036854775807 ∧ Hid (Taken w1 wr Q Q2 Q3 K v2 v3 l2 l3 x (.slice Aa i ca) i i v l)) (fun a _ => match a with | .slice _ i _ => j - i | _ => 0)
      case atStart => exact ⟨0, none, 0, v, l, by omega, rfl, by omega, by omega, HTk⟩
      case round =>
        obtain ⟨i, Aa, ca, v, l, hi, rfl, hc1, hc2, HTa⟩ := hrel
        clear HTk
        have g1 : decide ((i : Int) ≤ j) = true := by simp; omega
        have g0 : decide (i ≤ j) = true := by simp; omega
        have hll : l.length ≤ 500000 := by
          have h := congrArg List.length HTa.out.left
          rw [srtS_len, List.length_drop, srtS_len, Hn.out] at h
          omega
        by_cases hlt : i < j
        · obtain ⟨⟨⟨s1, s2⟩, s3⟩, X, hX⟩ : ∃ s X, (srtS x).drop i = s :: X := by
            cases h : (srtS x).drop i with
            | nil =>
              have h' := congrArg List.length h
              rw [List.length_drop, srtS_len, Hn.out] at h'
              simp at h'
              omega
            | cons s X => exact ⟨s, X, rfl⟩
          obtain ⟨e1, e2, e3, e4⟩ := srtS_cons HTa.out.tri.hq (HTa.out.left.trans hX)
          obtain ⟨x0, x1⟩ := drop_cons hX
          have HPop : Hid (Calls Try.prog 8 #[.pointer (some ⟨Q, 0, none⟩)] wr fun e w' => e = .returned (.tuple #[.agg #[.int .u64 s1, .int .u64 s2, .int .i64 s3], .bool true]) ∧ PopDone wr w' w1.heap.size Q v l) := hide (by
            have := qPop_any HTa.out.tri.q HTa.out.tri.hq hll
            rwa [e1, e3] at this)
          have HE2 := hide e2
          have HE4 := hide e4
          have HX0 := hide x0
          have HX1' := hide x1
          clear e1 e2 e3 e4 x0 x1 hX hll
          go_upto_region 18 with (go_at_call 8; refine HPop.out.mono ?_; rintro e w5 ⟨rfl, m, hm, hd⟩; obtain ⟨l', v', r1, r2, r3, r4⟩ := HTa.out.tri.q_ hd; have hm1 := hm.resolve_left (fun h => HE4.out h.1); have kk := HTa.out.turn (L := []) (m := m) r2 r3 r4; have HTb : Hid (Taken w1 w5 Q Q2 Q3 K v2 v3 l2 l3 x (.slice Aa i ca) i (i + 1) v' l') := hide ⟨r2, kk.1, by rw [srtS_congr r1, HE2.out m hm1, HX1'.out], kk.2, HTa.out.ap2, HTa.out.ap3⟩; clear hm hd r1 r2 r3 r4 hm1 kk)
          have hb1 := below1 w5 (.cells #[.int .u64 s1, .int .u64 s2, .int .i64 s3] 33)
          have HG := hide (Blk.new w5 33 #[.int .u64 s1, .int .u64 s2, .int .i64 s3])
          have HTc := hide (HTb.out.step hb1)
          clear hb1
          generalize World.alloc w5 _ = w6 at *
          generalize w5.heap.size = g at *
          obtain ⟨z0, z1, z2⟩ := cell3s HG.out
          go_wp2_with (at_builtin; refine wpList_append_elem rfl (.tmp 69) (.tmp 71) 28 rfl w1.heap.size Try.underlying28 info_spot rfl (by decide) (.slice Aa i ca) i _ rfl HTc.out.row _ _ rfl rfl (by simp [Value.oneCell']) (by simp only [maxLen]; omega) (by omega) HTc.out.tri.bel.size ?_; intro v9 w9 hown9 hgr9 hat9; obtain ⟨A9, c9, rfl, k1, k2⟩ := own_form hown9; have kk := HTc.out.grow hgr9 hown9 (hat9.imp id fun e => ⟨_, e, by omega⟩); have HTd : Hid (Taken w1 w9 Q Q2 Q3 K v2 v3 l2 l3 x (.slice A9 (i + 1) c9) (i + 1) (i + 1) v' l') := hide ⟨kk.1, by rw [take_succ_at HX0.out, fcs_snoc]; exact hown9, HTc.out.left, kk.2.1, kk.2.2.1, kk.2.2.2⟩; clear hown9 hgr9 hat9 kk)
          go_roundw
          case rel => exact ⟨i + 1, A9, c9, v', l', by omega, rfl, k1, k2, HTd⟩
          case measure => simp; omega
        · obtain rfl : i = j := by omega
          have hlz : l = [] := by
            have h := congrArg List.length HTa.out.left
            rw [srtS_len, List.length_drop, srtS_len, Hn.out, Nat.sub_self] at h
            exact List.eq_nil_of_length_eq_zero h
          subst hlz
          have HPop : Hid (Calls Try.prog 8 #[.pointer (some ⟨Q, 0, none⟩)] wr fun e w' => e = .returned (.tuple #[.agg #[.int .u64 0, .int .u64 0, .int .i64 0], .bool false]) ∧ PopDone wr w' w1.heap.size Q v []) := hide (qPop_any HTa.out.tri.q HTa.out.tri.hq hll)
          clear hll
          go_upto_region 20 with (go_at_call 8; refine HPop.out.mono ?_; rintro e w5 ⟨rfl, m, hm, hd⟩; obtain ⟨l', v', r1, r2, r3, r4⟩ := HTa.out.tri.q_ hd; have hm1 : m = [] := (hm.elim (fun h => h.2) fun h => by have := h.length_eq; simp at this); have hl0 : l' = [] := (by have := r1.length_eq; rw [hm1] at this; exact List.eq_nil_of_length_eq_zero this); have kk := HTa.out.turn (L := []) (m := m) r2 r3 r4; have HTb := hide (show Tri w1 w5 Q Q2 Q3 K K v' v2 v3 [] l2 l3 from hl0 ▸ r2); have HRw := hide kk.1; clear hm hd r1 r2 r3 r4 hm1 kk hl0)
          have hb1 := below1 w5 (.cells #[.int .u64 0, .int .u64 0, .int .i64 0] 33)
          have HEB : Hid (EB w1 Q Q2 Q3 K v' v2 v3 l2 l3 x A Aa (w5.alloc (.cells #[.int .u64 0, .int .u64 0, .int .i64 0] 33))) := hide ⟨HTb.out.below hb1, by
            have h1 := HRw.out
            rw [List.take_of_length_le (by rw [srtS_len, Hn.out]; omega)] at h1
            exact Rd.at_world ((flatS.own h1).rd fun b hb => hb.2) hb1, (HX1.out.at_world HTb.out.bel).at_world hb1⟩
          have HLx := hide (show (srtS x).length = i by rw [srtS_len]; exact Hn.out)
          clear hb1 HTb HRw HTa HPop
          generalize World.alloc w5 _ = w6 at *
          go_wp2_with fail
          refine (sort_any A i c x _ HEB.out.inp Hn.out hc hm (by omega)).mono ?_
          rintro e w7 ⟨v7, rfl, ho7, hb7⟩
          obtain ⟨A7, c7, rfl, k71, k72⟩ := own_form ho7
          have HS7 : Hid (Rd SP w7 w7.heap.size A7 (srtS x)) := hide ((flatS.own ho7).rd fun b hb => hb.2)
          have HE7 := hide (HEB.out.step hb7)
          clear ho7 hb7 HEB
          go_wp2_with fail
          refine (sameK Aa A7 i ca i c7 (srtS x) HE7.out.row HLx.out hc1 hc2 HS7.out HLx.out k71 k72).mono ?_
          rintro e w8 ⟨rfl, hb8⟩
          have HE8 := hide (HE7.out.step hb8)
          clear hb8 HE7 HS7
          go_wp2_with fail
          refine (listK HE8.out.tri.b Hl2.out.1 HDn.out.2.1).mono ?_
          rintro e w9 ⟨A9, n9, c9, rfl, hl9, k91, k92, hr9, hb9⟩
          have HL9 := hide hl9
          have HS9 := hide hr9
          have HE9 := hide (HE8.out.step hb9)
          clear hl9 hr9 hb9 HE8
          go_wp2_with fail
          refine (leastK A i c x most HE9.out.inp Hn.out hc hm (by omega) HK.out).mono ?_
          rintro e w10 ⟨B9, m9, d9, rfl, hl10, k01, k02, hr10, hb10⟩
          have HL10 := hide hl10
          have HS10 := hide hr10
          have HS9' := hide (HS9.out.at_world hb10)
          have HE10 := hide (HE9.out.step hb10)
          clear hl10 hr10 hb10 HE9 HS9
          go_wp2_with fail
          refine (sameK A9 B9 n9 c9 m9 d9 _ HS9'.out HL9.out k91 k92 HS10.out HL10.out k01 k02).mono ?_
          rintro e w11 ⟨rfl, hb11⟩
          have HE11 := hide (HE10.out.step hb11)
          clear hb11 HE10 HS9' HS10 HL9 HL10
          go_wp2_with fail
          refine (listK HE11.out.tri.c Hl2.out.2 HDn.out.2.2).mono ?_
          rintro e w12 ⟨A12, n12, c12, rfl, hl12, k121, k122, hr12, hb12⟩
          have HL12 := hide hl12
          have HS12 := hide hr12
          have HE12 := hide (HE11.out.step hb12)
          clear hl12 hr12 hb12 HE11
          go_wp2_with fail
          refine (listK HE12.out.tri.b Hl2.out.1 HDn.out.2.1).mono ?_
          rintro e w13 ⟨A13, n13, c13, rfl, hl13, k131, k132, hr13, hb13⟩
          have HL13 := hide hl13
          have HS13 := hide hr13
          have HS12' := hide (HS12.out.at_world hb13)
          have HE13 := hide (HE12.out.step hb13)
          clear hl13 hr13 hb13 HE12 HS12
          go_wp2_with fail
          refine (sameK A12 A13 n12 c12 n13 c13 _ HS12'.out HL12.out k121 k122 HS13.out HL13.out k131 k132).mono ?_
          rintro e w14 ⟨rfl, hb14⟩
          have HE14 := hide (HE13.out.step hb14)
          clear hb14 HE13 HS12' HS13 HL12 HL13
          go_wp2_with fail
          refine (qLen_any HE14.out.tri.q).mono ?_
          rintro e _ ⟨rfl, rfl⟩
          go_wp2_with fail
          go_ret
          exact ⟨rfl, Below.step HW.out HE14.out.tri.bel⟩
end Go.Proofs.Ytknljldmjicfgae
