/-
  The package explore: the document's functions: the n-th order. Conditions: the slice reads as a list of ints.
-/
import Derived.Test.YtpnekmkbedhooaaExpD
namespace Go.Proofs.Ytpnekmkbedhooaa
open Go.RowKit

theorem cnt_lt (xs : List Int) : cntOf xs ≤ 18446744073709551615 := by
  by_cases h : okT xs
  · rw [cntOf_ok h]; have := hN_lt (multi 0 (tn xs)); omega
  · rw [cntOf_no h]; omega
theorem cnt_ok {xs : List Int} {N : Nat} (h : N < cntOf xs) : okT xs ∧ N < multi 0 (tn xs) ∧ N < 18446744073709551615 := by
  have hl := cnt_lt xs
  by_cases k : okT xs
  · refine ⟨k, ?_, by omega⟩
    rw [cntOf_ok k] at h
    unfold hN at h; omega
  · rw [cntOf_no k] at h; omega
/-- what 'Nth' tells -/
def NthGives (w : World) (xs : List Int) (N : Nat) (e : Ending) (w' : World) : Prop :=
  (N < cntOf xs ∧ ∃ v o, e = .returned (.tuple #[v, .bool true]) ∧ Nth (tn xs) N o ∧ NewInts .i64 w (ni o) v w') ∨ (¬ N < cntOf xs ∧ e = .returned (.tuple #[.slice none 0 0, .bool false]) ∧ Below w.heap.size w w')
theorem NthGives.no {w w' : World} {xs : List Int} {N : Nat} (h : ¬ N < cntOf xs) (hb : Below w.heap.size w w') : NthGives w xs N (.returned (.tuple #[.slice none 0 0, .bool false])) w' := .inr ⟨h, rfl, hb⟩
def lenV : Value → Nat
  | .slice _ n _ => n
  | _ => 0
theorem ni_snoc (l : List Nat) (k : Nat) : (ni (l ++ [k])).map (Value.int .i64) = (ni l).map (Value.int .i64) ++ [.int .i64 k] := by simp [ni]

set_option maxHeartbeats 2000000 in
theorem refENth_any (A : Option Addr) (n c N : Nat) (xs : List Int) (w : World) (hx : I64s w w.heap.size A xs) (hn : xs.length = n) (hc : n ≤ c) (hm : c ≤ 9223372036854775807) (hN' : N < 18446744073709551616) :
    Calls Try.prog 9 #[.slice A n c, .int .u64 N] w (NthGives w xs N) := by
  have C1 := hide (refRight_any A n c xs w hx hn hc hm)
  clear hx
  by_cases hok : okT xs
  · have D1 := hide (refRight_ok hok C1.out)
    have HE := hide (cntOf_ok hok)
    have Hok := hide hok
    clear C1 hok
    by_cases hlt : N < cntOf xs
    · obtain ⟨_, hm1, hm2⟩ := cnt_ok hlt
      have HM1 := hide hm1
      have hd1 : decide (hN (multi 0 (tn xs)) ≤ N) = false := by rw [HE.out] at hlt; simp; omega
      have hd2 : ((N : Int) == 18446744073709551615) = false := by rw [beq_eq_false_iff_ne]; omega
      have Hlt := hide hlt
      have HTL := hide (tn_len xs)
      clear hlt hm1
      go_enter Try.func9, Try.ntmps9
      go_wp2_with (first
        | (go_at_call 20; refine D1.out.mono ?_; rintro e w1 ⟨v, rfl, A1, n1, c1, rfl, h1, h2, h3, h4, h5⟩; have HB1 := hide h5; have HR1 := hide (h4.more (R' := fun b => b < w1.heap.size) fun b hb => hb.2); have HC := hide (refCount_any A1 n1 c1 (tn xs) w1 HR1.out (by rw [← h1, ni_len]) Hok.out.2.2 h2 h3); obtain rfl : n = n1 := (by rw [ni_len] at h1; have := HTL.out; omega); clear h1 h4 h5)
        | (go_at_call 21; refine HC.out.mono ?_; rintro e w2 ⟨rfl, hb2⟩; have HB2 := hide (Below.step HB1.out hb2); have HR2 := hide ((HR1.out.below hb2 (fun b hb => hb)).more (R' := fun b => b < w2.heap.size) fun b hb => Nat.lt_of_lt_of_le hb hb2.size); clear hb2))
      go_loopw [1, 6, 8] (fun nv lv v wr => ∃ (m : Nat) (A2 : Option Addr) (c2 : Nat) (l pre : List Nat), nv = .int .u64 m ∧ lv = .slice A2 n c2 ∧ n ≤ c2 ∧ c2 ≤ 9223372036854775807 ∧ m < 18446744073709551615 ∧ Hid (RdR (Sh.int .i64) wr (fun b => b < wr.heap.size ∧ v.ownBlock ≠ some b) A2 (ni l)) ∧ Hid (l.length = n) ∧ Hid (pre.length + l.sum ≤ 64) ∧ Hid (m < multi 0 l) ∧ Hid (wr.ownsRow w.heap.size 3 1 v pre.length ((ni pre).map (Value.int .i64))) ∧ Hid (Below w.heap.size w wr) ∧ Hid (∀ o, Nth l m o → Nth (tn xs) N (pre ++ o))) (fun _ _ v _ => 64 - lenV v)
      case atStart => exact ⟨N, A1, c1, tn xs, [], rfl, rfl, h2, h3, hm2, hide (HR2.out.more fun b hb => ⟨hb, by simp [Value.ownBlock]⟩), hide (by rw [HTL.out, hn]), hide (by have := Hok.out.2.2; simpa using this), HM1, hide ⟨rfl, .inl ⟨rfl, rfl⟩⟩, HB2, hide (fun o h => h)⟩
      case round =>
        clear HR2 HB2 HC HR1 HB1
        obtain ⟨m, A2, c2, l, pre, rfl, rfl, hc2, hm2', hm3, hR, hL, hS, hM, hO, hB, hP⟩ := hrel
        have HT := hide (fun W (h : I64s W W.heap.size A2 (ni l)) => refTotal_any A2 n c2 l W h hL.out (by have := hS.out; omega) hc2 hm2')
        rcases Nat.eq_zero_or_pos l.sum with h0 | h0
        · have hz : ((l.sum : Nat) : Int) = 0 := by omega
          have Hz := hide h0
          obtain ⟨A9, c9, rfl, o1, o2⟩ := own_form hO.out
          rw [h0] at HT
          clear hz h0
          go_wp2_with (go_at_call 22; refine (HT.out _ (hR.out.more fun b hb => hb.1)).mono ?_; rintro e w4 ⟨rfl, rfl⟩)
          go_ret2
          have hm0 : m = 0 := by have := hM.out; rw [multi_zero Hz.out] at this; omega
          subst hm0
          exact .inl ⟨Hlt.out, _, pre, rfl, by have := hP.out [] (.last Hz.out); simpa using this, NewInts.of_own hO.out hB.out⟩
        · obtain ⟨T, hTT⟩ : ∃ T : Int, T = ((l.sum : Nat) : Int) := ⟨_, rfl⟩
          have HT := hide (show ∀ W : World, I64s W W.heap.size A2 (ni l) → Calls Try.prog 22 #[.slice A2 n c2] W fun e w' => e = .returned (.int .i64 T) ∧ W = w' from fun W h => by rw [hTT]; exact HT.out W h)
          have hp : decide (0 < T) = true := by simp; omega
          clear hTT
          have Hp := hide h0
          have HF := hide (multi_first h0)
          clear h0
          obtain ⟨wo, rfl⟩ : ∃ wo : World, wo = wr := ⟨_, rfl⟩
          have HR' := hide (show I64s wo wo.heap.size A2 (ni l) from hR.out.more fun b hb => hb.1)
          have h16 : n ≤ 16 := by have := Hok.out.1; omega
          have HLs := hide (fun W k (h : I64s W W.heap.size A2 (ni l)) hk h0 => refLess_any A2 n c2 k l W h hL.out hk h0 (by have := hS.out; omega) (by omega))
          go_wp2_with (go_at_call 22; refine (HT.out _ (hR.out.more fun b hb => hb.1)).mono ?_; rintro e w4 ⟨rfl, rfl⟩)
          clear hp HT
          obtain ⟨vo, rfl⟩ : ∃ vo : Value, vo = u8 := ⟨_, rfl⟩
          go_loopw [1, 6, 8, 33] (fun nv lv v2 i wr => ∃ k : Nat, k ≤ n ∧ i = .int .i64 k ∧ lv = .slice A2 n c2 ∧ v2 = vo ∧ nv = .int .u64 ((m - first 0 l k : Nat) : Int) ∧ Hid (first 0 l k ≤ m) ∧ Hid (Below wo.heap.size wo wr)) (fun _ _ _ i _ => n - (intOf i).toNat)
          case atStart => exact ⟨0, by omega, rfl, rfl, rfl, rfl, hide (Nat.zero_le _), hide (Below.refl _ _)⟩
          case round =>
            obtain ⟨k, hk, rfl, rfl, e8, rfl, hF, hB2⟩ := hrel
            subst e8
            by_cases hlt : k < n
            · obtain ⟨ad, x, rfl, _, hv, q0⟩ := (HR'.out.below hB2.out (Nat.le_refl _)).icell (k := k) (by rw [ni_len]; have := hL.out; omega)
              obtain ⟨hlt2, rfl⟩ := ni_at hv
              clear hv
              have g0 : (0 : Int) ≤ k := by omega
              have g1 : (k : Int) < n := by omega
              have HFS := hide (show first 0 l (k + 1) = first 0 l k + if 0 < l.getD k 0 then multi 0 (dec l k) else 0 from rfl)
              by_cases hy : l.getD k 0 = 0
              · rw [hy] at q0 HFS
                have HFE := hide (show first 0 l (k + 1) = first 0 l k by rw [HFS.out]; simp)
                clear hy
                go_wp2_with fail
                go_roundw
                case rel => exact ⟨k + 1, by omega, by go_num, rfl, rfl, by rw [HFE.out], hide (by rw [HFE.out]; exact hF.out), hB2⟩
                case measure => simp [intOf]; omega
              · have hyp : 0 < l.getD k 0 := by omega
                have Hy0 := hide hyp
                have hy0 : (((l.getD k 0 : Nat) : Int) == 0) = false := by rw [beq_eq_false_iff_ne]; omega
                have HFE := hide (show first 0 l (k + 1) = first 0 l k + multi 0 (dec l k) by rw [HFS.out, if_pos hyp])
                have HDS := hide (show (dec l k).sum + 1 = l.sum from dec_sum hyp)
                have HDL := hide (show (dec l k).length = n by rw [dec_len, hL.out])
                have hcl := hide (fun W A3 c3 (h : I64s W W.heap.size A3 (ni (dec l k))) (hc3 : n ≤ c3) (hm3 : c3 ≤ 9223372036854775807) => refCount_any A3 n c3 (dec l k) W h HDL.out (by have := HDS.out; have := hS.out; omega) hc3 hm3)
                clear hy
                have HMP := hide (multi_pos 0 (dec l k))
                clear hyp HFS
                generalize l.getD k 0 = y at q0 hy0
                generalize hC : multi 0 (dec l k) = C at *
                have HCC := hide hC
                clear hC
                generalize hf : first 0 l k = f at *
                have HFF := hide hf
                clear hf
                by_cases hcmp : m - f < hN C
                · have hd3 : decide (m - f < hN C) = true := by simp; omega
                  have HNX := hide (show m - f < C by unfold hN at hcmp; omega)
                  have HBg := hide (show Begins l m k from ⟨hlt2, Hy0.out, by rw [HFF.out]; exact hF.out, by rw [HFE.out]; have := HNX.out; omega⟩)
                  have hpl : pre.length ≤ 64 := by have := hS.out; omega
                  clear hcmp
                  go_wp2_with (first
                    | (go_at_call 23; refine (HLs.out _ k HR9.out hlt Hy0.out).mono ?_; rintro e w10 ⟨v5, rfl, A5, n5, c5, rfl, h1, h2, h3, h4, h5⟩; have HR10 := hide h4; have HB10 := hide h5; obtain rfl : n = n5 := (by rw [ni_len] at h1; have := HDL.out; omega); have hc5 := h2; have hm5 := h3; clear h1 h2 h3 h4 h5)
                    | (go_at_call 23; refine (HLs.out _ k (stab_rd _ _ _ _ _ HR'.out hB2.out) hlt Hy0.out).mono ?_; rintro e w3 ⟨v3, rfl, A3, n3, c3, rfl, h1, h2, h3, h4, h5⟩; have HB3 := hide (Below.step hB2.out h5); have HR3 := hide (h4.more (R' := fun b => b < w3.heap.size) fun b hb => hb.2); obtain rfl : n = n3 := (by rw [ni_len] at h1; have := HDL.out; omega); have hc3 := h2; have hm4 := h3; clear h1 h2 h3 h4 h5)
                    | (go_at_call 21; refine (hcl.out _ _ _ HR3.out hc3 hm4).mono ?_; rintro e w4 ⟨rfl, hb4⟩; have HB4 := hide (Below.step HB3.out hb4); have HO4 := hide (own_keep hO.out fun g hg => HB4.out.block g (hO.out.lt g hg).2); have HBw := hide (Below.step hB.out HB4.out); clear hb4)
                    | (at_builtin; refine wpList_append_elem rfl _ _ 22 rfl w.heap.size Try.underlying22 info_ei rfl (by decide) _ pre.length _ rfl HO4.out _ _ rfl rfl (by simp [Value.oneCell']) (by simp only [maxLen]; omega) (by omega) HBw.out.size ?_; intro v' w9 hown9 hgr9 hat9; have HO9 := hide hown9; have HB9 := hide (below_own HBw.out HO4.out HBw.out.size hgr9); have HR9 : Hid (I64s w9 w9.heap.size (some ad) (ni l)) := hide ((hR.out.keep fun p hp => (World.cell?_of_block (hgr9.block p.block (by have := HB4.out.size; have := hp.1; omega) (fun e => hp.2 e.symm))).trans (HB4.out.cell hp.1)).more fun b hb => by have := HB4.out.size; have := hgr9.size; have := hb.1; omega); clear hown9 hgr9 hat9))
                  go_roundw
                  case rel => exact ⟨m - f, A5, c5, dec l k, pre ++ [k], rfl, rfl, hc5, hm5, by omega, hide (HR10.out.more fun b hb => ⟨hb.2, fun e => by have := (HO9.out.lt b e).2; have := hb.1; omega⟩), HDL, hide (by have := HDS.out; have := hS.out; rw [List.length_append]; simp; omega), hide (by rw [HCC.out]; exact HNX.out), hide (by rw [ni_snoc, List.length_append]; exact own_keep HO9.out fun g hg => HB10.out.block g (HO9.out.lt g hg).2), hide (Below.step HB9.out HB10.out), hide (fun o ho => by rw [List.append_assoc]; exact hP.out _ (.next HBg.out (by rw [HFF.out]; exact ho)))⟩
                  case measure =>
                    obtain ⟨_, _, e1, _⟩ := own_form HO9.out
                    obtain ⟨_, _, e2, _⟩ := own_form hO.out
                    subst e1; subst e2
                    have := HDS.out; have := hS.out
                    simp [lenV]; omega
                · have hd3 : decide (m - f < hN C) = false := by simp; omega
                  have HCS := hide (show hN C = C by unfold hN at hcmp ⊢; omega)
                  have HW2 := hide (show f + C ≤ m by rw [HCS.out] at hcmp; have := hF.out; omega)
                  rw [HCS.out] at hcl hd3 hcmp
                  have hw : IntKind.u64.wrap (((m - f : Nat) : Int) - (C : Int)) = ((m - (f + C) : Nat) : Int) := by
                    have := HW2.out; rw [IntKind.wrap_u64]; omega
                  go_wp2_with (first
                    | (go_at_call 23; refine (HLs.out _ k (stab_rd _ _ _ _ _ HR'.out hB2.out) hlt Hy0.out).mono ?_; rintro e w3 ⟨v3, rfl, A3, n3, c3, rfl, h1, h2, h3, h4, h5⟩; have HB3 := hide (Below.step hB2.out h5); have HR3 := hide (h4.more (R' := fun b => b < w3.heap.size) fun b hb => hb.2); obtain rfl : n = n3 := (by rw [ni_len] at h1; have := HDL.out; omega); have hc3 := h2; have hm4 := h3; clear h1 h2 h3 h4 h5)
                    | (go_at_call 21; refine (hcl.out _ _ _ HR3.out hc3 hm4).mono ?_; rintro e w4 ⟨rfl, hb4⟩; have HB4 := hide (Below.step HB3.out hb4); clear hb4))
                  go_roundw
                  case rel => exact ⟨k + 1, by omega, by go_num, rfl, rfl, by rw [HFE.out], hide (by rw [HFE.out]; exact HW2.out), HB4⟩
                  case measure => simp [intOf]; omega
            · exfalso
              obtain rfl : n = k := by omega
              have h1 := hF.out; have h2 := hM.out; have h3 := HF.out; rw [hL.out] at h3; omega
    · have hd1 : decide (hN (multi 0 (tn xs)) ≤ N) = true := by rw [HE.out] at hlt; simp; omega
      have Hlt := hide hlt
      clear hlt
      go_enter Try.func9, Try.ntmps9
      go_wp2_with (first
        | (go_at_call 20; refine D1.out.mono ?_; rintro e w1 ⟨v, rfl, A1, n1, c1, rfl, h1, h2, h3, h4, h5⟩; have HB1 := hide h5; have HR1 := hide (h4.more (R' := fun b => b < w1.heap.size) fun b hb => hb.2); have HC := hide (refCount_any A1 n1 c1 (tn xs) w1 HR1.out (by rw [← h1, ni_len]) Hok.out.2.2 h2 h3); clear h1 h2 h3 h4 h5)
        | (go_at_call 21; refine HC.out.mono ?_; rintro e w2 ⟨rfl, hb2⟩; have HB2 := hide (Below.step HB1.out hb2); clear hb2))
      go_ret2
      exact NthGives.no Hlt.out HB2.out
  · have D1 := hide (refRight_no hok C1.out)
    have Hlt := hide (show ¬ N < cntOf xs by rw [cntOf_no hok]; omega)
    clear C1 hok
    go_enter Try.func9, Try.ntmps9
    go_wp2_with (go_at_call 20; refine D1.out.mono ?_; rintro e w1 ⟨v, rfl, h5⟩; have HB1 := hide h5; clear h5)
    go_ret2
    exact NthGives.no Hlt.out HB1.out
end Go.Proofs.Ytpnekmkbedhooaa
