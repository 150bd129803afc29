/-
  The package explore: Nth. Condition: the slice reads as a list of ints.
-/
import Derived.Test.YtpnekmkbedhooaaExpL
import Derived.Test.YtpnekmkbedhooaaExpE
namespace Go.Proofs.Ytpnekmkbedhooaa
open Go.RowKit

theorem wpList_load_row_w {P : Program} {ops : Array Oper} {rest : List Oper} {o : Oper} {a : Act} {w : World} {Q : Exit → Act → World → Prop} (hw : Region.wanted o (yielded ops a.tmps) = true) (ty : TypeId) (x : Operand) (ho : o.op = .load ty x)
    (g : Nat) (hx : a.eval x = .pointer (some ⟨g, 0, none⟩)) (t : TypeId) (cs : Array Value) (fr : Nat × Nat) (d : TypeDesc) (hg : w.heap[g]? = some (.cells cs t fr))
    (hu : P.underlying ty = some d) (hd : (match d with | .struct _ | .array _ _ => true | _ => false) = true) (hi : (P.info? ty).map (·.size) = some cs.size)
    (h : wpList P ops Q rest (a.put o.dst (.agg cs)) w) : wpList P ops Q (o :: rest) a w :=
  wpList_step fun _ hK => by rw [if_pos hw]; exact wp_load_row ty x ho g hx t cs fr d hg hu hd hi (hK _ _ h)
theorem own_made (w : World) (e : TypeId) (z : Value) (c : Nat) (hc : c ≤ maxLen) : (w.alloc (.cells (rep c z) e)).ownsRow w.heap.size e 1 (.slice (some ⟨w.heap.size, 0, none⟩) 0 c) 0 [] :=
  ⟨rfl, .inr ⟨w.heap.size, c, rep c z, rfl, Nat.le_refl _, heap_alloc_new w _, Nat.zero_le _, hc, by rw [rep_size, Nat.mul_one], by simp⟩⟩
theorem own_base {w : World} {b b' : Nat} {e : TypeId} {size n : Nat} {v : Value} {xs : List Value} (h : w.ownsRow b e size v n xs) (hb : b' ≤ b) : w.ownsRow b' e size v n xs := by
  refine ⟨h.1, ?_⟩
  rcases h.2 with h | ⟨g, cap, cur, h0, h1, h2, h3⟩
  · exact .inl h
  · exact .inr ⟨g, cap, cur, h0, Nat.le_trans hb h1, h2, h3⟩

set_option maxHeartbeats 2000000 in
theorem eNth_any (A : Option Addr) (n c N : Nat) (xs : List Int) (w : World) (hx : I64s w w.heap.size A xs) (hn : xs.length = n) (hc : n ≤ c) (hm : c ≤ 9223372036854775807) (hN' : N < 18446744073709551616) :
    Calls Try.prog 7 #[.slice A n c, .int .u64 N] w (NthGives w xs N) := by
  have hz := z17
  have C1 := hide (eof_any A n c xs w hx hn hc hm)
  clear hx
  by_cases hok : okT xs
  · have D1 := hide (of_ok hok C1.out)
    have HE := hide (cntOf_ok hok)
    have Hok := hide hok
    have HLn := hide (show (tn xs).length ≤ 16 by rw [tn_len]; exact hok.1)
    clear C1 hok
    by_cases hmost : N = 18446744073709551615
    · subst hmost
      have Hlt := hide (show ¬ 18446744073709551615 < cntOf xs by have := cnt_lt xs; omega)
      go_enter Try.func7, Try.ntmps7
      go_wp2_with (first
        | (go_at_call 15; refine D1.out.mono ?_; rintro e w1 ⟨rfl, hb⟩; have HB1 := hide hb; clear hb)
        | (refine wpList_store_row rfl 45 (.tmp 6) (.tmp 16) rfl w1.heap.size rfl 45 _ _ rfl (Blk.new w1 45 _) (i17 _) (by simp [ics]) (ics_one _ _ _) ?_; have HB2 := hide (fresh_below HB1.out HB1.out.size (leftF (tn xs))); generalize (w1.alloc (.cells (ics .i64 (fun _ => 0) 17) 45)).setRow w1.heap.size (ics .i64 (leftF (tn xs)) 17) = w2 at *)
        | (go_at_call 17; refine (triangle_any w2).mono ?_; rintro e w3 ⟨rfl, _, hb⟩; have HB3 := hide (Below.step HB2.out hb); clear hb))
      go_ret2
      exact NthGives.no Hlt.out HB3.out
    have hd2 : ((N : Int) == 18446744073709551615) = false := by rw [beq_eq_false_iff_ne]; omega
    by_cases hlt : N < cntOf xs
    · obtain ⟨_, hm1, hm2⟩ := cnt_ok hlt
      have HM1 := hide hm1
      have hd1 : decide (hN (multi 0 (tn xs)) ≤ N) = false := by rw [HE.out] at hlt; simp; omega
      have Hlt := hide hlt
      have HTL := hide (tn_len xs)
      have hmk : ∀ W : World, (Instr.makeSlice 22 (.int .i64 0) (.int .i64 (leftF (tn xs) 16))).run Try.prog W = .ok (.slice (some ⟨W.heap.size, 0, none⟩) 0 (tn xs).sum) (W.alloc (.cells (rep (tn xs).sum (.int .i64 0)) 3)) := fun W => by
        rw [show leftF (tn xs) 16 = (((tn xs).sum : Nat) : Int) from rfl]
        exact run_make_rep Try.underlying22 info_ei rfl .i64 .i64 0 (tn xs).sum (Nat.zero_le _) (by have := Hok.out.2.2; omega) (by have := Hok.out.2.2; omega) W
      clear hlt hm1 hmost
      go_enter Try.func7, Try.ntmps7
      go_upto_region 5 with (first
        | (go_at_call 15; refine D1.out.mono ?_; rintro e w1 ⟨rfl, hb⟩; have HB1 := hide hb; clear hb)
        | (refine wpList_store_row rfl 45 (.tmp 6) (.tmp 16) rfl w1.heap.size rfl 45 _ _ rfl (Blk.new w1 45 _) (i17 _) (by simp [ics]) (ics_one _ _ _) ?_; have HB2 := hide (fresh_below HB1.out HB1.out.size (leftF (tn xs))); have HL2 := hide (Lf.fresh w1 (leftF (tn xs))); have HLb := hide HB1.out.size; generalize (w1.alloc (.cells (ics .i64 (fun _ => 0) 17) 45)).setRow w1.heap.size (ics .i64 (leftF (tn xs)) 17) = w2 at *; generalize w1.heap.size = lb at *)
        | (go_at_call 17; refine (triangle_any w2).mono ?_; rintro e w3 ⟨rfl, ht, hb⟩; have HB3 := hide (Below.step HB2.out hb); have HT3 := hide ht; have HL3 := hide (HL2.out.below hb HL2.out.lt); generalize w2.heap.size = tg at *; clear ht hb)
        | (refine wpList_load_row_w rfl 45 (.tmp 6) rfl lb rfl 45 _ (0, 0) _ HL3.out Try.underlying45 rfl (i17 _) ?_)
        | (go_at_call 16; refine (count_any tg (tn xs) w3 HT3.out HLn.out Hok.out.2.2).mono ?_; rintro e w4 ⟨rfl, hb⟩; have HB4 := hide (Below.step HB3.out hb); have HT4 := hide (HT3.out.below hb HT3.out.lt); have HL4 := hide (HL3.out.below hb HL3.out.lt); clear hb))
      have HLT := hide (Blk.ne_ HL4.out HT4.out (by decide))
      have HLs := hide HL4.out.lt
      have HTs := hide HT4.out.lt
      have qa : w4.cell? ⟨lb, 16, none⟩ = some (.int .i64 (leftF (tn xs) 16)) := by rw [HL4.out.cell, ics_get _ _ _ _ (by omega)]
      have HO0 := hide (own_base (own_made w4 3 (.int .i64 0) (tn xs).sum (by have := Hok.out.2.2; simp only [maxLen]; omega)) HB4.out.size)
      have HB5 := hide (HB4.out.trans ((below1 w4 (.cells (rep (tn xs).sum (.int .i64 0)) 3)).mono HB4.out.size))
      have HL5 := hide (HL4.out.alloc (.cells (rep (tn xs).sum (.int .i64 0)) 3))
      have HT5 := hide (HT4.out.alloc (.cells (rep (tn xs).sum (.int .i64 0)) 3))
      go_upto_region 7 with fail
      clear qa hmk
      generalize w4.alloc (.cells (rep (tn xs).sum (.int .i64 0)) 3) = w5 at *
      generalize Value.slice (some ⟨w4.heap.size, 0, none⟩) 0 (tn xs).sum = v0 at *
      go_loopw [1, 9, 10, 11, 12] (fun nv v wv _ _ wr => ∃ (M k : Nat) (l pre : List Nat), nv = .int .u64 ((M - first 0 l k : Nat) : Int) ∧ wv = .int .i64 k ∧ k ≤ n ∧ M < 18446744073709551615 ∧ Hid (first 0 l k ≤ M) ∧ Hid (M < multi 0 l) ∧ Hid (l.length = n) ∧ Hid (pre.length + l.sum ≤ 64) ∧ Hid (Lf wr lb (leftF l)) ∧ Hid (Tri wr tg) ∧ Hid (wr.ownsRow w.heap.size 3 1 v pre.length ((ni pre).map (Value.int .i64))) ∧ Hid (Below w.heap.size w wr) ∧ Hid (∀ o, Nth l M o → Nth (tn xs) N (pre ++ o))) (fun _ v wv _ _ _ => (64 - lenV v) * 17 + (16 - (intOf wv).toNat))
      case atStart => exact ⟨N, 0, tn xs, [], rfl, rfl, Nat.zero_le _, hm2, hide (Nat.zero_le _), HM1, hide (by rw [HTL.out, hn]), hide (by have := Hok.out.2.2; simpa using this), HL5, HT5, HO0, HB5, hide (fun o h => h)⟩
      case round =>
        clear HB1 HB2 HL2 HB3 HL3 HT3 HB4 HT4 HL4 HO0 HB5 HL5 HT5 HLs HTs
        obtain ⟨M, k, l, pre, rfl, rfl, hk, hM9, hF, hM, hL, hS, hLf, hT, hO, hB, hP⟩ := hrel
        have h16 : n ≤ 16 := by have := Hok.out.1; omega
        obtain ⟨T, hTT⟩ : ∃ T : Int, T = ((l.sum : Nat) : Int) := ⟨_, rfl⟩
        have qT : wr.cell? ⟨lb, 16, none⟩ = some (.int .i64 T) := by rw [hLf.out.cell, ics_get _ _ _ _ (by omega), hTT]; rfl
        rcases Nat.eq_zero_or_pos l.sum with h0 | h0
        · have hz0 : decide (0 < T) = false := by simp; omega
          have Hz := hide h0
          clear hTT h0
          go_wp2
          go_ret2
          have hm0 : M = 0 := by have := hM.out; rw [multi_zero Hz.out] at this; omega
          subst hm0
          exact .inl ⟨Hlt.out, _, pre, rfl, by have := hP.out [] (.last Hz.out); simpa using this, NewInts.of_own hO.out hB.out⟩
        · have hp : decide (0 < T) = true := by simp; omega
          clear hTT
          have HF := hide (multi_first h0)
          have hkn : k < n := by
            rcases Nat.lt_or_ge k n with h | h
            · exact h
            · exfalso
              obtain rfl : k = n := by omega
              have h1 := hF.out; have h2 := hM.out; have h3 := HF.out; rw [hL.out] at h3; omega
          have Hp := hide h0
          clear h0
          have g0 : (0 : Int) ≤ k := by omega
          have g1 : (k : Int) < 16 := by omega
          have HFS := hide (show first 0 l (k + 1) = first 0 l k + if 0 < l.getD k 0 then multi 0 (dec l k) else 0 from rfl)
          obtain ⟨y, hyy⟩ : ∃ y : Int, y = ((l.getD k 0 : Nat) : Int) := ⟨_, rfl⟩
          have qk : wr.cell? ⟨lb, k, none⟩ = some (.int .i64 y) := by rw [hLf.out.cell, ics_get _ _ _ _ (by omega), leftF, if_pos (by omega), hyy]
          have hww : IntKind.i64.wrap ((k : Int) + 1) = ((k + 1 : Nat) : Int) := by rw [IntKind.wrap_i64]; omega
          by_cases hy : l.getD k 0 = 0
          · have HFE := hide (show first 0 l (k + 1) = first 0 l k by rw [HFS.out, if_neg (by omega)]; rfl)
            have hy0 : decide (0 < y) = false := by simp; omega
            clear hyy hy
            go_wp2
            go_roundw
            case rel => exact ⟨M, k + 1, l, pre, by rw [HFE.out], by go_num, by omega, hM9, hide (by rw [HFE.out]; exact hF.out), hM, hL, hS, hLf, hT, hO, hB, hP⟩
            case measure => simp [intOf]; omega
          · have hyp : 0 < l.getD k 0 := by omega
            have Hy0 := hide hyp
            have hy0 : decide (0 < y) = true := by simp; omega
            have HFE := hide (show first 0 l (k + 1) = first 0 l k + multi 0 (dec l k) by rw [HFS.out, if_pos hyp])
            have HDS := hide (show (dec l k).sum + 1 = l.sum from dec_sum hyp)
            have HDL := hide (show (dec l k).length = n by rw [dec_len, hL.out])
            have HMP := hide (multi_pos 0 (dec l k))
            have HWo := hide (fun W => without_any l k W (by rw [hL.out]; omega) (by rw [hL.out]; exact hkn) hyp (by have := hS.out; omega))
            have HCo := hide (fun W (h : Tri W tg) => count_any tg (dec l k) W h (by rw [HDL.out]; omega) (by have := HDS.out; have := hS.out; omega))
            have Hkl := hide (show k < l.length by rw [hL.out]; exact hkn)
            clear hyy hy hyp HFS
            generalize hC : multi 0 (dec l k) = C at *
            have HCC := hide hC
            clear hC
            generalize hf : first 0 l k = f at *
            have HFF := hide hf
            clear hf
            have HN1 := hide (own_blk_ne hO.out hLf.out (by decide))
            have HN2 := hide (own_blk_ne hO.out hT.out (by decide))
            by_cases hcmp : M - f < hN C
            · have hd3 : decide (M - f < hN C) = true := by simp; omega
              have HNX := hide (show M - f < C by unfold hN at hcmp; omega)
              have HBg := hide (show Begins l M k from ⟨Hkl.out, Hy0.out, by rw [HFF.out]; exact hF.out, by rw [HFE.out]; have := HNX.out; omega⟩)
              have hpl : pre.length ≤ 64 := by have := hS.out; omega
              clear hcmp
              go_wp2_with (first
                | (refine wpList_load_row rfl 45 (.tmp 6) rfl lb rfl 45 _ (0, 0) _ hLf.out Try.underlying45 rfl (i17 _) ?_)
                | (refine wpList_load_row rfl 45 (.tmp 11) rfl nb rfl 45 (ics .i64 (leftF (dec l k)) 17) (0, 0) _ HN9.out Try.underlying45 rfl (i17 _) ?_)
                | (refine wpList_load_row rfl 45 (.tmp 11) rfl nb rfl 45 (ics .i64 (leftF (dec l k)) 17) (0, 0) _ HN7.out Try.underlying45 rfl (i17 _) ?_)
                | (go_at_call 18; refine (HWo.out _).mono ?_; rintro e w6 ⟨rfl, hb⟩; have HB6 := hide (Below.step hB.out hb); have HX6 := hide hb; clear hb)
                | (refine wpList_store_row rfl 45 (.tmp 11) (.tmp 45) rfl w6.heap.size rfl 45 _ (ics .i64 (leftF (dec l k)) 17) rfl (Blk.new w6 45 _) (i17 _) (by simp [ics]) (ics_one _ _ _) ?_; have HX7 := hide (fresh_below HX6.out HX6.out.size (leftF (dec l k))); have HB7 := hide (fresh_below HB6.out HB6.out.size (leftF (dec l k))); have HN7 := hide (Lf.fresh w6 (leftF (dec l k))); generalize (w6.alloc (.cells (ics .i64 (fun _ => 0) 17) 45)).setRow w6.heap.size (ics .i64 (leftF (dec l k)) 17) = w7 at *; generalize w6.heap.size = nb at *)
                | (go_at_call 16; refine (HCo.out _ (hT.out.below HX7.out hT.out.lt)).mono ?_; rintro e w8 ⟨rfl, hb⟩; have HX8 := hide (HX7.out.trans (hb.mono HX7.out.size)); have HB8 := hide (HB7.out.trans (hb.mono HB7.out.size)); have HN8 := hide (HN7.out.below hb HN7.out.lt); have HL8 := hide (hLf.out.below HX8.out hLf.out.lt); have HT8 := hide (hT.out.below HX8.out hT.out.lt); have HO8 := hide (own_keep hO.out fun g hg => HX8.out.block g (hO.out.lt g hg).2); have HN3 := hide (own_blk_ne HO8.out HN8.out (by decide)); clear hb)
                | (at_builtin; refine wpList_append_elem rfl _ _ 22 rfl w.heap.size Try.underlying22 info_ei rfl (by decide) _ pre.length _ rfl HO8.out _ _ rfl rfl (by simp [Value.oneCell']) (by simp only [maxLen]; omega) (by omega) HB8.out.size ?_; intro v' w9 hown9 hgr9 hat9; have HO9 := hide hown9; have HB9 := hide (below_own HB8.out HO8.out HB8.out.size hgr9); have HL9 := hide (HL8.out.grown hgr9 (fun e => HN1.out e.symm)); have HT9 := hide (HT8.out.grown hgr9 (fun e => HN2.out e.symm)); have HN9 := hide (HN8.out.grown hgr9 (fun e => HN3.out e.symm)); clear hown9 hgr9 hat9)
                | (refine wpList_store_row rfl 45 (.tmp 6) (.tmp 56) rfl lb rfl 45 _ (ics .i64 (leftF (dec l k)) 17) rfl HL9.out (i17 _) (by simp [ics]) (ics_one _ _ _) ?_; have HL10 := hide (HL9.out.setRow (ics .i64 (leftF (dec l k)) 17)); have HT10 := hide (HT9.out.setRow_far (fun e => HLT.out e.symm) (ics .i64 (leftF (dec l k)) 17)); have HO10 := hide (own_keep (w' := w9.setRow lb (ics .i64 (leftF (dec l k)) 17)) HO9.out fun g hg => setRow_other _ _ _ _ (fun e => own_blk_ne HO9.out HL9.out (by decide) (e ▸ hg))); have HB10 := hide (below_setRow HB9.out HLb.out (ics .i64 (leftF (dec l k)) 17)); generalize w9.setRow lb (ics .i64 (leftF (dec l k)) 17) = w10 at *))
              refine ⟨⟨M - f, 0, dec l k, pre ++ [k], by rw [show first 0 (dec l k) 0 = 0 from rfl, Nat.sub_zero], rfl, Nat.zero_le _, by omega, hide (Nat.zero_le _), hide (by rw [HCC.out]; exact HNX.out), HDL, hide (by have := HDS.out; have := hS.out; rw [List.length_append]; simp; omega), HL10, HT10, hide (by rw [ni_snoc, List.length_append]; exact HO10.out), HB10, hide (fun o ho => by rw [List.append_assoc]; exact hP.out _ (.next HBg.out (by rw [HFF.out]; exact ho)))⟩, ?_⟩
              obtain ⟨_, _, e1, _⟩ := own_form HO10.out
              obtain ⟨_, _, e2, _⟩ := own_form hO.out
              subst e1; subst e2
              have := HDS.out; have := hS.out
              simp [lenV, intOf]; omega
            · have hd3 : decide (M - f < hN C) = false := by simp; omega
              have HCS := hide (show hN C = C by unfold hN at hcmp ⊢; omega)
              have HW2 := hide (show f + C ≤ M by rw [HCS.out] at hcmp; have := hF.out; omega)
              rw [HCS.out] at HCo hd3 hcmp
              have hw : IntKind.u64.wrap (((M - f : Nat) : Int) - (C : Int)) = ((M - (f + C) : Nat) : Int) := by
                have := HW2.out; rw [IntKind.wrap_u64]; omega
              go_wp2_with (first
                | (refine wpList_load_row rfl 45 (.tmp 6) rfl lb rfl 45 _ (0, 0) _ hLf.out Try.underlying45 rfl (i17 _) ?_)
                | (refine wpList_load_row rfl 45 (.tmp 11) rfl nb rfl 45 (ics .i64 (leftF (dec l k)) 17) (0, 0) _ HN7.out Try.underlying45 rfl (i17 _) ?_)
                | (go_at_call 18; refine (HWo.out _).mono ?_; rintro e w6 ⟨rfl, hb⟩; have HB6 := hide (Below.step hB.out hb); have HX6 := hide hb; clear hb)
                | (refine wpList_store_row rfl 45 (.tmp 11) (.tmp 45) rfl w6.heap.size rfl 45 _ (ics .i64 (leftF (dec l k)) 17) rfl (Blk.new w6 45 _) (i17 _) (by simp [ics]) (ics_one _ _ _) ?_; have HX7 := hide (fresh_below HX6.out HX6.out.size (leftF (dec l k))); have HB7 := hide (fresh_below HB6.out HB6.out.size (leftF (dec l k))); have HN7 := hide (Lf.fresh w6 (leftF (dec l k))); generalize (w6.alloc (.cells (ics .i64 (fun _ => 0) 17) 45)).setRow w6.heap.size (ics .i64 (leftF (dec l k)) 17) = w7 at *; generalize w6.heap.size = nb at *)
                | (go_at_call 16; refine (HCo.out _ (hT.out.below HX7.out hT.out.lt)).mono ?_; rintro e w8 ⟨rfl, hb⟩; have HX8 := hide (HX7.out.trans (hb.mono HX7.out.size)); have HB8 := hide (HB7.out.trans (hb.mono HB7.out.size)); have HL8 := hide (hLf.out.below HX8.out hLf.out.lt); have HT8 := hide (hT.out.below HX8.out hT.out.lt); have HO8 := hide (own_keep hO.out fun g hg => HX8.out.block g (hO.out.lt g hg).2); clear hb))
              refine ⟨⟨M, k + 1, l, pre, by rw [HFE.out], by go_num, by omega, hM9, hide (by rw [HFE.out]; exact HW2.out), hM, hL, hS, HL8, HT8, HO8, HB8, hP⟩, ?_⟩
              simp [intOf]; omega
    · have hd1 : decide (hN (multi 0 (tn xs)) ≤ N) = true := by rw [HE.out] at hlt; simp; omega
      have Hlt := hide hlt
      clear hlt hmost
      go_enter Try.func7, Try.ntmps7
      go_wp2_with (first
        | (go_at_call 15; refine D1.out.mono ?_; rintro e w1 ⟨rfl, hb⟩; have HB1 := hide hb; clear hb)
        | (refine wpList_store_row rfl 45 (.tmp 6) (.tmp 16) rfl w1.heap.size rfl 45 _ _ rfl (Blk.new w1 45 _) (i17 _) (by simp [ics]) (ics_one _ _ _) ?_; have HB2 := hide (fresh_below HB1.out HB1.out.size (leftF (tn xs))); have HL2 := hide (Lf.fresh w1 (leftF (tn xs))); have HLb := hide HB1.out.size; generalize (w1.alloc (.cells (ics .i64 (fun _ => 0) 17) 45)).setRow w1.heap.size (ics .i64 (leftF (tn xs)) 17) = w2 at *; generalize w1.heap.size = lb at *)
        | (go_at_call 17; refine (triangle_any w2).mono ?_; rintro e w3 ⟨rfl, ht, hb⟩; have HB3 := hide (Below.step HB2.out hb); have HT3 := hide ht; have HL3 := hide (HL2.out.below hb HL2.out.lt); generalize w2.heap.size = tg at *; clear ht hb)
        | (refine wpList_load_row_w rfl 45 (.tmp 6) rfl lb rfl 45 _ (0, 0) _ HL3.out Try.underlying45 rfl (i17 _) ?_)
        | (go_at_call 16; refine (count_any tg (tn xs) w3 HT3.out HLn.out Hok.out.2.2).mono ?_; rintro e w4 ⟨rfl, hb⟩; have HB4 := hide (Below.step HB3.out hb); clear hb))
      go_ret2
      exact NthGives.no Hlt.out HB4.out
  · have D1 := hide (of_no hok C1.out)
    have Hlt := hide (show ¬ N < cntOf xs by rw [cntOf_no hok]; omega)
    clear C1 hok
    go_enter Try.func7, Try.ntmps7
    go_wp2_with (first
      | (go_at_call 15; refine D1.out.mono ?_; rintro e w1 ⟨⟨f, rfl⟩, hb⟩; have HB1 := hide hb; clear hb)
      | (refine wpList_store_row rfl 45 (.tmp 6) (.tmp 16) rfl w1.heap.size rfl 45 _ _ rfl (Blk.new w1 45 _) (i17 _) (by simp [ics]) (ics_one _ _ _) ?_; have HB2 := hide (fresh_below HB1.out HB1.out.size f); generalize (w1.alloc (.cells (ics .i64 (fun _ => 0) 17) 45)).setRow w1.heap.size (ics .i64 f 17) = w2 at *)
      | (go_at_call 17; refine (triangle_any w2).mono ?_; rintro e w3 ⟨rfl, _, hb⟩; have HB3 := hide (Below.step HB2.out hb); clear hb))
    go_ret2
    exact NthGives.no Hlt.out HB3.out
end Go.Proofs.Ytpnekmkbedhooaa
