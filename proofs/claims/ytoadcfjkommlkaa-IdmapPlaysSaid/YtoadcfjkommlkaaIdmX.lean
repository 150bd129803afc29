/-
  The walk of IdmapPlays. Conditions: the slice reads as a list of deeds.
-/
import Derived.Test.YtoadcfjkommlkaaIdmU
import Derived.Test.YtoadcfjkommlkaaIdmV
import Derived.Test.YtoadcfjkommlkaaTk2
namespace Go.Proofs.Ytoadcfjkommlkaa
set_option linter.unusedSimpArgs false
set_option linter.unusedVariables false
open Go.RowKit

set_option maxHeartbeats 8000000 in
set_option maxRecDepth 100000 in
theorem plays_any (sh q : Int) (A : Option Addr) (len cap : Nat) (ds : List DeedI) (w : World) (hd : Rd SDI w w.heap.size A ds) (hl : ds.length = len) (hw : ∀ d ∈ ds, (Lit.int .u64 d.2.1).wf = true) (hc : len ≤ cap) (hm : cap ≤ 9223372036854775807) :
    Calls Try.prog 3 #[.int .i64 sh, .slice A len cap, .int .i64 q] w fun e w' => e = .returned (.bool true) ∧ Below w.heap.size w w' := by
  rcases Nat.lt_or_ge 60 len with h1 | h1
  · have b1 : decide ((60 : Int) < len) = true := by simp; omega
    have b0 : decide (60 < len) = true := by simp; omega
    clear hd hl hw
    go_enter Try.func3, Try.ntmps3
    go_wp2_with (go_at_call 5; refine (lives_any _).mono ?_; rintro e w1 ⟨rfl, hb⟩)
    go_ret
    exact ⟨rfl, hb⟩
  have b1 : decide ((60 : Int) < len) = false := by simp; omega
  have b0 : decide (60 < len) = false := by simp; omega
  have HD := hide hd
  have HL := hide hl
  have HW := hide hw
  clear hd hl hw
  by_cases hn : sh < 1 ∨ 64 < sh
  · go_enter Try.func3, Try.ntmps3
    go_wp2_with (first
      | (go_at_call 6; refine (new_bad _ hn _).mono ?_; rintro e _ ⟨rfl, rfl⟩)
      | (go_at_call 7; refine (refNew_bad _ hn _).mono ?_; rintro e w2 ⟨rfl, hb2⟩; have hb3 := Below.step hb2 (below1 w2 (.cells #[.int .i64 0, .slice none 0 0, .int .i64 0] 30)); clear hb2)
      | (go_at_call 5; refine (lives_any _).mono ?_; rintro e w4 ⟨rfl, hb4⟩; have hb5 := Below.step hb3 hb4; clear hb3 hb4))
    go_ret
    exact ⟨rfl, hb5⟩
  obtain ⟨n, rfl⟩ : ∃ n : Nat, sh = n := ⟨sh.toNat, by omega⟩
  have n1 : 1 ≤ n := by omega
  have n2 : n ≤ 64 := by omega
  clear hn
  go_enter Try.func3, Try.ntmps3
  go_wp2_with (first
    | (go_at_call 6; refine (kNew n n1 n2 _).mono ?_; rintro e w1 ⟨M, g, hs, rfl, hk, hhs, hb⟩; have HK := hide hk; have HS := hide hhs; have HB1 := hide hb; clear hk hhs hb)
    | (go_at_call 7; refine (refNew_good n n1 n2 _).mono ?_; rintro e w2 ⟨rfl, hb2⟩; have HP := hide (PI.start HK.out HS.out HB1.out hb2); clear hb2 HK HB1))
  generalize World.alloc w2 _ = w3 at *
  generalize w2.heap.size = X at *
  go_loopw [54] (fun i wr => ∃ (k : Nat) (L : List NamedV) (ver : Int) (v : Value), k ≤ len ∧ i = .int .i64 k ∧ Hid (L.length ≤ k ∧ 0 ≤ ver ∧ ver ≤ k) ∧ Hid (PI w M g hs X L ver v [] wr)) (fun i _ => len - (intOf i).toNat)
  case atStart => exact ⟨0, [], 0, _, by omega, rfl, hide ⟨by simp, by omega, by omega⟩, HP⟩
  case round =>
    obtain ⟨k, L, ver, v, hk, rfl, HLen, HPl⟩ := hrel
    clear HP
    by_cases hlt : k < len
    · obtain ⟨ad, ⟨kd, id, r1, r2⟩, rfl, hbl, hds, c0, c1, c2, c3⟩ := RdR.deedi (HD.out.below HPl.out.bel (Nat.le_refl _)) (k := k) (by have := HL.out; omega)
      simp only at c0 c1 c2 c3
      have HI := hide (HW.out _ (List.mem_of_getElem? hds))
      simp only at HI
      have hk0 : (0 : Int) ≤ k := by omega
      have hkl : (k : Int) < len := by omega
      clear hds hbl
      go_upto_block 2 with fail
      have HPS := hide (HPl.out.box (t := 37) #[.int .i64 kd, .int .u64 id, .int .i64 r1, .int .i64 r2] (by decide) (by decide))
      clear c0 c1 c2 c3
      generalize World.alloc wr (.cells #[.int .i64 kd, .int .u64 id, .int .i64 r1, .int .i64 r2] 37) = W at *
      generalize wr.heap.size = gd at *
      clear HPl
      go_cut [13] (fun s wx => s = .bool true ∧ ∃ (L : List NamedV) (ver : Int) (v : Value), Hid (L.length ≤ k + 1 ∧ 0 ≤ ver ∧ ver ≤ ((k + 1 : Nat) : Int)) ∧ Hid (PI w M g hs X L ver v [(gd, 37, #[.int .i64 kd, .int .u64 id, .int .i64 r1, .int .i64 r2])] wx))
      case first =>
        have Hver := hide (show 0 ≤ ver ∧ ver ≤ 1000000 by have := HLen.out; omega)
        have Hll := hide (show L.length ≤ 1000 by have := HLen.out; omega)
        obtain ⟨AV, cV, rfl, o1, o2⟩ := own_form HPS.out.own
        clear o1 o2
        by_cases h0 : kd = 0
        · subst h0
          have HLen2 := hide (put_len L ver id (r1, r2) HLen.out.1 HLen.out.2)
          have CP := hide (fun W (h : PI w M g hs X L ver (.slice AV L.length cV) [(gd, 37, #[.int .i64 0, .int .u64 id, .int .i64 r1, .int .i64 r2])] W) => refPut_all h.own rfl h.bel.size Hll.out hs.length ver id r1 r2 Hver.out)
          have CK := hide (fun W (h : KAt W w.heap.size M g hs L ver) => kPut h HI.out r1 r2 Hver.out)
          obtain ⟨⟨L', ver'⟩, hpl⟩ : ∃ p, putL L ver id (r1, r2) = p := ⟨_, rfl⟩
          obtain ⟨bo, hbo⟩ : ∃ b, (!(lookF L id).isSome) = b := ⟨_, rfl⟩
          rw [hpl, hbo] at CP CK
          rw [hpl] at HLen2
          simp only at CP CK HLen2
          clear hpl hbo
          obtain ⟨x0, x1, x2⟩ := HPS.out.xc
          obtain ⟨d0, d1, d2, d3⟩ := HPS.out.dc (q := gd) (d := (0, id, r1, r2)) (by simp)
          simp only at d0 d1 d2 d3
          go_upto_region 16 with (go_at_call 8; refine (CP.out _ HPS.out).mono ?_; rintro e w4 ⟨v', rfl, ho4, hb4⟩; have HP4 := hide (HPS.out.step hb4); obtain ⟨A4, c4, rfl, _, _⟩ := own_form ho4; have HO4 := hide ho4; clear ho4 hb4)
          have HP5 := hide (HP4.out.box (t := 30) #[.int .i64 hs.length, .slice A4 L'.length c4, .int .i64 ver'] (by decide) (by decide))
          have HO5 := hide (HO4.out.alloc (.cells #[.int .i64 hs.length, .slice A4 L'.length c4, .int .i64 ver'] 30))
          clear x0 x1 x2 d0 d1 d2 d3 HP4 HO4
          generalize World.alloc w4 _ = w5 at *
          generalize w4.heap.size = gm at *
          obtain ⟨x0, x1, x2⟩ := HP5.out.xc
          obtain ⟨y0, y1, y2⟩ := cell3i (HP5.out.blk (q := gm) (t := 30) (cs := #[.int .i64 hs.length, .slice A4 L'.length c4, .int .i64 ver']) (by simp))
          have f0 := HP5.out.x.frozen 0
          have f1 := HP5.out.x.frozen 1
          have f2 := HP5.out.x.frozen 2
          go_upto_region 17 with fail
          obtain ⟨t1, t2, t3⟩ := HP5.out.turn HO5.out (ver' := ver')
          generalize World.setCell (World.setCell (World.setCell w5 _ _) _ _) _ _ = w6 at t1 t2 t3 ⊢
          have HT1 := hide t1
          have HT3 := hide t3
          obtain ⟨d0, d1, d2, d3⟩ := cell4i (t2 (gd, 37, #[.int .i64 0, .int .u64 id, .int .i64 r1, .int .i64 r2]) (by simp))
          clear x0 x1 x2 y0 y1 y2 f0 f1 f2 t1 t2 t3 HP5 HO5
          have e1 : (bo == bo) = true := by simp
          go_wp2_with (go_at_call 9; refine (CK.out _ HT1.out).mono ?_; rintro e w7 ⟨rfl, hk7, ht7⟩; have P7 := hide ((HT3.out _ hk7 ht7).mono (bx' := [(gd, 37, #[.int .i64 0, .int .u64 id, .int .i64 r1, .int .i64 r2])]) (by simp)); clear hk7 ht7)
          go_meet
          case rel => exact ⟨by first | rfl | (rw [e1]), _, _, _, HLen2, P7⟩
        have e0 : (kd == 0) = false := by simpa using h0
        by_cases h1 : kd = 1
        · subst h1
          have HLen2 := hide (drop_len2 L ver id HLen.out.1 HLen.out.2)
          have CP := hide (fun W (h : PI w M g hs X L ver (.slice AV L.length cV) [(gd, 37, #[.int .i64 1, .int .u64 id, .int .i64 r1, .int .i64 r2])] W) => refDrop_all h.own rfl h.bel.size Hll.out hs.length ver id Hver.out)
          have CK := hide (fun W (h : KAt W w.heap.size M g hs L ver) => kDrop h HI.out Hver.out)
          obtain ⟨⟨L', ver'⟩, hpl⟩ : ∃ p, dropL L ver id = p := ⟨_, rfl⟩
          obtain ⟨bo, hbo⟩ : ∃ b, (lookF L id).isSome = b := ⟨_, rfl⟩
          obtain ⟨⟨q1, q2⟩, hq⟩ : ∃ p, (lookF L id).getD (0, 0) = p := ⟨_, rfl⟩
          rw [hpl, hbo, hq] at CP CK
          rw [hpl] at HLen2
          unfold encR at CP CK
          simp only at CP CK HLen2
          clear hpl hbo hq
          obtain ⟨x0, x1, x2⟩ := HPS.out.xc
          obtain ⟨d0, d1, d2, d3⟩ := HPS.out.dc (q := gd) (d := (1, id, r1, r2)) (by simp)
          simp only at d0 d1 d2 d3
          go_upto_region 20 with (go_at_call 10; refine (CP.out _ HPS.out).mono ?_; rintro e w4 ⟨v', rfl, ho4, hb4⟩; have HP4 := hide (HPS.out.step hb4); obtain ⟨A4, c4, rfl, _, _⟩ := own_form ho4; have HO4 := hide ho4; clear ho4 hb4)
          have hp5 := (HP4.out.box (t := 30) #[.int .i64 hs.length, .slice A4 L'.length c4, .int .i64 ver'] (by decide) (by decide)).box (t := 35) #[.int .i64 q1, .int .i64 q2] (by decide) (by decide)
          rw [show (w4.alloc (.cells #[.int .i64 hs.length, .slice A4 L'.length c4, .int .i64 ver'] 30)).heap.size = w4.heap.size + 1 by simp] at hp5
          have HP5 := hide hp5
          have HO5 := hide ((HO4.out.alloc (.cells #[.int .i64 hs.length, .slice A4 L'.length c4, .int .i64 ver'] 30)).alloc (.cells #[.int .i64 q1, .int .i64 q2] 35))
          clear x0 x1 x2 d0 d1 d2 d3 HP4 HO4 hp5
          generalize World.alloc (World.alloc w4 _) _ = w5 at *
          generalize w4.heap.size + 1 = gq at *
          generalize w4.heap.size = gm at *
          obtain ⟨x0, x1, x2⟩ := HP5.out.xc
          obtain ⟨y0, y1, y2⟩ := cell3i (HP5.out.blk (q := gm) (t := 30) (cs := #[.int .i64 hs.length, .slice A4 L'.length c4, .int .i64 ver']) (by simp))
          have f0 := HP5.out.x.frozen 0
          have f1 := HP5.out.x.frozen 1
          have f2 := HP5.out.x.frozen 2
          go_upto_region 21 with fail
          obtain ⟨t1, t2, t3⟩ := HP5.out.turn HO5.out (ver' := ver')
          generalize World.setCell (World.setCell (World.setCell w5 _ _) _ _) _ _ = w6 at t1 t2 t3 ⊢
          have HT1 := hide t1
          have HT3 := hide t3
          obtain ⟨d0, d1, d2, d3⟩ := cell4i (t2 (gd, 37, #[.int .i64 1, .int .u64 id, .int .i64 r1, .int .i64 r2]) (by simp))
          clear x0 x1 x2 y0 y1 y2 f0 f1 f2 t1 t2 t3 HP5 HO5
          go_upto_region 22 with (go_at_call 11; refine (CK.out _ HT1.out).mono ?_; rintro e w7 ⟨rfl, hk7, ht7⟩; have P7 := hide ((HT3.out _ hk7 ht7).box (t := 35) #[.int .i64 q1, .int .i64 q2] (by decide) (by decide)); clear hk7 ht7)
          generalize World.alloc w7 _ = w8 at *
          generalize w7.heap.size = gs at *
          obtain ⟨a0, a1⟩ := P7.out.rc (q := gq) (a := q1) (b := q2) (by simp)
          obtain ⟨b0, b1⟩ := P7.out.rc (q := gs) (a := q1) (b := q2) (by simp)
          have he := run_eql_ref q1 q1 q2 q2 (r := true) (by simp)
          have e1 : (bo == bo) = true := by simp
          have P8 := hide (P7.out.mono (bx' := [(gd, 37, #[.int .i64 1, .int .u64 id, .int .i64 r1, .int .i64 r2])]) (by simp))
          clear P7 d0 d1 d2 d3
          go_wp2
          go_meet
          case rel => exact ⟨by first | rfl | (rw [e1]), _, _, _, HLen2, P8⟩
        have e1 : (kd == 1) = false := by simpa using h1
        go_wp2
        go_meet
        case rel => exact ⟨rfl, L, ver, _, hide (by have h := HLen.out; exact ⟨by omega, h.2.1, by omega⟩), HPS⟩
      case rest =>
        obtain ⟨rfl, L, ver, v, HLen, HPS⟩ := hcut
        have Hver := hide (show 0 ≤ ver ∧ ver ≤ 1000000 by have := HLen.out; omega)
        have Hll := hide (show L.length ≤ 1000 by have := HLen.out; omega)
        obtain ⟨AV, cV, rfl, o1, o2⟩ := own_form HPS.out.own
        obtain ⟨⟨q1, q2⟩, hq⟩ : ∃ p, (lookF L id).getD (0, 0) = p := ⟨_, rfl⟩
        obtain ⟨bo, hbo⟩ : ∃ b, (lookF L id).isSome = b := ⟨_, rfl⟩
        obtain ⟨sx, hsx⟩ : ∃ s, shardF hs.length id = s := ⟨_, rfl⟩
        obtain ⟨zx, hzx⟩ : ∃ s, sizeR hs.length L q = s := ⟨_, rfl⟩
        have HN := hide HS.out
        have CG := hide (fun W (h : KAt W w.heap.size M g hs L ver) => kGet h HI.out)
        have CR := hide (fun W (h : W.ownsRow w.heap.size 56 3 (.slice AV L.length cV) L.length (fcs encN L)) => refGet_any AV L.length cV L hs.length ver id W (own_rd h) rfl Hll.out)
        have CS := hide (fun W (h : KAt W w.heap.size M g hs L ver) => kShard h id)
        have CRS := hide (fun W => refShard_any hs.length (by have := HN.out; omega) (by have := HN.out; omega) (.slice AV L.length cV) ⟨_, _, _, rfl⟩ ver id W)
        have CZ := hide (fun W (h : KAt W w.heap.size M g hs L ver) => kSize h q)
        have CRZ := hide (fun W (h : W.ownsRow w.heap.size 56 3 (.slice AV L.length cV) L.length (fcs encN L)) => refSize_any AV L.length cV L hs.length ver q W (own_rd h) rfl Hll.out (by have := HN.out; omega) (by have := HN.out; omega))
        rw [hq, hbo] at CG CR
        rw [hsx] at CS CRS
        rw [hzx] at CZ CRZ
        unfold encR at CG CR
        clear hq hbo hsx hzx
        obtain ⟨x0, x1, x2⟩ := HPS.out.xc
        obtain ⟨d0, d1, d2, d3⟩ := HPS.out.dc (q := gd) (d := (kd, id, r1, r2)) (by simp)
        simp only at d0 d1 d2 d3
        go_upto_region 24 with (go_at_call 12; refine (CG.out _ HPS.out.k).mono ?_; rintro e w4 ⟨rfl, hb4⟩; have HP4 := hide ((HPS.out.step hb4).box (t := 35) #[.int .i64 q1, .int .i64 q2] (by decide) (by decide)); clear hb4)
        clear x0 x1 x2 d0 d1 d2 d3 HPS
        generalize World.alloc w4 _ = w5 at *
        generalize w4.heap.size = ga at *
        obtain ⟨x0, x1, x2⟩ := HP4.out.xc
        obtain ⟨d0, d1, d2, d3⟩ := HP4.out.dc (q := gd) (d := (kd, id, r1, r2)) (by simp)
        simp only at d0 d1 d2 d3
        go_upto_region 25 with (go_at_call 13; refine (CR.out _ HP4.out.own).mono ?_; rintro e w6 ⟨rfl, hb6⟩; have HP6 := hide ((HP4.out.step hb6).box (t := 35) #[.int .i64 q1, .int .i64 q2] (by decide) (by decide)); clear hb6)
        clear x0 x1 x2 d0 d1 d2 d3 HP4
        generalize World.alloc w6 _ = wq0 at *
        generalize w6.heap.size = gb at *
        have he := run_neq_ref q1 q1 q2 q2 (r := true) (by simp)
        have e2 : (bo != bo) = false := by simp
        refine startO (S := PI w M g hs X L ver (.slice AV L.length cV) [(gb, 35, #[.int .i64 q1, .int .i64 q2]), (ga, 35, #[.int .i64 q1, .int .i64 q2]), (gd, 37, #[.int .i64 kd, .int .u64 id, .int .i64 r1, .int .i64 r2])]) 55 (by as_aux_lemma => kernel_rfl) (by as_aux_lemma => kernel_rfl) (HP6.out.step (Below.refl _ _).drew) (fun hHeld => ?_)
        clear HP6
        generalize World.drew _ = wl2 at *
        refine putsO [0, 1, 2] [2, 1, 0] [(122, .bool false), (121, .bool false), (120, .bool true)] 3 rfl [120, 121, 122] (by as_aux_lemma => kernel_rfl) (by as_aux_lemma => kernel_rfl) rfl (fun _ _ _ _ _ h => h) hHeld ?_
        refine takeO 3 123 (.load 35 (.const (.pointer (some ⟨ga, 0, none⟩)))) 35 (.agg #[.int .i64 q1, .int .i64 q2]) (by as_aux_lemma => kernel_rfl) (by as_aux_lemma => kernel_rfl) (by as_aux_lemma => kernel_rfl) (fun _ _ _ _ _ h => h) (fun W hS => by obtain ⟨z0, z1⟩ := hS.rc (q := ga) (a := q1) (b := q2) (by simp); clear hS hHeld; unfold cEv opC; as_aux_lemma => first | (go_simp; done) | (go_simp <;> rfl)) hHeld ?_
        refine takeO 4 124 (.load 35 (.const (.pointer (some ⟨gb, 0, none⟩)))) 35 (.agg #[.int .i64 q1, .int .i64 q2]) (by as_aux_lemma => kernel_rfl) (by as_aux_lemma => kernel_rfl) (by as_aux_lemma => kernel_rfl) (fun _ _ _ _ _ h => h) (fun W hS => by obtain ⟨z0, z1⟩ := hS.rc (q := gb) (a := q1) (b := q2) (by simp); clear hS hHeld; unfold cEv opC; as_aux_lemma => first | (go_simp; done) | (go_simp <;> rfl)) hHeld ?_
        refine takeO 5 125 (.binOp .neq 35 (.const (.agg #[.int .i64 q1, .int .i64 q2])) (.const (.agg #[.int .i64 q1, .int .i64 q2])) 35) 4 (.bool false) (by as_aux_lemma => kernel_rfl) (by as_aux_lemma => kernel_rfl) (by as_aux_lemma => kernel_rfl) (fun _ _ _ _ _ h => h) (fun W hS => by clear hS hHeld; unfold cEv opC; as_aux_lemma => first | (go_simp; done) | (go_simp <;> rfl)) hHeld ?_
        refine putsO [6, 7, 8, 9] [9, 8, 7, 6] [(129, .bool bo), (128, .bool bo), (127, .bool false), (126, .bool false)] 4 rfl [126, 127, 128, 129] (by as_aux_lemma => kernel_rfl) (by as_aux_lemma => kernel_rfl) rfl (fun _ _ _ _ _ h => h) hHeld ?_
        refine takeO 10 130 (.binOp .neq 4 (.const (.bool bo)) (.const (.bool bo)) 4) 4 (.bool false) (by as_aux_lemma => kernel_rfl) (by as_aux_lemma => kernel_rfl) (by as_aux_lemma => kernel_rfl) (fun _ _ _ _ _ h => h) (fun W hS => by clear hS hHeld; unfold cEv opC; as_aux_lemma => first | (go_simp; done) | (go_simp <;> rfl)) hHeld ?_
        refine putsO [11, 12, 13] [13, 12, 11] [(133, .pointer (some ⟨M, 0, none⟩)), (132, .bool false), (131, .bool false)] 3 rfl [131, 132, 133] (by as_aux_lemma => kernel_rfl) (by as_aux_lemma => kernel_rfl) rfl (fun _ _ _ _ _ h => h) hHeld ?_
        refine takeO 15 135 (.fieldAddr 30 (.const (.pointer (some ⟨X, 0, none⟩))) 1) 0 (.pointer (some ⟨X, 1, none⟩)) (by as_aux_lemma => kernel_rfl) (by as_aux_lemma => kernel_rfl) (by as_aux_lemma => kernel_rfl) (fun _ _ _ _ _ h => h) (fun W hS => by clear hS hHeld; unfold cEv opC; as_aux_lemma => first | (go_simp; done) | (go_simp <;> rfl)) hHeld ?_
        refine takeO 16 136 (.load 28 (.const (.pointer (some ⟨X, 1, none⟩)))) 28 (.slice AV L.length cV) (by as_aux_lemma => kernel_rfl) (by as_aux_lemma => kernel_rfl) (by as_aux_lemma => kernel_rfl) (fun _ _ _ _ _ h => h) (fun W hS => by obtain ⟨z0, z1, z2⟩ := hS.xc; clear hS hHeld; unfold cEv opC; as_aux_lemma => first | (go_simp; done) | (go_simp <;> rfl)) hHeld ?_
        refine takeO 17 137 (.call { callee := .builtin .len, args := #[.const (.slice AV L.length cV)], argTypes := #[28] }) 3 (.int .i64 L.length) (by as_aux_lemma => kernel_rfl) (by as_aux_lemma => kernel_rfl) (by as_aux_lemma => kernel_rfl) (fun _ _ _ _ _ h => h) (fun W hS => by clear hS hHeld; unfold cEv opC; as_aux_lemma => first | (go_simp; done) | (go_simp <;> rfl)) hHeld ?_
        refine readyO [14] (by as_aux_lemma => kernel_rfl) (by simp) ?_
        refine callO 14 134 (.call { callee := .value (.func 14), args := #[.const (.pointer (some ⟨M, 0, none⟩))], argTypes := #[24] }) 3 14 #[.pointer (some ⟨M, 0, none⟩)] (by as_aux_lemma => kernel_rfl) (by as_aux_lemma => kernel_rfl) (by unfold cEv opC; go_simp) ?_ AllReadyH.nil
        refine (kLen hHeld.k Hll.out).mono ?_
        rintro e _ ⟨rfl, rfl⟩
        refine ⟨_, rfl, hHeld, fun hHeld2 => ?_⟩
        clear hHeld
        have hHeld := hHeld2
        clear hHeld2
        refine takeO 18 138 (.binOp .neq 3 (.const (.int .i64 L.length)) (.const (.int .i64 L.length)) 3) 4 (.bool false) (by as_aux_lemma => kernel_rfl) (by as_aux_lemma => kernel_rfl) (by as_aux_lemma => kernel_rfl) (fun _ _ _ _ _ h => h) (fun W hS => by clear hS hHeld; unfold cEv opC; as_aux_lemma => first | (go_simp; done) | (go_simp <;> rfl)) hHeld ?_
        refine putsO [19, 20, 21] [21, 20, 19] [(141, .pointer (some ⟨M, 0, none⟩)), (140, .bool false), (139, .bool false)] 3 rfl [139, 140, 141] (by as_aux_lemma => kernel_rfl) (by as_aux_lemma => kernel_rfl) rfl (fun _ _ _ _ _ h => h) hHeld ?_
        refine takeO 23 143 (.fieldAddr 30 (.const (.pointer (some ⟨X, 0, none⟩))) 2) 0 (.pointer (some ⟨X, 2, none⟩)) (by as_aux_lemma => kernel_rfl) (by as_aux_lemma => kernel_rfl) (by as_aux_lemma => kernel_rfl) (fun _ _ _ _ _ h => h) (fun W hS => by clear hS hHeld; unfold cEv opC; as_aux_lemma => first | (go_simp; done) | (go_simp <;> rfl)) hHeld ?_
        refine takeO 24 144 (.load 3 (.const (.pointer (some ⟨X, 2, none⟩)))) 3 (.int .i64 ver) (by as_aux_lemma => kernel_rfl) (by as_aux_lemma => kernel_rfl) (by as_aux_lemma => kernel_rfl) (fun _ _ _ _ _ h => h) (fun W hS => by obtain ⟨z0, z1, z2⟩ := hS.xc; clear hS hHeld; unfold cEv opC; as_aux_lemma => first | (go_simp; done) | (go_simp <;> rfl)) hHeld ?_
        refine readyO [22] (by as_aux_lemma => kernel_rfl) (by simp) ?_
        refine callO 22 142 (.call { callee := .value (.func 15), args := #[.const (.pointer (some ⟨M, 0, none⟩))], argTypes := #[24] }) 3 15 #[.pointer (some ⟨M, 0, none⟩)] (by as_aux_lemma => kernel_rfl) (by as_aux_lemma => kernel_rfl) (by unfold cEv opC; go_simp) ?_ AllReadyH.nil
        refine (kVersion hHeld.k).mono ?_
        rintro e _ ⟨rfl, rfl⟩
        refine ⟨_, rfl, hHeld, fun hHeld2 => ?_⟩
        clear hHeld
        have hHeld := hHeld2
        clear hHeld2
        refine takeO 25 145 (.binOp .neq 3 (.const (.int .i64 ver)) (.const (.int .i64 ver)) 3) 4 (.bool false) (by as_aux_lemma => kernel_rfl) (by as_aux_lemma => kernel_rfl) (by as_aux_lemma => kernel_rfl) (fun _ _ _ _ _ h => h) (fun W hS => by clear hS hHeld; unfold cEv opC; as_aux_lemma => first | (go_simp; done) | (go_simp <;> rfl)) hHeld ?_
        refine putsO [26, 27, 28] [28, 27, 26] [(148, .pointer (some ⟨M, 0, none⟩)), (147, .bool false), (146, .bool false)] 3 rfl [146, 147, 148] (by as_aux_lemma => kernel_rfl) (by as_aux_lemma => kernel_rfl) rfl (fun _ _ _ _ _ h => h) hHeld ?_
        refine takeO 29 149 (.fieldAddr 37 (.const (.pointer (some ⟨gd, 0, none⟩))) 1) 0 (.pointer (some ⟨gd, 1, none⟩)) (by as_aux_lemma => kernel_rfl) (by as_aux_lemma => kernel_rfl) (by as_aux_lemma => kernel_rfl) (fun _ _ _ _ _ h => h) (fun W hS => by clear hS hHeld; unfold cEv opC; as_aux_lemma => first | (go_simp; done) | (go_simp <;> rfl)) hHeld ?_
        refine takeO 32 152 (.load 30 (.const (.pointer (some ⟨X, 0, none⟩)))) 30 (.agg #[.int .i64 hs.length, .slice AV L.length cV, .int .i64 ver]) (by as_aux_lemma => kernel_rfl) (by as_aux_lemma => kernel_rfl) (by as_aux_lemma => kernel_rfl) (fun _ _ _ _ _ h => h) (fun W hS => by obtain ⟨z0, z1, z2⟩ := hS.xc; clear hS hHeld; unfold cEv opC; as_aux_lemma => first | (go_simp; done) | (go_simp <;> rfl)) hHeld ?_
        refine takeO 33 153 (.fieldAddr 37 (.const (.pointer (some ⟨gd, 0, none⟩))) 1) 0 (.pointer (some ⟨gd, 1, none⟩)) (by as_aux_lemma => kernel_rfl) (by as_aux_lemma => kernel_rfl) (by as_aux_lemma => kernel_rfl) (fun _ _ _ _ _ h => h) (fun W hS => by clear hS hHeld; unfold cEv opC; as_aux_lemma => first | (go_simp; done) | (go_simp <;> rfl)) hHeld ?_
        refine takeO 30 150 (.load 33 (.const (.pointer (some ⟨gd, 1, none⟩)))) 33 (.int .u64 id) (by as_aux_lemma => kernel_rfl) (by as_aux_lemma => kernel_rfl) (by as_aux_lemma => kernel_rfl) (fun _ _ _ _ _ h => h) (fun W hS => by obtain ⟨z0, z1, z2, z3⟩ := hS.dc (q := gd) (d := (kd, id, r1, r2)) (by simp); simp only at z0 z1 z2 z3; clear hS hHeld; unfold cEv opC; as_aux_lemma => first | (go_simp; done) | (go_simp <;> rfl)) hHeld ?_
        refine takeO 34 154 (.load 33 (.const (.pointer (some ⟨gd, 1, none⟩)))) 33 (.int .u64 id) (by as_aux_lemma => kernel_rfl) (by as_aux_lemma => kernel_rfl) (by as_aux_lemma => kernel_rfl) (fun _ _ _ _ _ h => h) (fun W hS => by obtain ⟨z0, z1, z2, z3⟩ := hS.dc (q := gd) (d := (kd, id, r1, r2)) (by simp); simp only at z0 z1 z2 z3; clear hS hHeld; unfold cEv opC; as_aux_lemma => first | (go_simp; done) | (go_simp <;> rfl)) hHeld ?_
        refine readyO [31] (by as_aux_lemma => kernel_rfl) (by simp) ?_
        refine callO 31 151 (.call { callee := .value (.func 16), args := #[.const (.pointer (some ⟨M, 0, none⟩)), .const (.int .u64 id)], argTypes := #[24, 33] }) 3 16 #[.pointer (some ⟨M, 0, none⟩), .int .u64 id] (by as_aux_lemma => kernel_rfl) (by as_aux_lemma => kernel_rfl) (by unfold cEv opC; go_simp) ?_ AllReadyH.nil
        refine (CS.out _ hHeld.k).mono ?_
        rintro e wq1 ⟨rfl, hv⟩
        refine ⟨_, rfl, (hHeld.step hv), fun hHeld2 => ?_⟩
        clear hHeld
        have hHeld := hHeld2
        clear hHeld2
        clear hv
        refine readyO [35] (by as_aux_lemma => kernel_rfl) (by simp) ?_
        refine callO 35 155 (.call { callee := .value (.func 17), args := #[.const (.agg #[.int .i64 hs.length, .slice AV L.length cV, .int .i64 ver]), .const (.int .u64 id)], argTypes := #[30, 33] }) 3 17 #[.agg #[.int .i64 hs.length, .slice AV L.length cV, .int .i64 ver], .int .u64 id] (by as_aux_lemma => kernel_rfl) (by as_aux_lemma => kernel_rfl) (by unfold cEv opC; go_simp) ?_ AllReadyH.nil
        refine (CRS.out _).mono ?_
        rintro e wq2 ⟨rfl, hv⟩
        refine ⟨_, rfl, (hHeld.step hv), fun hHeld2 => ?_⟩
        clear hHeld
        have hHeld := hHeld2
        clear hHeld2
        clear hv
        refine takeO 36 156 (.binOp .neq 3 (.const (.int .i64 sx)) (.const (.int .i64 sx)) 3) 4 (.bool false) (by as_aux_lemma => kernel_rfl) (by as_aux_lemma => kernel_rfl) (by as_aux_lemma => kernel_rfl) (fun _ _ _ _ _ h => h) (fun W hS => by clear hS hHeld; unfold cEv opC; as_aux_lemma => first | (go_simp; done) | (go_simp <;> rfl)) hHeld ?_
        refine putsO [37, 38, 39, 40, 43] [43, 40, 39, 38, 37] [(163, .int .i64 q), (160, .int .i64 q), (159, .pointer (some ⟨M, 0, none⟩)), (158, .bool false), (157, .bool false)] 5 rfl [157, 158, 159, 160, 163] (by as_aux_lemma => kernel_rfl) (by as_aux_lemma => kernel_rfl) rfl (fun _ _ _ _ _ h => h) hHeld ?_
        refine takeO 42 162 (.load 30 (.const (.pointer (some ⟨X, 0, none⟩)))) 30 (.agg #[.int .i64 hs.length, .slice AV L.length cV, .int .i64 ver]) (by as_aux_lemma => kernel_rfl) (by as_aux_lemma => kernel_rfl) (by as_aux_lemma => kernel_rfl) (fun _ _ _ _ _ h => h) (fun W hS => by obtain ⟨z0, z1, z2⟩ := hS.xc; clear hS hHeld; unfold cEv opC; as_aux_lemma => first | (go_simp; done) | (go_simp <;> rfl)) hHeld ?_
        refine readyO [41] (by as_aux_lemma => kernel_rfl) (by simp) ?_
        refine callO 41 161 (.call { callee := .value (.func 18), args := #[.const (.pointer (some ⟨M, 0, none⟩)), .const (.int .i64 q)], argTypes := #[24, 3] }) 3 18 #[.pointer (some ⟨M, 0, none⟩), .int .i64 q] (by as_aux_lemma => kernel_rfl) (by as_aux_lemma => kernel_rfl) (by unfold cEv opC; go_simp) ?_ AllReadyH.nil
        refine (CZ.out _ hHeld.k).mono ?_
        rintro e _ ⟨rfl, rfl⟩
        refine ⟨_, rfl, hHeld, fun hHeld2 => ?_⟩
        clear hHeld
        have hHeld := hHeld2
        clear hHeld2
        refine readyO [44] (by as_aux_lemma => kernel_rfl) (by simp) ?_
        refine callO 44 164 (.call { callee := .value (.func 19), args := #[.const (.agg #[.int .i64 hs.length, .slice AV L.length cV, .int .i64 ver]), .const (.int .i64 q)], argTypes := #[30, 3] }) 3 19 #[.agg #[.int .i64 hs.length, .slice AV L.length cV, .int .i64 ver], .int .i64 q] (by as_aux_lemma => kernel_rfl) (by as_aux_lemma => kernel_rfl) (by unfold cEv opC; go_simp) ?_ AllReadyH.nil
        refine (CRZ.out _ hHeld.own).mono ?_
        rintro e wq3 ⟨rfl, hv⟩
        refine ⟨_, rfl, (hHeld.step hv), fun hHeld2 => ?_⟩
        clear hHeld
        have hHeld := hHeld2
        clear hHeld2
        clear hv
        refine takeO 45 165 (.binOp .neq 3 (.const (.int .i64 zx)) (.const (.int .i64 zx)) 3) 4 (.bool false) (by as_aux_lemma => kernel_rfl) (by as_aux_lemma => kernel_rfl) (by as_aux_lemma => kernel_rfl) (fun _ _ _ _ _ h => h) (fun W hS => by clear hS hHeld; unfold cEv opC; as_aux_lemma => first | (go_simp; done) | (go_simp <;> rfl)) hHeld ?_
        refine putsO [46, 47, 48] [48, 47, 46] [(168, .pointer (some ⟨M, 0, none⟩)), (167, .bool false), (166, .bool false)] 3 rfl [166, 167, 168] (by as_aux_lemma => kernel_rfl) (by as_aux_lemma => kernel_rfl) rfl (fun _ _ _ _ _ h => h) hHeld ?_
        refine takeO 50 170 (.fieldAddr 30 (.const (.pointer (some ⟨X, 0, none⟩))) 1) 0 (.pointer (some ⟨X, 1, none⟩)) (by as_aux_lemma => kernel_rfl) (by as_aux_lemma => kernel_rfl) (by as_aux_lemma => kernel_rfl) (fun _ _ _ _ _ h => h) (fun W hS => by clear hS hHeld; unfold cEv opC; as_aux_lemma => first | (go_simp; done) | (go_simp <;> rfl)) hHeld ?_
        refine takeO 51 171 (.load 28 (.const (.pointer (some ⟨X, 1, none⟩)))) 28 (.slice AV L.length cV) (by as_aux_lemma => kernel_rfl) (by as_aux_lemma => kernel_rfl) (by as_aux_lemma => kernel_rfl) (fun _ _ _ _ _ h => h) (fun W hS => by obtain ⟨z0, z1, z2⟩ := hS.xc; clear hS hHeld; unfold cEv opC; as_aux_lemma => first | (go_simp; done) | (go_simp <;> rfl)) hHeld ?_
        refine readyO [49] (by as_aux_lemma => kernel_rfl) (by simp) ?_
        refine callO 49 169 (.call { callee := .value (.func 21), args := #[.const (.pointer (some ⟨M, 0, none⟩))], argTypes := #[24] }) 28 21 #[.pointer (some ⟨M, 0, none⟩)] (by as_aux_lemma => kernel_rfl) (by as_aux_lemma => kernel_rfl) (by unfold cEv opC; go_simp) ?_ AllReadyH.nil
        refine (kList hHeld.k Hll.out).mono ?_
        rintro e wq4 ⟨vl, rfl, hol, hbl⟩
        obtain ⟨AL, cL, rfl, kl1, kl2⟩ := own_form hol
        have HRL := hide (own_rd hol)
        clear hol
        refine ⟨_, rfl, (hHeld.step hbl), fun hHeld2 => ?_⟩
        clear hHeld
        have hHeld := hHeld2
        clear hHeld2
        clear hbl
        refine readyO [52] (by as_aux_lemma => kernel_rfl) (by simp) ?_
        refine callO 52 172 (.call { callee := .value (.func 20), args := #[.const (.slice AL L.length cL), .const (.slice AV L.length cV)], argTypes := #[28, 28] }) 4 20 #[.slice AL L.length cL, .slice AV L.length cV] (by as_aux_lemma => kernel_rfl) (by as_aux_lemma => kernel_rfl) (by unfold cEv opC; go_simp) ?_ AllReadyH.nil
        refine (refSame_any AL AV L.length cL L.length cV L L _ HRL.out rfl kl1 kl2 (own_rd hHeld.own) rfl o1 o2).mono ?_
        rintro e wq5 ⟨hev, hdw⟩
        have hev : e = .returned (.bool true) := hev.trans (by simp)
        subst hev
        refine ⟨_, rfl, (hHeld.step hdw.below), fun hHeld2 => ?_⟩
        clear hHeld
        have hHeld := hHeld2
        clear hHeld2
        clear hdw HRL
        refine putsO [53, 54] [54, 53] [(174, .bool false), (173, .bool false)] 2 rfl [173, 174] (by as_aux_lemma => kernel_rfl) (by as_aux_lemma => kernel_rfl) rfl (fun _ _ _ _ _ h => h) hHeld ?_
        refine doneO [(120, .bool true), (0, .bool false), (0, .bool false), (0, .agg #[.int .i64 q1, .int .i64 q2]), (0, .agg #[.int .i64 q1, .int .i64 q2]), (0, .bool false), (0, .bool false), (0, .bool false), (0, .bool bo), (0, .bool bo), (0, .bool false), (0, .bool false), (0, .bool false), (0, .pointer (some ⟨M, 0, none⟩)), (0, .int .i64 L.length), (0, .pointer (some ⟨X, 1, none⟩)), (0, .slice AV L.length cV), (0, .int .i64 L.length), (0, .bool false), (0, .bool false), (0, .bool false), (0, .pointer (some ⟨M, 0, none⟩)), (0, .int .i64 ver), (0, .pointer (some ⟨X, 2, none⟩)), (0, .int .i64 ver), (0, .bool false), (0, .bool false), (0, .bool false), (0, .pointer (some ⟨M, 0, none⟩)), (0, .pointer (some ⟨gd, 1, none⟩)), (0, .int .u64 id), (0, .int .i64 sx), (0, .agg #[.int .i64 hs.length, .slice AV L.length cV, .int .i64 ver]), (0, .pointer (some ⟨gd, 1, none⟩)), (0, .int .u64 id), (0, .int .i64 sx), (0, .bool false), (0, .bool false), (0, .bool false), (0, .pointer (some ⟨M, 0, none⟩)), (0, .int .i64 q), (0, .int .i64 zx), (0, .agg #[.int .i64 hs.length, .slice AV L.length cV, .int .i64 ver]), (0, .int .i64 q), (0, .int .i64 zx), (0, .bool false), (0, .bool false), (0, .bool false), (0, .pointer (some ⟨M, 0, none⟩)), (0, .slice AL L.length cL), (0, .pointer (some ⟨X, 1, none⟩)), (0, .slice AV L.length cV), (0, .bool true), (0, .bool false), (0, .bool false)] (by as_aux_lemma => kernel_rfl) (by as_aux_lemma => kernel_rfl) ?_
        simp only [fillG]
        have HF := hide hHeld
        clear hHeld
        go_wp2
        go_roundw
        case rel => exact ⟨k + 1, L, ver, _, by omega, by go_num, HLen, hide (HF.out.mono (by simp))⟩
        case measure => simp [intOf]; omega
    · have hge : (len : Int) ≤ k := by omega
      go_wp2_with (go_at_call 5; refine (lives_any _).mono ?_; rintro e w2 ⟨rfl, hb2⟩; have hb3 := Below.step HPl.out.bel hb2)
      go_ret
      exact ⟨rfl, hb3⟩
end Go.Proofs.Ytoadcfjkommlkaa
