/-
  The law BeamTells: the walk. Conditions: the slices read as lists.
-/
import Derived.Test.YtphbdffgeeicaabGreatMgG
import Derived.Test.YtphbdffgeeicaabGreatMgO
import Derived.Test.YtphbdffgeeicaabGreatWlkH
import Derived.Test.YtphbdffgeeicaabGreatHitS
namespace Go.Proofs.YtphbdffgeeicaabGreat
set_option linter.unusedSimpArgs false
set_option linter.unusedVariables false
open Go.RowKit

theorem DownR.same {ns : List NodeP} {q : List Int} : ∀ {k : Nat} {a d e : Int}, DownR ns q k a d → DownR ns q k a e → d = e
  | 0, a, d, e, h1, h2 => by rw [show d = a from h1, show e = a from h2]
  | k + 1, a, d, e, ⟨p, t, w1, h1, r1⟩, ⟨p', t', w2, h2, r2⟩ => by
    obtain rfl := w1.same w2
    rw [h1] at h2
    injection h2 with h2
    subst h2
    exact DownR.same r1 r2
theorem StartR.same {ns : List NodeP} {q : List Int} {en top : Int} {l m : List Int} (h : StartR ns q en top l) (k : StartR ns q en top m) : l = m := by
  obtain ⟨d, h⟩ := h
  obtain ⟨e, k⟩ := k
  by_cases ht : thereF ns en = true
  · rw [if_pos ht] at h k
    rw [h.2, k.2, DownR.same h.1 k.1]
  · rw [if_neg ht] at h k
    rw [h, k]
theorem sameT {W : World} (A B : Option Addr) (n c d : Nat) (L : List Spt) (hx : Rd SP W W.heap.size A L) (hn : L.length = n) (hc : n ≤ c) (hm : c ≤ 9223372036854775807) (hy : Rd SP W W.heap.size B L) (hd : n ≤ d) (hm' : d ≤ 9223372036854775807) : Calls Tryz.prog 6 #[.slice A n c, .slice B n d] W fun e w' => e = .returned (.bool true) ∧ Below W.heap.size W w' :=
  (same_any A B n c n d L L W hx hn hc hm hy hn hd hm').mono fun _ _ ⟨h, hd⟩ => ⟨by rw [h]; simp, hd.below⟩
theorem sameHT {W : World} (A B : Option Addr) (n c d : Nat) (L : List Hit) (hx : Rd SH W W.heap.size A L) (hn : L.length = n) (hc : n ≤ c) (hm : c ≤ 9223372036854775807) (hy : Rd SH W W.heap.size B L) (hd : n ≤ d) (hm' : d ≤ 9223372036854775807) : Calls Tryz.prog 11 #[.slice A n c, .slice B n d] W fun e w' => e = .returned (.bool true) ∧ Below W.heap.size W w' :=
  (sameHits_any A B n c n d L L W hx hn hc hm hy hn hd hm').mono fun _ _ ⟨h, hd⟩ => ⟨by rw [h]; simp, hd.below⟩
section
variable {w : World} {N : Option Addr} {nn cN : Nat} {ns : List NodeP} {en top : Int} {Aq Al : Option Addr} {nq cq nl cl : Nat} {qs l : List Int}
set_option maxHeartbeats 16000000 in
set_option maxRecDepth 100000 in
theorem beamTells_any (hx : Rd SNode w w.heap.size N ns) (hn : ns.length = nn) (hc : nn ≤ cN) (hm : cN ≤ 9223372036854775807) (hok : ∀ x ∈ ns, OkN x)
    (hq : Rd (Sh.int .i32) w w.heap.size Aq qs) (hnq : qs.length = nq) (hcq : nq ≤ cq) (hcq2 : cq ≤ 9223372036854775807) (hqi : I32 qs) (mask kk ef : Int) (hmk : 0 ≤ mask ∧ mask ≤ 18446744073709551615) (hl : Rd (Sh.int .i64) w w.heap.size Al l) (hnl : l.length = nl) (level : Int) :
    Calls Tryz.prog 3 #[.agg #[.slice N nn cN, .int .i64 en, .int .i64 top], .slice Aq nq cq, .int .u64 mask, .int .i64 kk, .int .i64 ef, .slice Al nl cl, .int .i64 level] w fun e w' => e = .returned (.bool true) ∧ Below w.heap.size w w' := by
  have HP1 := hide (PlB.start w #[.slice N nn cN, .int .i64 en, .int .i64 top])
  have HSm := hide (fun (W : World) (hb : Below w.heap.size w W) => small_any (en := en) (top := top) (hx.at_world hb) hn hc hm)
  have HPl := hide (fun (h : SmallP ns) => (⟨hx, hn, hok, h.2, by have := h.1; omega, hq, hnq, hcq, hcq2, hqi⟩ : PlW w N nn ns Aq nq cq qs))
  have HMk := hide hmk
  have HL := hide hl
  have HNl := hide hnl
  clear hx hn hok hq hnq hqi hmk hl hnl
  go_enter Tryz.func3, Tryz.ntmps3
  go_upto_region 1 with fail
  generalize World.alloc w _ = w1 at *
  obtain ⟨b7, hb7⟩ : ∃ b, w.heap.size = b := ⟨_, rfl⟩
  rw [hb7] at HP1
  rw [hb7]
  clear hb7
  obtain ⟨p0, p1, p2⟩ := HP1.out.cells
  go_wp2_with fail
  refine (HSm.out _ HP1.out.bel).mono ?_
  rintro e w3 ⟨⟨rfl, hs⟩ | ⟨rfl, hs⟩, hb3⟩
  case inr =>
    have HB3 := hide (Below.step HP1.out.bel hb3)
    clear hb3 hs
    go_wp2_with (go_at_call 5; refine (lives_any _).mono ?_; rintro e w4 ⟨rfl, hb4⟩; have HB4 := hide (Below.step HB3.out hb4); clear hb4)
    go_ret
    exact ⟨rfl, HB4.out⟩
  have HP3 := hide (HP1.out.step hb3)
  have HPw := hide (HPl.out hs)
  clear hb3 hs HPl HSm HP1 p0 p1 p2
  by_cases h50 : 50 < nq
  · have e1 : decide ((50 : Int) < nq) = true := by simp; omega
    have e0 : decide (50 < nq) = true := by simp; omega
    have HB3 := hide HP3.out.bel
    clear HP3
    go_wp2_with (go_at_call 5; refine (lives_any _).mono ?_; rintro e w4 ⟨rfl, hb4⟩; have HB4 := hide (Below.step HB3.out hb4); clear hb4)
    go_ret
    exact ⟨rfl, HB4.out⟩
  have e1 : decide ((50 : Int) < nq) = false := by simp; omega
  have e0 : decide (50 < nq) = false := by simp; omega
  by_cases h30 : 30 < nl
  · have e3 : decide ((30 : Int) < nl) = true := by simp; omega
    have e2 : decide (30 < nl) = true := by simp; omega
    have HB3 := hide HP3.out.bel
    clear HP3
    go_wp2_with (go_at_call 5; refine (lives_any _).mono ?_; rintro e w4 ⟨rfl, hb4⟩; have HB4 := hide (Below.step HB3.out hb4); clear hb4)
    go_ret
    exact ⟨rfl, HB4.out⟩
  have e3 : decide ((30 : Int) < nl) = false := by simp; omega
  have e2 : decide (30 < nl) = false := by simp; omega
  go_upto_region 3 with fail
  have HX := hide (HP3.out.step (Below.refl _ _).drew)
  clear HP3 e0 e1 e2 e3
  refine startO (S := (PlB w b7 #[.slice N nn cN, .int .i64 en, .int .i64 top])) 60 (by as_aux_lemma => kernel_rfl) (by as_aux_lemma => kernel_rfl) HX.out (fun hHeld => ?_)
  generalize World.drew _ = W0 at *
  refine readyO [0] (by as_aux_lemma => kernel_rfl) (by simp) ?_
  refine callO 0 29 (.call { callee := .value (.func 5), args := #[], argTypes := #[] }) 4 5 #[] (by as_aux_lemma => kernel_rfl) (by as_aux_lemma => kernel_rfl) (by unfold cEv opC; go_simp) ?_ AllReadyH.nil
  refine (lives_any _).mono ?_
  rintro e W1 ⟨rfl, hb⟩
  replace HX := hide (HX.out.step hb)
  clear hb
  refine ⟨_, rfl, HX.out, fun hHeld2 => ?_⟩
  clear hHeld
  have hHeld := hHeld2
  clear hHeld2
  refine putsO [1, 3, 4, 5, 6, 7, 10, 11, 12, 13, 14] [14, 13, 12, 11, 10, 7, 6, 5, 4, 3, 1] [(43, .int .i64 level), (42, .slice Al nl cl), (41, .int .i64 ef), (40, .int .u64 mask), (39, .slice Aq nq cq), (36, .int .i64 level), (35, .slice Al nl cl), (34, .int .i64 ef), (33, .int .u64 mask), (32, .slice Aq nq cq), (30, .bool true)] 11 rfl [30, 32, 33, 34, 35, 36, 39, 40, 41, 42, 43] (by as_aux_lemma => kernel_rfl) (by as_aux_lemma => kernel_rfl) rfl (fun _ _ _ _ _ h => h) hHeld ?_
  refine takeO 2 31 (.load 24 (.const (.pointer (some ⟨b7, 0, none⟩)))) 24 (.agg #[.slice N nn cN, .int .i64 en, .int .i64 top]) (by as_aux_lemma => kernel_rfl) (by as_aux_lemma => kernel_rfl) (by as_aux_lemma => kernel_rfl) (fun _ _ _ _ _ h => h) (fun W hS => by obtain ⟨z0, z1, z2⟩ := hS.cells; clear hS hHeld; unfold cEv opC; as_aux_lemma => first | (go_simp; done) | (go_simp <;> rfl)) hHeld ?_
  refine takeO 9 38 (.load 24 (.const (.pointer (some ⟨b7, 0, none⟩)))) 24 (.agg #[.slice N nn cN, .int .i64 en, .int .i64 top]) (by as_aux_lemma => kernel_rfl) (by as_aux_lemma => kernel_rfl) (by as_aux_lemma => kernel_rfl) (fun _ _ _ _ _ h => h) (fun W hS => by obtain ⟨z0, z1, z2⟩ := hS.cells; clear hS hHeld; unfold cEv opC; as_aux_lemma => first | (go_simp; done) | (go_simp <;> rfl)) hHeld ?_
  refine readyO [8] (by as_aux_lemma => kernel_rfl) (by simp) ?_
  refine callO 8 37 (.call { callee := .value (.func 7), args := #[.const (.agg #[.slice N nn cN, .int .i64 en, .int .i64 top]), .const (.slice Aq nq cq), .const (.int .u64 mask), .const (.int .i64 ef), .const (.slice Al nl cl), .const (.int .i64 level)], argTypes := #[24, 25, 26, 3, 27, 3] }) 31 7 #[.agg #[.slice N nn cN, .int .i64 en, .int .i64 top], .slice Aq nq cq, .int .u64 mask, .int .i64 ef, .slice Al nl cl, .int .i64 level] (by as_aux_lemma => kernel_rfl) (by as_aux_lemma => kernel_rfl) (by unfold cEv opC; go_simp) ?_ AllReadyH.nil
  refine (around_any (HPw.out.at_ HX.out.bel) (by omega) (nl := nl) (cl := cl) (HL.out.at_world HX.out.bel) HNl.out (by omega) (level := level) (mask := mask) (ef := ef) (cN := cN) (en := en) (top := top)).mono ?_
  rintro e W2 ⟨l2, t2, k2, A2, n2, c2, rfl, rfl, hlk, hln, h6, hc2, hm2, hr, hb⟩
  replace HX := hide (HX.out.step hb)
  have HK2 := hide hlk
  have HN2 := hide hln
  have HR2 := hide (hr.rd fun d hd => hd.2)
  clear hlk hln hr hb
  refine ⟨_, rfl, HX.out, fun hHeld2 => ?_⟩
  clear hHeld
  have hHeld := hHeld2
  clear hHeld2
  refine readyO [15] (by as_aux_lemma => kernel_rfl) (by simp) ?_
  refine callO 15 44 (.call { callee := .value (.func 8), args := #[.const (.agg #[.slice N nn cN, .int .i64 en, .int .i64 top]), .const (.slice Aq nq cq), .const (.int .u64 mask), .const (.int .i64 ef), .const (.slice Al nl cl), .const (.int .i64 level)], argTypes := #[24, 25, 26, 3, 27, 3] }) 31 8 #[.agg #[.slice N nn cN, .int .i64 en, .int .i64 top], .slice Aq nq cq, .int .u64 mask, .int .i64 ef, .slice Al nl cl, .int .i64 level] (by as_aux_lemma => kernel_rfl) (by as_aux_lemma => kernel_rfl) (by unfold cEv opC; go_simp) ?_ AllReadyH.nil
  refine (rfAround15_any (cN := cN) (en := en) (top := top) (cl := cl) (ef := ef) (level := level) (HPw.out.at_ HX.out.bel) HMk.out (HL.out.at_world HX.out.bel) HNl.out (by omega)).mono ?_
  rintro e W3 ⟨l3, t3, k3, A3, n3, c3, rfl, rfl, hlk, hln, hc3, hm3, hr, hb⟩
  replace HX := hide (HX.out.step hb)
  obtain rfl := (HK2.out.same hlk).1
  obtain rfl : n2 = n3 := HN2.out.symm.trans hln
  have HR3 := hide hr
  replace HR2 := hide (HR2.out.at_world hb)
  clear hlk hln hr hb
  refine ⟨_, rfl, HX.out, fun hHeld2 => ?_⟩
  clear hHeld
  have hHeld := hHeld2
  clear hHeld2
  refine readyO [16] (by as_aux_lemma => kernel_rfl) (by simp) ?_
  refine callO 16 45 (.call { callee := .value (.func 6), args := #[.const (.slice A2 n2 c2), .const (.slice A3 n2 c3)], argTypes := #[31, 31] }) 4 6 #[.slice A2 n2 c2, .slice A3 n2 c3] (by as_aux_lemma => kernel_rfl) (by as_aux_lemma => kernel_rfl) (by unfold cEv opC; go_simp) ?_ AllReadyH.nil
  refine (sameT A2 A3 n2 c2 c3 t2.2.2 HR2.out HN2.out hc2 hm2 HR3.out hc3 hm3).mono ?_
  rintro e W4 ⟨rfl, hb⟩
  replace HX := hide (HX.out.step hb)
  clear hb HR2 HR3 HN2 HK2 hc2 hm2 hc3 hm3
  refine ⟨_, rfl, HX.out, fun hHeld2 => ?_⟩
  clear hHeld
  have hHeld := hHeld2
  clear hHeld2
  refine putsO [17, 18, 20, 21, 22, 25, 26, 27] [27, 26, 25, 22, 21, 20, 18, 17] [(56, .int .i64 ef), (55, .int .u64 mask), (54, .slice Aq nq cq), (51, .int .i64 ef), (50, .int .u64 mask), (49, .slice Aq nq cq), (47, .bool true), (46, .bool true)] 8 rfl [46, 47, 49, 50, 51, 54, 55, 56] (by as_aux_lemma => kernel_rfl) (by as_aux_lemma => kernel_rfl) rfl (fun _ _ _ _ _ h => h) hHeld ?_
  refine takeO 19 48 (.load 24 (.const (.pointer (some ⟨b7, 0, none⟩)))) 24 (.agg #[.slice N nn cN, .int .i64 en, .int .i64 top]) (by as_aux_lemma => kernel_rfl) (by as_aux_lemma => kernel_rfl) (by as_aux_lemma => kernel_rfl) (fun _ _ _ _ _ h => h) (fun W hS => by obtain ⟨z0, z1, z2⟩ := hS.cells; clear hS hHeld; unfold cEv opC; as_aux_lemma => first | (go_simp; done) | (go_simp <;> rfl)) hHeld ?_
  refine takeO 24 53 (.load 24 (.const (.pointer (some ⟨b7, 0, none⟩)))) 24 (.agg #[.slice N nn cN, .int .i64 en, .int .i64 top]) (by as_aux_lemma => kernel_rfl) (by as_aux_lemma => kernel_rfl) (by as_aux_lemma => kernel_rfl) (fun _ _ _ _ _ h => h) (fun W hS => by obtain ⟨z0, z1, z2⟩ := hS.cells; clear hS hHeld; unfold cEv opC; as_aux_lemma => first | (go_simp; done) | (go_simp <;> rfl)) hHeld ?_
  refine readyO [23] (by as_aux_lemma => kernel_rfl) (by simp) ?_
  refine callO 23 52 (.call { callee := .value (.func 9), args := #[.const (.agg #[.slice N nn cN, .int .i64 en, .int .i64 top]), .const (.slice Aq nq cq), .const (.int .u64 mask), .const (.int .i64 ef)], argTypes := #[24, 25, 26, 3] }) 31 9 #[.agg #[.slice N nn cN, .int .i64 en, .int .i64 top], .slice Aq nq cq, .int .u64 mask, .int .i64 ef] (by as_aux_lemma => kernel_rfl) (by as_aux_lemma => kernel_rfl) (by unfold cEv opC; go_simp) ?_ AllReadyH.nil
  refine (bFind_any (HPw.out.at_ HX.out.bel) (by omega) (mask := mask) (ef := ef) (cN := cN) (en := en) (top := top)).mono ?_
  rintro e W5 ⟨l5, t5, k5, A5, n5, c5, rfl, hst, hlk, hln, h6, hc5, hm5, hr, hb⟩
  replace HX := hide (HX.out.step hb)
  have HS5 := hide hst
  have HK5 := hide hlk
  have HN5 := hide hln
  have HR5 := hide (hr.rd fun d hd => hd.2)
  clear hst hlk hln hr hb
  refine ⟨_, rfl, HX.out, fun hHeld2 => ?_⟩
  clear hHeld
  have hHeld := hHeld2
  clear hHeld2
  refine readyO [28] (by as_aux_lemma => kernel_rfl) (by simp) ?_
  refine callO 28 57 (.call { callee := .value (.func 10), args := #[.const (.agg #[.slice N nn cN, .int .i64 en, .int .i64 top]), .const (.slice Aq nq cq), .const (.int .u64 mask), .const (.int .i64 ef)], argTypes := #[24, 25, 26, 3] }) 31 10 #[.agg #[.slice N nn cN, .int .i64 en, .int .i64 top], .slice Aq nq cq, .int .u64 mask, .int .i64 ef] (by as_aux_lemma => kernel_rfl) (by as_aux_lemma => kernel_rfl) (by unfold cEv opC; go_simp) ?_ AllReadyH.nil
  refine (rfFind15_any (cN := cN) (en := en) (top := top) (ef := ef) (HPw.out.at_ HX.out.bel) HMk.out).mono ?_
  rintro e W6 ⟨l6, t6, k6, A6, n6, c6, rfl, hst, hlk, hln, hc6, hm6, hr, hb⟩
  replace HX := hide (HX.out.step hb)
  obtain rfl := HS5.out.same hst
  obtain rfl := (HK5.out.same hlk).1
  obtain rfl : n5 = n6 := HN5.out.symm.trans hln
  have HR6 := hide hr
  replace HR5 := hide (HR5.out.at_world hb)
  clear hst hlk hln hr hb
  refine ⟨_, rfl, HX.out, fun hHeld2 => ?_⟩
  clear hHeld
  have hHeld := hHeld2
  clear hHeld2
  refine readyO [29] (by as_aux_lemma => kernel_rfl) (by simp) ?_
  refine callO 29 58 (.call { callee := .value (.func 6), args := #[.const (.slice A5 n5 c5), .const (.slice A6 n5 c6)], argTypes := #[31, 31] }) 4 6 #[.slice A5 n5 c5, .slice A6 n5 c6] (by as_aux_lemma => kernel_rfl) (by as_aux_lemma => kernel_rfl) (by unfold cEv opC; go_simp) ?_ AllReadyH.nil
  refine (sameT A5 A6 n5 c5 c6 t5.2.2 HR5.out HN5.out hc5 hm5 HR6.out hc6 hm6).mono ?_
  rintro e W7 ⟨rfl, hb⟩
  replace HX := hide (HX.out.step hb)
  clear hb HR5 HR6 HN5 HK5 HS5 hc5 hm5 hc6 hm6
  refine ⟨_, rfl, HX.out, fun hHeld2 => ?_⟩
  clear hHeld
  have hHeld := hHeld2
  clear hHeld2
  refine putsO [30, 31, 33, 34, 35, 36, 39, 40, 41, 42] [42, 41, 40, 39, 36, 35, 34, 33, 31, 30] [(71, .int .i64 ef), (70, .int .i64 kk), (69, .int .u64 mask), (68, .slice Aq nq cq), (65, .int .i64 ef), (64, .int .i64 kk), (63, .int .u64 mask), (62, .slice Aq nq cq), (60, .bool true), (59, .bool true)] 10 rfl [59, 60, 62, 63, 64, 65, 68, 69, 70, 71] (by as_aux_lemma => kernel_rfl) (by as_aux_lemma => kernel_rfl) rfl (fun _ _ _ _ _ h => h) hHeld ?_
  refine takeO 32 61 (.load 24 (.const (.pointer (some ⟨b7, 0, none⟩)))) 24 (.agg #[.slice N nn cN, .int .i64 en, .int .i64 top]) (by as_aux_lemma => kernel_rfl) (by as_aux_lemma => kernel_rfl) (by as_aux_lemma => kernel_rfl) (fun _ _ _ _ _ h => h) (fun W hS => by obtain ⟨z0, z1, z2⟩ := hS.cells; clear hS hHeld; unfold cEv opC; as_aux_lemma => first | (go_simp; done) | (go_simp <;> rfl)) hHeld ?_
  refine takeO 38 67 (.load 24 (.const (.pointer (some ⟨b7, 0, none⟩)))) 24 (.agg #[.slice N nn cN, .int .i64 en, .int .i64 top]) (by as_aux_lemma => kernel_rfl) (by as_aux_lemma => kernel_rfl) (by as_aux_lemma => kernel_rfl) (fun _ _ _ _ _ h => h) (fun W hS => by obtain ⟨z0, z1, z2⟩ := hS.cells; clear hS hHeld; unfold cEv opC; as_aux_lemma => first | (go_simp; done) | (go_simp <;> rfl)) hHeld ?_
  refine readyO [37] (by as_aux_lemma => kernel_rfl) (by simp) ?_
  refine callO 37 66 (.call { callee := .value (.func 12), args := #[.const (.agg #[.slice N nn cN, .int .i64 en, .int .i64 top]), .const (.slice Aq nq cq), .const (.int .u64 mask), .const (.int .i64 kk), .const (.int .i64 ef)], argTypes := #[24, 25, 26, 3, 3] }) 35 12 #[.agg #[.slice N nn cN, .int .i64 en, .int .i64 top], .slice Aq nq cq, .int .u64 mask, .int .i64 kk, .int .i64 ef] (by as_aux_lemma => kernel_rfl) (by as_aux_lemma => kernel_rfl) (by unfold cEv opC; go_simp) ?_ AllReadyH.nil
  refine (bSearch_any (HPw.out.at_ HX.out.bel) (by omega) kk (mask := mask) (ef := ef) (cN := cN) (en := en) (top := top)).mono ?_
  rintro e W8 ⟨l8, t8, k8, A8, n8, c8, rfl, hst, hlk, hln, h6, hc8, hm8, hr, hb⟩
  replace HX := hide (HX.out.step hb)
  have HS8 := hide hst
  have HK8 := hide hlk
  have HN8 := hide hln
  have HR8 := hide (hr.rd fun d hd => hd.2)
  clear hst hlk hln hr hb
  refine ⟨_, rfl, HX.out, fun hHeld2 => ?_⟩
  clear hHeld
  have hHeld := hHeld2
  clear hHeld2
  refine readyO [43] (by as_aux_lemma => kernel_rfl) (by simp) ?_
  refine callO 43 72 (.call { callee := .value (.func 13), args := #[.const (.agg #[.slice N nn cN, .int .i64 en, .int .i64 top]), .const (.slice Aq nq cq), .const (.int .u64 mask), .const (.int .i64 kk), .const (.int .i64 ef)], argTypes := #[24, 25, 26, 3, 3] }) 35 13 #[.agg #[.slice N nn cN, .int .i64 en, .int .i64 top], .slice Aq nq cq, .int .u64 mask, .int .i64 kk, .int .i64 ef] (by as_aux_lemma => kernel_rfl) (by as_aux_lemma => kernel_rfl) (by unfold cEv opC; go_simp) ?_ AllReadyH.nil
  refine (rfSearch15_any (cN := cN) (en := en) (top := top) (ef := ef) (kk := kk) (HPw.out.at_ HX.out.bel) HMk.out).mono ?_
  rintro e W9 ⟨l9, t9, k9, A9, n9, c9, rfl, hst, hlk, hln, hc9, hm9, hr, hb⟩
  replace HX := hide (HX.out.step hb)
  obtain rfl := HS8.out.same hst
  obtain rfl := (HK8.out.same hlk).1
  obtain rfl : n8 = n9 := HN8.out.symm.trans hln
  have HR9 := hide hr
  replace HR8 := hide (HR8.out.at_world hb)
  clear hst hlk hln hr hb
  refine ⟨_, rfl, HX.out, fun hHeld2 => ?_⟩
  clear hHeld
  have hHeld := hHeld2
  clear hHeld2
  refine readyO [44] (by as_aux_lemma => kernel_rfl) (by simp) ?_
  refine callO 44 73 (.call { callee := .value (.func 11), args := #[.const (.slice A8 n8 c8), .const (.slice A9 n8 c9)], argTypes := #[35, 35] }) 4 11 #[.slice A8 n8 c8, .slice A9 n8 c9] (by as_aux_lemma => kernel_rfl) (by as_aux_lemma => kernel_rfl) (by unfold cEv opC; go_simp) ?_ AllReadyH.nil
  refine (sameHT A8 A9 n8 c8 c9 ((t8.2.2.take kk.toNat).map (·.1)) HR8.out HN8.out hc8 hm8 HR9.out hc9 hm9).mono ?_
  rintro e Wa ⟨rfl, hb⟩
  replace HX := hide (HX.out.step hb)
  clear hb HR8 HR9 HN8 HK8 HS8 hc8 hm8 hc9 hm9
  refine ⟨_, rfl, HX.out, fun hHeld2 => ?_⟩
  clear hHeld
  have hHeld := hHeld2
  clear hHeld2
  refine putsO [45, 46, 48, 49, 50, 53, 54, 55] [55, 54, 53, 50, 49, 48, 46, 45] [(84, .int .i64 ef), (83, .int .u64 mask), (82, .slice Aq nq cq), (79, .int .i64 ef), (78, .int .u64 mask), (77, .slice Aq nq cq), (75, .bool true), (74, .bool true)] 8 rfl [74, 75, 77, 78, 79, 82, 83, 84] (by as_aux_lemma => kernel_rfl) (by as_aux_lemma => kernel_rfl) rfl (fun _ _ _ _ _ h => h) hHeld ?_
  refine takeO 47 76 (.load 24 (.const (.pointer (some ⟨b7, 0, none⟩)))) 24 (.agg #[.slice N nn cN, .int .i64 en, .int .i64 top]) (by as_aux_lemma => kernel_rfl) (by as_aux_lemma => kernel_rfl) (by as_aux_lemma => kernel_rfl) (fun _ _ _ _ _ h => h) (fun W hS => by obtain ⟨z0, z1, z2⟩ := hS.cells; clear hS hHeld; unfold cEv opC; as_aux_lemma => first | (go_simp; done) | (go_simp <;> rfl)) hHeld ?_
  refine takeO 52 81 (.load 24 (.const (.pointer (some ⟨b7, 0, none⟩)))) 24 (.agg #[.slice N nn cN, .int .i64 en, .int .i64 top]) (by as_aux_lemma => kernel_rfl) (by as_aux_lemma => kernel_rfl) (by as_aux_lemma => kernel_rfl) (fun _ _ _ _ _ h => h) (fun W hS => by obtain ⟨z0, z1, z2⟩ := hS.cells; clear hS hHeld; unfold cEv opC; as_aux_lemma => first | (go_simp; done) | (go_simp <;> rfl)) hHeld ?_
  refine readyO [51] (by as_aux_lemma => kernel_rfl) (by simp) ?_
  refine callO 51 80 (.call { callee := .value (.func 14), args := #[.const (.agg #[.slice N nn cN, .int .i64 en, .int .i64 top]), .const (.slice Aq nq cq), .const (.int .u64 mask), .const (.int .i64 ef)], argTypes := #[24, 25, 26, 3] }) 3 14 #[.agg #[.slice N nn cN, .int .i64 en, .int .i64 top], .slice Aq nq cq, .int .u64 mask, .int .i64 ef] (by as_aux_lemma => kernel_rfl) (by as_aux_lemma => kernel_rfl) (by unfold cEv opC; go_simp) ?_ AllReadyH.nil
  refine (bCost_any (HPw.out.at_ HX.out.bel) (by omega) (mask := mask) (ef := ef) (cN := cN) (en := en) (top := top)).mono ?_
  rintro e Wb ⟨lb, tb, kb, rfl, hst, hlk, hb⟩
  replace HX := hide (HX.out.step hb)
  have HSb := hide hst
  have HKb := hide hlk
  clear hst hlk hb
  refine ⟨_, rfl, HX.out, fun hHeld2 => ?_⟩
  clear hHeld
  have hHeld := hHeld2
  clear hHeld2
  refine readyO [56] (by as_aux_lemma => kernel_rfl) (by simp) ?_
  refine callO 56 85 (.call { callee := .value (.func 15), args := #[.const (.agg #[.slice N nn cN, .int .i64 en, .int .i64 top]), .const (.slice Aq nq cq), .const (.int .u64 mask), .const (.int .i64 ef)], argTypes := #[24, 25, 26, 3] }) 3 15 #[.agg #[.slice N nn cN, .int .i64 en, .int .i64 top], .slice Aq nq cq, .int .u64 mask, .int .i64 ef] (by as_aux_lemma => kernel_rfl) (by as_aux_lemma => kernel_rfl) (by unfold cEv opC; go_simp) ?_ AllReadyH.nil
  refine (rfCost15_any (cN := cN) (en := en) (top := top) (ef := ef) (HPw.out.at_ HX.out.bel) HMk.out).mono ?_
  rintro e Wc ⟨lc, tc, kc, rfl, hst, hlk, hb⟩
  replace HX := hide (HX.out.step hb)
  obtain rfl := HSb.out.same hst
  obtain rfl := (HKb.out.same hlk).2
  clear hst hlk hb
  refine ⟨_, rfl, HX.out, fun hHeld2 => ?_⟩
  clear hHeld
  have hHeld := hHeld2
  clear hHeld2
  refine takeO 57 86 (.binOp .eql 3 (.const (.int .i64 (kb : Int))) (.const (.int .i64 (kb : Int))) 3) 4 (.bool true) (by as_aux_lemma => kernel_rfl) (by as_aux_lemma => kernel_rfl) (by as_aux_lemma => kernel_rfl) (fun _ _ _ _ _ h => h) (fun W hS => by clear hS hHeld; unfold cEv opC; as_aux_lemma => first | (go_simp; done) | (go_simp <;> rfl)) hHeld ?_
  refine putsO [58, 59] [59, 58] [(14, .bool true), (87, .bool true)] 2 rfl [87, 14] (by as_aux_lemma => kernel_rfl) (by as_aux_lemma => kernel_rfl) rfl (fun _ _ _ _ _ h => h) hHeld ?_
  refine doneO [(14, .bool true), (14, .bool true), (0, .bool true), (0, .agg #[.slice N nn cN, .int .i64 en, .int .i64 top]), (0, .slice Aq nq cq), (0, .int .u64 mask), (0, .int .i64 ef), (0, .slice Al nl cl), (0, .int .i64 level), (0, .slice A2 n2 c2), (0, .agg #[.slice N nn cN, .int .i64 en, .int .i64 top]), (0, .slice Aq nq cq), (0, .int .u64 mask), (0, .int .i64 ef), (0, .slice Al nl cl), (0, .int .i64 level), (0, .slice A3 n2 c3), (0, .bool true), (0, .bool true), (0, .bool true), (0, .agg #[.slice N nn cN, .int .i64 en, .int .i64 top]), (0, .slice Aq nq cq), (0, .int .u64 mask), (0, .int .i64 ef), (0, .slice A5 n5 c5), (0, .agg #[.slice N nn cN, .int .i64 en, .int .i64 top]), (0, .slice Aq nq cq), (0, .int .u64 mask), (0, .int .i64 ef), (0, .slice A6 n5 c6), (0, .bool true), (0, .bool true), (0, .bool true), (0, .agg #[.slice N nn cN, .int .i64 en, .int .i64 top]), (0, .slice Aq nq cq), (0, .int .u64 mask), (0, .int .i64 kk), (0, .int .i64 ef), (0, .slice A8 n8 c8), (0, .agg #[.slice N nn cN, .int .i64 en, .int .i64 top]), (0, .slice Aq nq cq), (0, .int .u64 mask), (0, .int .i64 kk), (0, .int .i64 ef), (0, .slice A9 n8 c9), (0, .bool true), (0, .bool true), (0, .bool true), (0, .agg #[.slice N nn cN, .int .i64 en, .int .i64 top]), (0, .slice Aq nq cq), (0, .int .u64 mask), (0, .int .i64 ef), (0, .int .i64 (kb : Int)), (0, .agg #[.slice N nn cN, .int .i64 en, .int .i64 top]), (0, .slice Aq nq cq), (0, .int .u64 mask), (0, .int .i64 ef), (0, .int .i64 (kb : Int)), (0, .bool true), (0, .bool true)] (by as_aux_lemma => kernel_rfl) (by as_aux_lemma => kernel_rfl) ?_
  simp only [fillG]
  clear hHeld
  go_wp2
  go_ret
  exact ⟨rfl, HX.out.bel⟩
end
end Go.Proofs.YtphbdffgeeicaabGreat
