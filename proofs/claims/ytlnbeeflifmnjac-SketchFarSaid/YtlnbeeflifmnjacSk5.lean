/-
  The document's Near. Conditions: at most twenty sets.
-/
import Derived.Test.YtlnbeeflifmnjacSk4
import Derived.Test.YtlnbeeflifmnjacSkE
import Derived.Test.YtlnbeeflifmnjacTk2
namespace Go.Proofs.Ytlnbeeflifmnjac
set_option linter.unusedSimpArgs false
set_option linter.unusedVariables false
open Go.RowKit

/-- the row of places, and what lay in memory -/
structure NrB (w : World) (g n cap : Nat) (L : List Int) (W : World) : Prop where
  row : RowN W w.heap.size g n cap L
  bel : Below w.heap.size w W
theorem NrB.step {w W W' : World} {g n cap : Nat} {L : List Int} (h : NrB w g n cap L W) (hb : Below W.heap.size W W') : NrB w g n cap L W' := ⟨h.row.below hb h.row.lt, Below.step h.bel hb⟩
theorem NrB.set {w W : World} {g n cap : Nat} {L : List Int} (h : NrB w g n cap L W) {i : Nat} (x : Int) : NrB w g n cap (L.set i x) (W.setCell ⟨g, i, none⟩ (.int .i64 x)) := ⟨h.row.set x, h.bel.setCell h.row.blk.1 _⟩
/-- a set of a list, at whatever world came since -/
theorem Rd.slcW {w : World} {A : Option Addr} {l : List (List Int)} (h : Rd (Sh.list (Sh.int .u64)) w w.heap.size A l) {k : Nat} (hk : k < l.length) : ∃ ad s V cv, A = some ad ∧ l[k]? = some s ∧ s.length ≤ cv ∧ cv ≤ 9223372036854775807 ∧ Rd (Sh.int .u64) w w.heap.size V s ∧ ∀ W, Below w.heap.size w W → W.cell? (ad.add k) = some (.slice V s.length cv) := by
  obtain ⟨ad, s, V, cv, e, hb, hv, q0, hcv, hcm, hr⟩ := Rd.slc h hk
  exact ⟨ad, s, V, cv, e, hv, hcv, hcm, hr, fun W hW => (hW.cell (by rw [block_of_add]; exact hb)).trans q0⟩
set_option maxHeartbeats 8000000 in
set_option maxRecDepth 100000 in
theorem rNear_any {A B : Option Addr} {n c m d : Nat} {l : List (List Int)} {q : List Int} {w : World} (hx : Rd (Sh.list (Sh.int .u64)) w w.heap.size A l) (hn : l.length = n) (hc : n ≤ c) (h20 : n ≤ 20) (hu : ∀ s ∈ l, UL s) (hq : Rd (Sh.int .u64) w w.heap.size B q) (hm : q.length = m) (hd : m ≤ d) (huq : UL q) (most : Int) (K : Nat) (hK : max 0 (min most (n : Int)) = K) :
    Calls Try.prog 15 #[.slice A n c, .slice B m d, .int .i64 most] w fun e w' => ∃ v, e = .returned v ∧ NewL (Sh.int .i64) w (plcF ((fars l q n).take K)) v w' := by
  have HX := hide hx
  have HQ := hide hq
  have Hn := hide hn
  have Hm := hide hm
  have HU := hide hu
  have HUq := hide huq
  have HO0 := hide (World.ownsRow_nil (w := w) w.heap.size 3 1)
  have HB0 := hide (Below.refl w.heap.size w)
  clear hx hn hq hm hu huq
  go_enter Try.func15, Try.ntmps15
  go_wp2
  go_loopw [7, 8, 9, 12] (fun o _ _ i wr => ∃ (k : Nat) (C : Option Addr) (p : Nat), k ≤ n ∧ i = .int .i64 k ∧ o = .slice C k p ∧ k ≤ p ∧ p ≤ 9223372036854775807 ∧ Hid (wr.ownsRow w.heap.size 3 1 (.slice C k p) k (fcs encI (plcF (fars l q k)))) ∧ Hid (Below w.heap.size w wr)) (fun _ _ _ i _ => n - (intOf i).toNat)
  case atStart => exact ⟨0, none, 0, by omega, rfl, rfl, by omega, by omega, hide (by rw [fars_zero]; exact World.ownsRow_nil _ _ _ _), HB0⟩
  case round =>
    obtain ⟨i, C, p, hi, rfl, rfl, e1, e2, HO, HB⟩ := hrel
    clear HO0 HB0
    by_cases hlt : i < n
    · have g0 : (0 : Int) ≤ i := by omega
      have g1 : (i : Int) < n := by omega
      have hi64 : i < 64 := by omega
      have HEi := hide (fun k h1 h2 => fars_snoc l q i (k := k) h1 h2)
      have HLt := hide (fun j (hj : j < i) => fars_lt (l := l) (q := q) hj hi64)
      have HPx := hide (plcF_farA l q hi64)
      have HMem := hide (fun y (hy : y ∈ fars l q i) => fars_mem hy)
      have HLen := hide (fars_len l q i)
      obtain ⟨S, hS⟩ : ∃ S, fars l q i = S := ⟨_, rfl⟩
      obtain ⟨x, hx⟩ : ∃ x, farA l q i = x := ⟨_, rfl⟩
      rw [hS, hx] at HEi
      rw [hx] at HLt HPx
      rw [hS] at HO HMem HLen
      obtain ⟨ad, si, Vi, ci, rfl, hvi, hci, hcmi, hri, hcel⟩ := Rd.slcW HX.out (k := i) (by have := Hn.out; omega)
      have HDi := hide (show l.getD i [] = si by rw [List.getD_eq_getElem?_getD, hvi]; rfl)
      have HUi := hide (HU.out si (List.mem_of_getElem? hvi))
      have HRi := hide hri
      have HCi := hide hcel
      clear hvi hri hcel hS hx
      go_wp2_with (at_builtin; refine wpList_append_elem rfl (.tmp 17) (.tmp 19) 32 rfl w.heap.size Try.underlying32 info_intE rfl (by decide) (.slice C i p) i _ rfl HO.out _ _ rfl rfl (by simp [Value.oneCell']) (by simp only [maxLen]; omega) (by omega) HB.out.size ?_; intro v9 w9 hown9 hgr9 hat9; have HO9 := hide (show w9.ownsRow w.heap.size 3 1 v9 (i + 1) (fcs encI (plcF S ++ [(i : Int)])) by rw [fcsI_snoc']; exact hown9); have HB9 := hide (below_own HB.out HO.out HB.out.size hgr9); clear hown9 hgr9 hat9)
      obtain ⟨g, cap, rfl, _, _⟩ := HO9.out.form (by omega)
      have HR := hide (show NrB w g (i + 1) cap (Mg (plcF S) (i : Int) i) w9 from ⟨by have e : (plcF S).length = i := (plcF_len S).trans HLen.out; have h := HO9.out; rw [← Mg_start, e] at h; exact h, HB9.out⟩)
      clear HO9 HB9 HO HB
      go_loopw [9] (fun kv wq => ∃ (k : Nat) (z : Int), k ≤ i ∧ kv = .int .i64 k ∧ Hid (∀ y ∈ S.drop k, farLt x y = true) ∧ Hid (NrB w g (i + 1) cap (Mg (plcF S) z k) wq)) (fun kv _ => (intOf kv).toNat)
      case atStart => exact ⟨i, i, Nat.le_refl _, rfl, hide (by rw [List.drop_of_length_le (by have := HLen.out; omega)]; simp), HR⟩
      case round =>
        obtain ⟨k, z, hk, rfl, HD, HM⟩ := hrel
        clear HR
        rcases k with _ | k
        · have HQ2 := hide (HEi.out 0 HD.out (.inl rfl))
          go_upto_region 7 with fail
          go_quiet (fail)
          have HM2 := hide (HM.out.step (below_drewN (Below.refl _ _) nq))
          have f0 := HM2.out.row.frozen 0
          have c0 := HM2.out.row.cell (i := 0) (x := z) rfl
          have hg9 := HM2.out.row.blk.1
          have HN := hide (HM2.out.set (i := 0) (i : Int))
          have HNr := hide (show (Mg (plcF S) z 0).set 0 (i : Int) = plcF (fars l q (i + 1)) by rw [Mg_set (Nat.zero_le _), ← HPx.out, ← HQ2.out]; exact (Mg_map _).symm)
          rw [HNr.out] at HN
          clear HM HM2
          go_wp2
          go_roundw
          case rel => exact ⟨i + 1, _, _, by omega, by go_num, rfl, by have := HN.out.row.blk.2; obtain ⟨_, _, _, _, h, _⟩ := this; exact h, by have := HN.out.row.blk.2; obtain ⟨_, _, _, _, _, h⟩ := this; simpa [maxLen] using h, hide HN.out.row, hide HN.out.bel⟩
          case measure => simp [intOf]; omega
        · obtain ⟨y, hy⟩ : ∃ y, S[k]? = some y := ⟨_, List.getElem?_eq_getElem (by have := HLen.out; omega)⟩
          have hym := HMem.out y (List.mem_of_getElem? hy)
          obtain ⟨j, hj, hyj⟩ := hym
          have HPy := hide (plcF_farA l q (show j < 64 by omega))
          rw [← hyj] at HPy
          have HLy := hide (HLt.out j hj)
          rw [← hyj, HDi.out] at HLy
          obtain ⟨ad2, sj, Vj, cj, had2, hvj, hcj, hcmj, hrj, hcelj⟩ := Rd.slcW HX.out (k := j) (by have := Hn.out; omega)
          obtain rfl : ad = ad2 := by injection had2
          have hgj : l.getD j [] = sj := by rw [List.getD_eq_getElem?_getD, hvj]; rfl
          rw [hgj] at HLy
          have HUj := hide (HU.out sj (List.mem_of_getElem? hvj))
          have HRj := hide hrj
          have HCj := hide hcelj
          have HNi := hide (Eq.refl si.length)
          have HNj := hide (Eq.refl sj.length)
          have HMP := hide (show (Mg (plcF S) z (k + 1))[k]? = some ((y.2.val : Nat) : Int) from Mg_prev (plcF_at hy))
          have HPS := hide (plcF_at hy)
          have HSk := hide hy
          have j0 : (0 : Int) ≤ j := by omega
          have j1 : (j : Int) < n := by omega
          have k1 : (k : Int) + 1 < i + 1 := by omega
          have k2 : (k : Int) < i + 1 := by omega
          have k0 : (0 : Int) ≤ k := by omega
          have gw : IntKind.i64.wrap (k : Int) = k := by simp [IntKind.wrap, IntKind.bits, IntKind.signed]; omega
          clear hrj hcelj hvj hgj hyj had2 hy
          go_upto_region 7 with fail
          refine startO (S := NrB w g (i + 1) cap (Mg (plcF S) z (k + 1))) 21 (by as_aux_lemma => kernel_rfl) (by as_aux_lemma => kernel_rfl) (HM.out.step (Below.refl _ _).drew) (fun hHeld => ?_)
          clear HM
          generalize World.drew _ = wd at *
          refine putsO [0] [0] [(21, .int .i64 (k + 1 : Nat))] 1 rfl [21] (by as_aux_lemma => kernel_rfl) (by as_aux_lemma => kernel_rfl) rfl (fun _ _ _ _ _ h => h) hHeld ?_
          refine takeO 1 22 (.binOp .gtr 3 (.const (.int .i64 (k + 1 : Nat))) (.const (.int .i64 0)) 3) 4 (.bool true) (by as_aux_lemma => kernel_rfl) (by as_aux_lemma => kernel_rfl) (by as_aux_lemma => kernel_rfl) (fun _ _ _ _ _ h => h) (fun W hS => by clear hS hHeld; unfold cEv opC; as_aux_lemma => first | (go_simp; done) | (go_simp <;> rfl)) hHeld ?_
          refine putsO [2, 3, 4, 7, 9, 10, 11, 17] [17, 11, 10, 9, 7, 4, 3, 2] [(38, .slice B m d), (32, .int .i64 (k + 1 : Nat)), (31, .slice (some ⟨g, 0, none⟩) (i + 1) cap), (30, .slice (some ad) n c), (28, .slice B m d), (25, .int .i64 i), (24, .slice (some ad) n c), (23, .bool true)] 8 rfl [23, 24, 25, 28, 30, 31, 32, 38] (by as_aux_lemma => kernel_rfl) (by as_aux_lemma => kernel_rfl) rfl (fun _ _ _ _ _ h => h) hHeld ?_
          refine takeO 5 26 (.indexAddr 24 (.const (.slice (some ad) n c)) (.const (.int .i64 i))) 0 (.pointer (some (ad.add i))) (by as_aux_lemma => kernel_rfl) (by as_aux_lemma => kernel_rfl) (by as_aux_lemma => kernel_rfl) (fun _ _ _ _ _ h => h) (fun W hS => by clear hS hHeld; unfold cEv opC; as_aux_lemma => first | (go_simp; done) | (go_simp <;> rfl)) hHeld ?_
          refine takeO 12 33 (.binOp .sub 3 (.const (.int .i64 (k + 1 : Nat))) (.const (.int .i64 1)) 3) 3 (.int .i64 k) (by as_aux_lemma => kernel_rfl) (by as_aux_lemma => kernel_rfl) (by as_aux_lemma => kernel_rfl) (fun _ _ _ _ _ h => h) (fun W hS => by clear hS hHeld; unfold cEv opC; as_aux_lemma => first | (go_simp; done) | (go_simp <;> rfl)) hHeld ?_
          refine takeO 6 27 (.load 25 (.const (.pointer (some (ad.add i))))) 25 (.slice Vi si.length ci) (by as_aux_lemma => kernel_rfl) (by as_aux_lemma => kernel_rfl) (by as_aux_lemma => kernel_rfl) (fun _ _ _ _ _ h => h) (fun W hS => by have z0 := HCi.out W hS.bel; clear hS hHeld; unfold cEv opC; as_aux_lemma => first | (go_simp; done) | (go_simp <;> rfl)) hHeld ?_
          refine takeO 13 34 (.indexAddr 32 (.const (.slice (some ⟨g, 0, none⟩) (i + 1) cap)) (.const (.int .i64 k))) 0 (.pointer (some ⟨g, k, none⟩)) (by as_aux_lemma => kernel_rfl) (by as_aux_lemma => kernel_rfl) (by as_aux_lemma => kernel_rfl) (fun _ _ _ _ _ h => h) (fun W hS => by clear hS hHeld; unfold cEv opC; as_aux_lemma => first | (go_simp; done) | (go_simp <;> rfl)) hHeld ?_
          refine takeO 14 35 (.load 3 (.const (.pointer (some ⟨g, k, none⟩)))) 3 (.int .i64 j) (by as_aux_lemma => kernel_rfl) (by as_aux_lemma => kernel_rfl) (by as_aux_lemma => kernel_rfl) (fun _ _ _ _ _ h => h) (fun W hS => by have z0 := hS.row.cell HMP.out; rw [HPy.out] at z0; clear hS hHeld; unfold cEv opC; as_aux_lemma => first | (go_simp; done) | (go_simp <;> rfl)) hHeld ?_
          refine takeO 15 36 (.indexAddr 24 (.const (.slice (some ad) n c)) (.const (.int .i64 j))) 0 (.pointer (some (ad.add j))) (by as_aux_lemma => kernel_rfl) (by as_aux_lemma => kernel_rfl) (by as_aux_lemma => kernel_rfl) (fun _ _ _ _ _ h => h) (fun W hS => by clear hS hHeld; unfold cEv opC; as_aux_lemma => first | (go_simp; done) | (go_simp <;> rfl)) hHeld ?_
          refine takeO 16 37 (.load 25 (.const (.pointer (some (ad.add j))))) 25 (.slice Vj sj.length cj) (by as_aux_lemma => kernel_rfl) (by as_aux_lemma => kernel_rfl) (by as_aux_lemma => kernel_rfl) (fun _ _ _ _ _ h => h) (fun W hS => by have z0 := HCj.out W hS.bel; clear hS hHeld; unfold cEv opC; as_aux_lemma => first | (go_simp; done) | (go_simp <;> rfl)) hHeld ?_
          refine readyO [8] (by as_aux_lemma => kernel_rfl) (by simp) ?_
          refine callO 8 29 (.call { callee := .value (.func 7), args := #[.const (.slice Vi si.length ci), .const (.slice B m d)], argTypes := #[25, 25] }) 3 7 #[.slice Vi si.length ci, .slice B m d] (by as_aux_lemma => kernel_rfl) (by as_aux_lemma => kernel_rfl) (by unfold cEv opC; go_simp) ?_ AllReadyH.nil
          refine (rApart_any ((HRi.out.below hHeld.bel (Nat.le_refl _)).more hHeld.bel.size) HNi.out hci HUi.out ((HQ.out.below hHeld.bel (Nat.le_refl _)).more hHeld.bel.size) Hm.out hd HUq.out).mono ?_
          rintro e wq ⟨rfl, hb⟩
          refine ⟨_, rfl, (hHeld.step hb), fun hHeld2 => ?_⟩
          clear hHeld
          have hHeld := hHeld2
          clear hHeld2
          clear hb
          refine readyO [18] (by as_aux_lemma => kernel_rfl) (by simp) ?_
          refine callO 18 39 (.call { callee := .value (.func 7), args := #[.const (.slice Vj sj.length cj), .const (.slice B m d)], argTypes := #[25, 25] }) 3 7 #[.slice Vj sj.length cj, .slice B m d] (by as_aux_lemma => kernel_rfl) (by as_aux_lemma => kernel_rfl) (by unfold cEv opC; go_simp) ?_ AllReadyH.nil
          refine (rApart_any ((HRj.out.below hHeld.bel (Nat.le_refl _)).more hHeld.bel.size) HNj.out hcj HUj.out ((HQ.out.below hHeld.bel (Nat.le_refl _)).more hHeld.bel.size) Hm.out hd HUq.out).mono ?_
          rintro e wq ⟨rfl, hb⟩
          refine ⟨_, rfl, (hHeld.step hb), fun hHeld2 => ?_⟩
          clear hHeld
          have hHeld := hHeld2
          clear hHeld2
          clear hb
          refine takeO 19 40 (.binOp .lss 3 (.const (.int .i64 (apartW si q : Nat))) (.const (.int .i64 (apartW sj q : Nat))) 3) 4 (.bool (decide (((apartW si q : Nat) : Int) < ((apartW sj q : Nat) : Int)))) (by as_aux_lemma => kernel_rfl) (by as_aux_lemma => kernel_rfl) (by as_aux_lemma => kernel_rfl) (fun _ _ _ _ _ h => h) (fun W hS => by clear hS hHeld; unfold cEv opC; as_aux_lemma => first | (go_simp; done) | (go_simp <;> rfl)) hHeld ?_
          refine putsO [20] [20] [(41, .bool (decide (((apartW si q : Nat) : Int) < ((apartW sj q : Nat) : Int))))] 1 rfl [41] (by as_aux_lemma => kernel_rfl) (by as_aux_lemma => kernel_rfl) rfl (fun _ _ _ _ _ h => h) hHeld ?_
          refine doneO [(21, .int .i64 (k + 1 : Nat)), (0, .bool true), (0, .bool true), (0, .slice (some ad) n c), (0, .int .i64 i), (0, .pointer (some (ad.add i))), (0, .slice Vi si.length ci), (0, .slice B m d), (0, .int .i64 (apartW si q : Nat)), (0, .slice (some ad) n c), (0, .slice (some ⟨g, 0, none⟩) (i + 1) cap), (0, .int .i64 (k + 1 : Nat)), (0, .int .i64 k), (0, .pointer (some ⟨g, k, none⟩)), (0, .int .i64 j), (0, .pointer (some (ad.add j))), (0, .slice Vj sj.length cj), (0, .slice B m d), (0, .int .i64 (apartW sj q : Nat)), (0, .bool (decide (((apartW si q : Nat) : Int) < ((apartW sj q : Nat) : Int)))), (0, .bool (decide (((apartW si q : Nat) : Int) < ((apartW sj q : Nat) : Int))))] (by as_aux_lemma => kernel_rfl) (by as_aux_lemma => kernel_rfl) ?_
          simp only [fillG]
          have c1 := hHeld.row.cell HMP.out
          rw [HPy.out] at c1
          have hMl : (Mg (plcF S) z (k + 1)).length = i + 1 := by rw [Mg_len (by rw [plcF_len, HLen.out]; omega), plcF_len, HLen.out]
          obtain ⟨z2, hz2⟩ : ∃ z2, (Mg (plcF S) z (k + 1))[k + 1]? = some z2 := ⟨_, List.getElem?_eq_getElem (by omega)⟩
          have c2 := hHeld.row.cell hz2
          have f1 := hHeld.row.frozen (k + 1)
          have hg9 := hHeld.row.blk.1
          clear hz2 hMl
          rcases Nat.lt_or_ge (apartW si q) (apartW sj q) with hap | hap
          · have e : decide (((apartW si q : Nat) : Int) < ((apartW sj q : Nat) : Int)) = true := decide_eq_true (by omega)
            rw [e]
            have HNr := hide (show (Mg (plcF S) z (k + 1)).set (k + 1) (j : Int) = Mg (plcF S) (j : Int) k by rw [← HPy.out]; exact Mg_back HPS.out)
            have HN := hide (hHeld.set (i := k + 1) (j : Int))
            rw [HNr.out] at HN
            have HDn := hide (show ∀ y' ∈ S.drop k, farLt x y' = true by
              obtain ⟨h1, h2⟩ := List.getElem?_eq_some_iff.1 HSk.out
              rw [List.drop_eq_getElem_cons h1, h2]
              exact List.forall_mem_cons.2 ⟨by rw [HLy.out]; exact decide_eq_true hap, HD.out⟩)
            clear hHeld e hap
            go_wp2
            go_roundw
            case rel => exact ⟨k, (j : Int), by omega, by go_num, HDn, HN⟩
            case measure => simp [intOf]
          · have e : decide (((apartW si q : Nat) : Int) < ((apartW sj q : Nat) : Int)) = false := decide_eq_false (by omega)
            rw [e]
            have HQ2 := hide (HEi.out (k + 1) HD.out (.inr ⟨y, HSk.out, by rw [HLy.out]; exact decide_eq_false (by omega)⟩))
            have HNr := hide (show (Mg (plcF S) z (k + 1)).set (k + 1) (i : Int) = plcF (fars l q (i + 1)) by rw [Mg_set (by rw [plcF_len, HLen.out]; omega), ← HPx.out, ← HQ2.out]; exact (Mg_map _).symm)
            have HN := hide (hHeld.set (i := k + 1) (i : Int))
            rw [HNr.out] at HN
            clear hHeld e hap c1
            go_wp2
            go_roundw
            case rel => exact ⟨i + 1, _, _, by omega, by go_num, rfl, by have := HN.out.row.blk.2; obtain ⟨_, _, _, _, h, _⟩ := this; exact h, by have := HN.out.row.blk.2; obtain ⟨_, _, _, _, _, h⟩ := this; simpa [maxLen] using h, hide HN.out.row, hide HN.out.bel⟩
            case measure => simp [intOf]; omega
    · obtain rfl : n = i := by omega
      have hKn : K ≤ n := by omega
      have hKn' : (K : Int) ≤ n := by omega
      have hK0 : (0 : Int) ≤ K := by omega
      have HG := hide (show ∃ v, Ending.returned (.slice C K p) = .returned v ∧ NewL (Sh.int .i64) w (plcF ((fars l q n).take K)) v wr from by
        have h1 := own_shrink HO.out hKn
        have h2 : (fcs encI (plcF (fars l q n))).take K = fcs encI (plcF ((fars l q n).take K)) := by
          rw [fcsI, fcsI, ← List.map_take]; congr 1; exact List.map_take.symm
        rw [h2] at h1
        exact ⟨_, rfl, C, K, p, rfl, by rw [plcF_len, List.length_take, fars_len]; omega, by omega, e2, flatI.own h1, HB.out⟩)
      clear HO HB
      go_wp2
      go_ret
      exact HG.out
end Go.Proofs.Ytlnbeeflifmnjac
