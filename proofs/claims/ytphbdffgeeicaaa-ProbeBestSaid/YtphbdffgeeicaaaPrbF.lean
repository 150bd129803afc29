/-
  The document's Want of a probe. Conditions: the slices read as lists.
-/
import Derived.Test.YtphbdffgeeicaaaPrbE
namespace Go.Proofs.Ytphbdffgeeicaaa
set_option linter.unusedSimpArgs false
set_option linter.unusedVariables false
open Go.RowKit

/-- what the document's Want answers -/
def RWantP (w : World) (R : Nat → Prop) (Aq : Option Addr) (nq cq : Nat) (mask ef : Int) (Ak : Option Addr) (nk ck : Nat) (Aw : Option Addr) (nw cw : Nat) (wt : List Spt) (Ab : Option Addr) (nb cb : Nat) (bs : List Spt) (e : Ending) (w' : World) : Prop :=
  Below w.heap.size w w' ∧ ((doneR (mostB ef) wt bs = true ∧ e = .returned (.tuple #[aggP Aq nq cq mask ef Ak nk ck Aw nw cw Ab nb cb, .int .i64 0, .bool false])) ∨
  (doneR (mostB ef) wt bs = false ∧ ∃ A' c', e = .returned (.tuple #[aggP Aq nq cq mask ef Ak nk ck A' (nw - 1) c' Ab nb cb, .int .i64 (fstS wt).2, .bool true]) ∧ nw - 1 ≤ c' ∧ c' ≤ 9223372036854775807 ∧ RdR SP w' (Grow R w w') A' (wt.drop 1)))
theorem mostB_le_P (n : Int) : mostB n ≤ 4096 := by unfold mostB; omega
theorem RdR.scellP {w : World} {R : Nat → Prop} {ad : Addr} {l : List Spt} (h : RdR SP w R (some ad) l) {k : Nat} {s : Spt} (hx : l[k]? = some s) : w.cell? (ad.add (k * 3)) = some (.int .u64 s.1.1) ∧ w.cell? ⟨(ad.add (k * 3)).block, (ad.add (k * 3)).off + 1, none⟩ = some (.int .u64 s.1.2) ∧ w.cell? ⟨(ad.add (k * 3)).block, (ad.add (k * 3)).off + 2, none⟩ = some (.int .i64 s.2) := by
  obtain ⟨ad', x, e, _, hv, h1, h2, h3⟩ := h.scell (k := k) (List.getElem?_eq_some_iff.1 hx).1
  injection e with e
  subst e
  rw [hx] at hv
  injection hv with hv
  subst hv
  exact ⟨h1, h2, h3⟩
theorem RdR.some_ofP {w : World} {R : Nat → Prop} {A : Option Addr} {l : List Spt} (h : RdR SP w R A l) (hl : 0 < l.length) : ∃ ad, A = some ad := by
  obtain ⟨ad, e, _⟩ := h (by rintro rfl; simp at hl)
  exact ⟨ad, e⟩
theorem rd_add3 {α : Type} {S : Sh α} {w : World} {R : Nat → Prop} {ad : Addr} {l : List α} (h : RdR S w R (some (ad.add 3)) l) : RdR S w R (some ⟨ad.block, ad.off + 3, none⟩) l := by
  have e : ad.add (2 + 1) = ⟨ad.block, ad.off + (2 + 1), none⟩ := by rw [add_succ']
  rw [show (⟨ad.block, ad.off + 3, none⟩ : Addr) = ad.add 3 from e.symm]
  exact h
theorem fstS_at {l : List Spt} (h : 0 < l.length) : l[0]? = some (fstS l) := by unfold fstS; rw [List.getElem?_eq_getElem h]; rfl
theorem lstS_at {l : List Spt} {j : Nat} (h : l.length = j + 1) : l[j]? = some (lstS l) := by
  unfold lstS
  rw [show l.length - 1 = j by omega, List.getElem?_eq_getElem (by omega)]; rfl
set_option maxHeartbeats 8000000 in
set_option maxRecDepth 100000 in
theorem refWantP_any {w : World} {R : Nat → Prop} (hR : ∀ d, R d → d < w.heap.size) (Aq : Option Addr) (nq cq : Nat) (mask ef : Int) (Ak : Option Addr) (nk ck : Nat) (Aw : Option Addr) (nw cw : Nat) (wt : List Spt) (Ab : Option Addr) (nb cb : Nat) (bs : List Spt)
    (hw : RdR SP w R Aw wt) (hnw : wt.length = nw) (hcw : nw ≤ cw) (hcw2 : cw ≤ 9223372036854775807)
    (hb : RdR SP w R Ab bs) (hnb : bs.length = nb) (hcb : nb ≤ cb) (hcb2 : cb ≤ 9223372036854775807) :
    Calls Try.prog 7 #[aggP Aq nq cq mask ef Ak nk ck Aw nw cw Ab nb cb] w (RWantP w R Aq nq cq mask ef Ak nk ck Aw nw cw wt Ab nb cb bs) := by
  have HL := hide (And.intro hnw hnb)
  have H := hide (show RfP w R w.heap.size (w.heap.size + 1) #[.slice Aq nq cq, .int .u64 mask, .int .i64 ef, .slice Ak nk ck, .slice Aw nw cw, .slice Ab nb cb] #[.slice none 0 0, .int .u64 0, .int .i64 0, .slice none 0 0, .slice none 0 0, .slice none 0 0] [] none [] none [] none [] Aw wt Ab bs ((w.alloc (.cells #[.slice Aq nq cq, .int .u64 mask, .int .i64 ef, .slice Ak nk ck, .slice Aw nw cw, .slice Ab nb cb] 31)).alloc (.cells #[.slice none 0 0, .int .u64 0, .int .i64 0, .slice none 0 0, .slice none 0 0, .slice none 0 0] 31)) from
    RfP.start (((Below.refl _ _).alloc (Nat.le_refl _) _).alloc (by simp) _) hR ((Blk.new w 31 #[.slice Aq nq cq, .int .u64 mask, .int .i64 ef, .slice Ak nk ck, .slice Aw nw cw, .slice Ab nb cb]).alloc _) (by have := Blk.new (w.alloc (.cells #[.slice Aq nq cq, .int .u64 mask, .int .i64 ef, .slice Ak nk ck, .slice Aw nw cw, .slice Ab nb cb] 31)) 31 #[.slice none 0 0, .int .u64 0, .int .i64 0, .slice none 0 0, .slice none 0 0, .slice none 0 0]; simpa using this) (Nat.le_refl _) (by omega) (by omega) ⟨RdR.nil, RdR.nil, hw, hb, RdR.nil⟩ (fun q hq => by simp at hq))
  have HMo := hide (fun W => refMost_any ef W)
  have hmo := mostB_le_P ef
  obtain ⟨K, hK⟩ : ∃ K, mostB ef = K := ⟨_, rfl⟩
  rw [hK] at HMo hmo
  have HK := hide hK
  clear hK hw hb hR hnw hnb
  unfold aggP
  go_enter Try.func7, Try.ntmps7
  go_upto_region 1 with fail
  generalize World.alloc (World.alloc w _) _ = W1 at *
  generalize w.heap.size + 1 = gr at *
  obtain ⟨gp, hgp⟩ : ∃ gp, w.heap.size = gp := ⟨_, rfl⟩
  have HA : Hid (RfP w R gp gr #[.slice Aq nq cq, .int .u64 mask, .int .i64 ef, .slice Ak nk ck, .slice Aw nw cw, .slice Ab nb cb] #[.slice none 0 0, .int .u64 0, .int .i64 0, .slice none 0 0, .slice none 0 0, .slice none 0 0] [] none [] none [] none [] Aw wt Ab bs W1) := by rw [← hgp]; exact H
  rw [hgp]
  clear H hgp
  have c2 := HA.out.p.cell 2
  simp at c2
  go_upto_region 2 with (go_at_call 21; refine (HMo.out _).mono ?_; rintro e _ ⟨rfl, rfl⟩)
  clear c2 HMo
  by_cases h0 : nw = 0
  · subst h0
    have HD := hide (show doneR K wt bs = true by unfold doneR; rw [HL.out.1]; rfl)
    refine startO (S := (RfP w R gp gr #[.slice Aq nq cq, .int .u64 mask, .int .i64 ef, .slice Ak nk ck, .slice Aw 0 cw, .slice Ab nb cb] #[.slice none 0 0, .int .u64 0, .int .i64 0, .slice none 0 0, .slice none 0 0, .slice none 0 0] [] none [] none [] none [] Aw wt Ab bs)) 28 (by as_aux_lemma => kernel_rfl) (by as_aux_lemma => kernel_rfl) (HA.out.step (Below.refl _ _).drew) (fun hHeld => ?_)
    clear HA
    generalize World.drew _ = Wd at *
    refine takeO 0 10 (.fieldAddr 31 (.const (.pointer (some ⟨gp, 0, none⟩))) 4) 0 (.pointer (some ⟨gp, 4, none⟩)) (by as_aux_lemma => kernel_rfl) (by as_aux_lemma => kernel_rfl) (by as_aux_lemma => kernel_rfl) (fun _ _ _ _ _ h => h) (fun W hS => by clear hS hHeld; unfold cEv opC; as_aux_lemma => first | (go_simp; done) | (go_simp <;> rfl)) hHeld ?_
    refine takeO 1 11 (.load 29 (.const (.pointer (some ⟨gp, 4, none⟩)))) 29 (.slice Aw 0 cw) (by as_aux_lemma => kernel_rfl) (by as_aux_lemma => kernel_rfl) (by as_aux_lemma => kernel_rfl) (fun _ _ _ _ _ h => h) (fun W hS => by have z4 := hS.p.cell 4; have z5 := hS.p.cell 5; simp at z4 z5; clear hS hHeld; unfold cEv opC; as_aux_lemma => first | (go_simp; done) | (go_simp <;> rfl)) hHeld ?_
    refine takeO 2 12 (.call { callee := .builtin .len, args := #[.const (.slice Aw 0 cw)], argTypes := #[29] }) 3 (.int .i64 0) (by as_aux_lemma => kernel_rfl) (by as_aux_lemma => kernel_rfl) (by as_aux_lemma => kernel_rfl) (fun _ _ _ _ _ h => h) (fun W hS => by clear hS hHeld; unfold cEv opC; as_aux_lemma => first | (go_simp; done) | (go_simp <;> rfl)) hHeld ?_
    refine takeO 3 13 (.binOp .eql 3 (.const (.int .i64 0)) (.const (.int .i64 0)) 3) 4 (.bool true) (by as_aux_lemma => kernel_rfl) (by as_aux_lemma => kernel_rfl) (by as_aux_lemma => kernel_rfl) (fun _ _ _ _ _ h => h) (fun W hS => by clear hS hHeld; unfold cEv opC; as_aux_lemma => first | (go_simp; done) | (go_simp <;> rfl)) hHeld ?_
    refine putsO [4, 5, 6, 7, 8, 9, 12, 10, 11, 13, 14, 15, 17, 21, 16, 18, 22, 19, 23, 20, 24, 25, 26, 27] [27, 26, 25, 24, 20, 23, 19, 22, 18, 16, 21, 17, 15, 14, 13, 11, 10, 12, 9, 8, 7, 6, 5, 4] [(37, .bool true), (36, undef), (35, undef), (34, undef), (30, undef), (33, undef), (29, undef), (32, undef), (28, undef), (26, undef), (31, undef), (27, undef), (25, undef), (24, undef), (23, undef), (21, undef), (20, undef), (22, undef), (19, undef), (18, .bool true), (17, .bool true), (16, undef), (15, undef), (14, .bool true)] 24 rfl [14, 15, 16, 17, 18, 19, 22, 20, 21, 23, 24, 25, 27, 31, 26, 28, 32, 29, 33, 30, 34, 35, 36, 37] (by as_aux_lemma => kernel_rfl) (by as_aux_lemma => kernel_rfl) rfl (fun _ _ _ _ _ h => h) hHeld ?_
    refine doneO [(10, .pointer (some ⟨gp, 4, none⟩)), (0, .slice Aw 0 cw), (0, .int .i64 0), (0, .bool true), (0, .bool true), (0, undef), (0, undef), (0, .bool true), (0, .bool true), (0, undef), (0, undef), (0, undef), (0, undef), (0, undef), (0, undef), (0, undef), (0, undef), (0, undef), (0, undef), (0, undef), (0, undef), (0, undef), (0, undef), (0, undef), (0, undef), (0, undef), (0, undef), (0, .bool true)] (by as_aux_lemma => kernel_rfl) (by as_aux_lemma => kernel_rfl) ?_
    simp only [fillG]
    have HD2 := hide hHeld
    clear hHeld
    have c0 := HD2.out.p.cell 0; have c1 := HD2.out.p.cell 1; have c2 := HD2.out.p.cell 2; have c3 := HD2.out.p.cell 3; have c4 := HD2.out.p.cell 4; have c5 := HD2.out.p.cell 5; simp at c0 c1 c2 c3 c4 c5
    have r0 := HD2.out.r.cell 0; have r1 := HD2.out.r.cell 1; have r2 := HD2.out.r.cell 2; have r3 := HD2.out.r.cell 3; have r4 := HD2.out.r.cell 4; have r5 := HD2.out.r.cell 5; have f0 := HD2.out.r.frozen 0; have f1 := HD2.out.r.frozen 1; have f2 := HD2.out.r.frozen 2; have f3 := HD2.out.r.frozen 3; have f4 := HD2.out.r.frozen 4; have f5 := HD2.out.r.frozen 5; simp at r0 r1 r2 r3 r4 r5
    go_wp2
    have HZ := hide (HD2.out.res rfl)
    have q0 := HZ.out.r.cell 0
    have q1 := HZ.out.r.cell 1
    have q2 := HZ.out.r.cell 2
    have q3 := HZ.out.r.cell 3
    have q4 := HZ.out.r.cell 4
    have q5 := HZ.out.r.cell 5
    simp at q0 q1 q2 q3 q4 q5
    refine bodyPost_ret (v := .tuple #[.agg #[.slice Aq nq cq, .int .u64 mask, .int .i64 ef, .slice Ak nk ck, .slice Aw 0 cw, .slice Ab nb cb], .int .i64 0, .bool false]) (by simp [results, Try.results7, go_sem, q0, q1, q2, q3, q4, q5]) rfl ?_
    exact ⟨HZ.out.bel, .inl ⟨by rw [HK.out]; exact HD.out, rfl⟩⟩
  obtain ⟨adw, rfl⟩ := HA.out.wt.some_ofP (by have := HL.out.1; omega)
  have e_wa : (((nw : Nat) : Int) == 0) = false := by rw [beq_eq_false_iff_ne]; omega
  have e_wb : decide (((nw : Nat) : Int) = 0) = false := by simp; omega
  have e_wc : decide (nw = 0) = false := by simp; omega
  have e_wd : (nw == 0) = false := by simp; omega
  obtain ⟨⟨⟨a0, a1⟩, a2⟩, hf⟩ : ∃ x, fstS wt = x := ⟨_, rfl⟩
  have HF := hide (show wt[0]? = some ((a0, a1), a2) by rw [← hf]; exact fstS_at (by have := HL.out.1; omega))
  have HFs := hide hf
  have i0 : (0 : Int) < nw := by omega
  have i1 : (1 : Int) ≤ nw := by omega
  have i2 : 0 < nw := by omega
  have i3 : 1 ≤ nw := by omega
  have h0f : decide (wt.length = 0) = false := decide_eq_false (by have := HL.out.1; omega)
  by_cases h1 : K = 0
  · subst h1
    have HD := hide (show doneR 0 wt bs = true by unfold doneR; rw [h0f]; rfl)
    clear hf
    refine startO (S := (RfP w R gp gr #[.slice Aq nq cq, .int .u64 mask, .int .i64 ef, .slice Ak nk ck, .slice (some adw) nw cw, .slice Ab nb cb] #[.slice none 0 0, .int .u64 0, .int .i64 0, .slice none 0 0, .slice none 0 0, .slice none 0 0] [] none [] none [] none [] (some adw) wt Ab bs)) 28 (by as_aux_lemma => kernel_rfl) (by as_aux_lemma => kernel_rfl) (HA.out.step (Below.refl _ _).drew) (fun hHeld => ?_)
    clear HA
    generalize World.drew _ = Wd at *
    refine takeO 0 10 (.fieldAddr 31 (.const (.pointer (some ⟨gp, 0, none⟩))) 4) 0 (.pointer (some ⟨gp, 4, none⟩)) (by as_aux_lemma => kernel_rfl) (by as_aux_lemma => kernel_rfl) (by as_aux_lemma => kernel_rfl) (fun _ _ _ _ _ h => h) (fun W hS => by clear hS hHeld; unfold cEv opC; as_aux_lemma => first | (go_simp; done) | (go_simp <;> rfl)) hHeld ?_
    refine takeO 1 11 (.load 29 (.const (.pointer (some ⟨gp, 4, none⟩)))) 29 (.slice (some adw) nw cw) (by as_aux_lemma => kernel_rfl) (by as_aux_lemma => kernel_rfl) (by as_aux_lemma => kernel_rfl) (fun _ _ _ _ _ h => h) (fun W hS => by have z4 := hS.p.cell 4; have z5 := hS.p.cell 5; simp at z4 z5; clear hS hHeld; unfold cEv opC; as_aux_lemma => first | (go_simp; done) | (go_simp <;> rfl)) hHeld ?_
    refine takeO 2 12 (.call { callee := .builtin .len, args := #[.const (.slice (some adw) nw cw)], argTypes := #[29] }) 3 (.int .i64 nw) (by as_aux_lemma => kernel_rfl) (by as_aux_lemma => kernel_rfl) (by as_aux_lemma => kernel_rfl) (fun _ _ _ _ _ h => h) (fun W hS => by clear hS hHeld; unfold cEv opC; as_aux_lemma => first | (go_simp; done) | (go_simp <;> rfl)) hHeld ?_
    refine takeO 3 13 (.binOp .eql 3 (.const (.int .i64 nw)) (.const (.int .i64 0)) 3) 4 (.bool false) (by as_aux_lemma => kernel_rfl) (by as_aux_lemma => kernel_rfl) (by as_aux_lemma => kernel_rfl) (fun _ _ _ _ _ h => h) (fun W hS => by clear hS hHeld; unfold cEv opC; as_aux_lemma => first | (go_simp; done) | (go_simp <;> rfl)) hHeld ?_
    refine putsO [4, 5] [5, 4] [(15, .int .i64 0), (14, .bool false)] 2 rfl [14, 15] (by as_aux_lemma => kernel_rfl) (by as_aux_lemma => kernel_rfl) rfl (fun _ _ _ _ _ h => h) hHeld ?_
    refine takeO 6 16 (.binOp .eql 3 (.const (.int .i64 0)) (.const (.int .i64 0)) 3) 4 (.bool true) (by as_aux_lemma => kernel_rfl) (by as_aux_lemma => kernel_rfl) (by as_aux_lemma => kernel_rfl) (fun _ _ _ _ _ h => h) (fun W hS => by clear hS hHeld; unfold cEv opC; as_aux_lemma => first | (go_simp; done) | (go_simp <;> rfl)) hHeld ?_
    refine putsO [7, 8, 9, 12, 10, 11, 13, 14, 15, 17, 21, 16, 18, 22, 19, 23, 20, 24, 25, 26, 27] [27, 26, 25, 24, 20, 23, 19, 22, 18, 16, 21, 17, 15, 14, 13, 11, 10, 12, 9, 8, 7] [(37, .bool true), (36, undef), (35, undef), (34, undef), (30, undef), (33, undef), (29, undef), (32, undef), (28, undef), (26, undef), (31, undef), (27, undef), (25, undef), (24, undef), (23, undef), (21, undef), (20, undef), (22, undef), (19, undef), (18, .bool true), (17, .bool true)] 21 rfl [17, 18, 19, 22, 20, 21, 23, 24, 25, 27, 31, 26, 28, 32, 29, 33, 30, 34, 35, 36, 37] (by as_aux_lemma => kernel_rfl) (by as_aux_lemma => kernel_rfl) rfl (fun _ _ _ _ _ h => h) hHeld ?_
    refine doneO [(10, .pointer (some ⟨gp, 4, none⟩)), (0, .slice (some adw) nw cw), (0, .int .i64 nw), (0, .bool false), (0, .bool false), (0, .int .i64 0), (0, .bool true), (0, .bool true), (0, .bool true), (0, undef), (0, undef), (0, undef), (0, undef), (0, undef), (0, undef), (0, undef), (0, undef), (0, undef), (0, undef), (0, undef), (0, undef), (0, undef), (0, undef), (0, undef), (0, undef), (0, undef), (0, undef), (0, .bool true)] (by as_aux_lemma => kernel_rfl) (by as_aux_lemma => kernel_rfl) ?_
    simp only [fillG]
    have HD2 := hide hHeld
    clear hHeld
    have c0 := HD2.out.p.cell 0; have c1 := HD2.out.p.cell 1; have c2 := HD2.out.p.cell 2; have c3 := HD2.out.p.cell 3; have c4 := HD2.out.p.cell 4; have c5 := HD2.out.p.cell 5; simp at c0 c1 c2 c3 c4 c5
    have r0 := HD2.out.r.cell 0; have r1 := HD2.out.r.cell 1; have r2 := HD2.out.r.cell 2; have r3 := HD2.out.r.cell 3; have r4 := HD2.out.r.cell 4; have r5 := HD2.out.r.cell 5; have f0 := HD2.out.r.frozen 0; have f1 := HD2.out.r.frozen 1; have f2 := HD2.out.r.frozen 2; have f3 := HD2.out.r.frozen 3; have f4 := HD2.out.r.frozen 4; have f5 := HD2.out.r.frozen 5; simp at r0 r1 r2 r3 r4 r5
    go_wp2
    have HZ := hide (HD2.out.res rfl)
    have q0 := HZ.out.r.cell 0
    have q1 := HZ.out.r.cell 1
    have q2 := HZ.out.r.cell 2
    have q3 := HZ.out.r.cell 3
    have q4 := HZ.out.r.cell 4
    have q5 := HZ.out.r.cell 5
    simp at q0 q1 q2 q3 q4 q5
    refine bodyPost_ret (v := .tuple #[.agg #[.slice Aq nq cq, .int .u64 mask, .int .i64 ef, .slice Ak nk ck, .slice (some adw) nw cw, .slice Ab nb cb], .int .i64 0, .bool false]) (by simp [results, Try.results7, go_sem, q0, q1, q2, q3, q4, q5]) rfl ?_
    exact ⟨HZ.out.bel, .inl ⟨by rw [HK.out]; exact HD.out, rfl⟩⟩
  have e_ka : (((K : Nat) : Int) == 0) = false := by rw [beq_eq_false_iff_ne]; omega
  have e_kb : decide (((K : Nat) : Int) = 0) = false := by simp; omega
  have e_kc : decide (K = 0) = false := by simp; omega
  have e_kd : (K == 0) = false := by simp; omega
  have h1f : decide (K = 0) = false := decide_eq_false h1
  by_cases h2 : nb = K
  · subst h2
    obtain ⟨j, hj⟩ : ∃ j, nb = j + 1 := ⟨nb - 1, by omega⟩
    obtain ⟨adb, rfl⟩ := HA.out.bs.some_ofP (by have := HL.out.2; omega)
    have h2f : decide (bs.length = nb) = true := decide_eq_true HL.out.2
    have j0 : (0 : Int) ≤ j := by omega
    have j1 : (j : Int) < (nb : Int) := by omega
    have j2 : j < nb := by omega
    have hw1 : IntKind.i64.wrap (j : Int) = j := IntWalk.i64_in _ (by omega)
    have hw2 : IntKind.i64.wrap ((nb : Int) - 1) = j := by rw [IntWalk.i64_in _ (by omega)]; omega
    have hw3 : (nb : Int) - 1 = j := by omega
    obtain ⟨⟨⟨b0, b1⟩, b2⟩, hl⟩ : ∃ x, lstS bs = x := ⟨_, rfl⟩
    have HB := hide (show bs[j]? = some ((b0, b1), b2) by rw [← hl]; exact lstS_at (by rw [HL.out.2]; exact hj))
    have HSp := hide (fun W => refSpot_any ((b0, b1), b2) ((a0, a1), a2) W)
    have hd : doneR nb wt bs = sptLt ((b0, b1), b2) ((a0, a1), a2) := by unfold doneR; rw [h0f, h1f, h2f, hl, hf]; rfl
    clear hl hf h0f h1f h2f hj
    rcases ht : sptLt ((b0, b1), b2) ((a0, a1), a2) with _ | _
    · rw [ht] at HSp hd
      have HD := hide hd
      clear ht hd
      refine startO (S := (RfP w R gp gr #[.slice Aq nq cq, .int .u64 mask, .int .i64 ef, .slice Ak nk ck, .slice (some adw) nw cw, .slice (some adb) nb cb] #[.slice none 0 0, .int .u64 0, .int .i64 0, .slice none 0 0, .slice none 0 0, .slice none 0 0] [] none [] none [] none [] (some adw) wt (some adb) bs)) 28 (by as_aux_lemma => kernel_rfl) (by as_aux_lemma => kernel_rfl) (HA.out.step (Below.refl _ _).drew) (fun hHeld => ?_)
      clear HA
      generalize World.drew _ = Wd at *
      refine takeO 0 10 (.fieldAddr 31 (.const (.pointer (some ⟨gp, 0, none⟩))) 4) 0 (.pointer (some ⟨gp, 4, none⟩)) (by as_aux_lemma => kernel_rfl) (by as_aux_lemma => kernel_rfl) (by as_aux_lemma => kernel_rfl) (fun _ _ _ _ _ h => h) (fun W hS => by clear hS hHeld; unfold cEv opC; as_aux_lemma => first | (go_simp; done) | (go_simp <;> rfl)) hHeld ?_
      refine takeO 1 11 (.load 29 (.const (.pointer (some ⟨gp, 4, none⟩)))) 29 (.slice (some adw) nw cw) (by as_aux_lemma => kernel_rfl) (by as_aux_lemma => kernel_rfl) (by as_aux_lemma => kernel_rfl) (fun _ _ _ _ _ h => h) (fun W hS => by have z4 := hS.p.cell 4; have z5 := hS.p.cell 5; simp at z4 z5; clear hS hHeld; unfold cEv opC; as_aux_lemma => first | (go_simp; done) | (go_simp <;> rfl)) hHeld ?_
      refine takeO 2 12 (.call { callee := .builtin .len, args := #[.const (.slice (some adw) nw cw)], argTypes := #[29] }) 3 (.int .i64 nw) (by as_aux_lemma => kernel_rfl) (by as_aux_lemma => kernel_rfl) (by as_aux_lemma => kernel_rfl) (fun _ _ _ _ _ h => h) (fun W hS => by clear hS hHeld; unfold cEv opC; as_aux_lemma => first | (go_simp; done) | (go_simp <;> rfl)) hHeld ?_
      refine takeO 3 13 (.binOp .eql 3 (.const (.int .i64 nw)) (.const (.int .i64 0)) 3) 4 (.bool false) (by as_aux_lemma => kernel_rfl) (by as_aux_lemma => kernel_rfl) (by as_aux_lemma => kernel_rfl) (fun _ _ _ _ _ h => h) (fun W hS => by clear hS hHeld; unfold cEv opC; as_aux_lemma => first | (go_simp; done) | (go_simp <;> rfl)) hHeld ?_
      refine putsO [4, 5] [5, 4] [(15, .int .i64 nb), (14, .bool false)] 2 rfl [14, 15] (by as_aux_lemma => kernel_rfl) (by as_aux_lemma => kernel_rfl) rfl (fun _ _ _ _ _ h => h) hHeld ?_
      refine takeO 6 16 (.binOp .eql 3 (.const (.int .i64 nb)) (.const (.int .i64 0)) 3) 4 (.bool false) (by as_aux_lemma => kernel_rfl) (by as_aux_lemma => kernel_rfl) (by as_aux_lemma => kernel_rfl) (fun _ _ _ _ _ h => h) (fun W hS => by clear hS hHeld; unfold cEv opC; as_aux_lemma => first | (go_simp; done) | (go_simp <;> rfl)) hHeld ?_
      refine putsO [7, 8, 12] [12, 8, 7] [(22, .int .i64 nb), (18, .bool false), (17, .bool false)] 3 rfl [17, 18, 22] (by as_aux_lemma => kernel_rfl) (by as_aux_lemma => kernel_rfl) rfl (fun _ _ _ _ _ h => h) hHeld ?_
      refine takeO 9 19 (.fieldAddr 31 (.const (.pointer (some ⟨gp, 0, none⟩))) 5) 0 (.pointer (some ⟨gp, 5, none⟩)) (by as_aux_lemma => kernel_rfl) (by as_aux_lemma => kernel_rfl) (by as_aux_lemma => kernel_rfl) (fun _ _ _ _ _ h => h) (fun W hS => by clear hS hHeld; unfold cEv opC; as_aux_lemma => first | (go_simp; done) | (go_simp <;> rfl)) hHeld ?_
      refine takeO 10 20 (.load 29 (.const (.pointer (some ⟨gp, 5, none⟩)))) 29 (.slice (some adb) nb cb) (by as_aux_lemma => kernel_rfl) (by as_aux_lemma => kernel_rfl) (by as_aux_lemma => kernel_rfl) (fun _ _ _ _ _ h => h) (fun W hS => by have z4 := hS.p.cell 4; have z5 := hS.p.cell 5; simp at z4 z5; clear hS hHeld; unfold cEv opC; as_aux_lemma => first | (go_simp; done) | (go_simp <;> rfl)) hHeld ?_
      refine takeO 11 21 (.call { callee := .builtin .len, args := #[.const (.slice (some adb) nb cb)], argTypes := #[29] }) 3 (.int .i64 nb) (by as_aux_lemma => kernel_rfl) (by as_aux_lemma => kernel_rfl) (by as_aux_lemma => kernel_rfl) (fun _ _ _ _ _ h => h) (fun W hS => by clear hS hHeld; unfold cEv opC; as_aux_lemma => first | (go_simp; done) | (go_simp <;> rfl)) hHeld ?_
      refine takeO 13 23 (.binOp .eql 3 (.const (.int .i64 nb)) (.const (.int .i64 nb)) 3) 4 (.bool true) (by as_aux_lemma => kernel_rfl) (by as_aux_lemma => kernel_rfl) (by as_aux_lemma => kernel_rfl) (fun _ _ _ _ _ h => h) (fun W hS => by clear hS hHeld; unfold cEv opC; as_aux_lemma => first | (go_simp; done) | (go_simp <;> rfl)) hHeld ?_
      refine putsO [14, 17] [17, 14] [(27, .int .i64 nb), (24, .bool true)] 2 rfl [24, 27] (by as_aux_lemma => kernel_rfl) (by as_aux_lemma => kernel_rfl) rfl (fun _ _ _ _ _ h => h) hHeld ?_
      refine takeO 15 25 (.fieldAddr 31 (.const (.pointer (some ⟨gp, 0, none⟩))) 5) 0 (.pointer (some ⟨gp, 5, none⟩)) (by as_aux_lemma => kernel_rfl) (by as_aux_lemma => kernel_rfl) (by as_aux_lemma => kernel_rfl) (fun _ _ _ _ _ h => h) (fun W hS => by clear hS hHeld; unfold cEv opC; as_aux_lemma => first | (go_simp; done) | (go_simp <;> rfl)) hHeld ?_
      refine takeO 18 28 (.binOp .sub 3 (.const (.int .i64 nb)) (.const (.int .i64 1)) 3) 3 (.int .i64 j) (by as_aux_lemma => kernel_rfl) (by as_aux_lemma => kernel_rfl) (by as_aux_lemma => kernel_rfl) (fun _ _ _ _ _ h => h) (fun W hS => by clear hS hHeld; unfold cEv opC; as_aux_lemma => first | (go_simp; done) | (go_simp <;> rfl)) hHeld ?_
      refine takeO 21 31 (.fieldAddr 31 (.const (.pointer (some ⟨gp, 0, none⟩))) 4) 0 (.pointer (some ⟨gp, 4, none⟩)) (by as_aux_lemma => kernel_rfl) (by as_aux_lemma => kernel_rfl) (by as_aux_lemma => kernel_rfl) (fun _ _ _ _ _ h => h) (fun W hS => by clear hS hHeld; unfold cEv opC; as_aux_lemma => first | (go_simp; done) | (go_simp <;> rfl)) hHeld ?_
      refine takeO 16 26 (.load 29 (.const (.pointer (some ⟨gp, 5, none⟩)))) 29 (.slice (some adb) nb cb) (by as_aux_lemma => kernel_rfl) (by as_aux_lemma => kernel_rfl) (by as_aux_lemma => kernel_rfl) (fun _ _ _ _ _ h => h) (fun W hS => by have z4 := hS.p.cell 4; have z5 := hS.p.cell 5; simp at z4 z5; clear hS hHeld; unfold cEv opC; as_aux_lemma => first | (go_simp; done) | (go_simp <;> rfl)) hHeld ?_
      refine takeO 22 32 (.load 29 (.const (.pointer (some ⟨gp, 4, none⟩)))) 29 (.slice (some adw) nw cw) (by as_aux_lemma => kernel_rfl) (by as_aux_lemma => kernel_rfl) (by as_aux_lemma => kernel_rfl) (fun _ _ _ _ _ h => h) (fun W hS => by have z4 := hS.p.cell 4; have z5 := hS.p.cell 5; simp at z4 z5; clear hS hHeld; unfold cEv opC; as_aux_lemma => first | (go_simp; done) | (go_simp <;> rfl)) hHeld ?_
      refine takeO 19 29 (.indexAddr 29 (.const (.slice (some adb) nb cb)) (.const (.int .i64 j))) 0 (.pointer (some (adb.add (j * 3)))) (by as_aux_lemma => kernel_rfl) (by as_aux_lemma => kernel_rfl) (by as_aux_lemma => kernel_rfl) (fun _ _ _ _ _ h => h) (fun W hS => by clear hS hHeld; unfold cEv opC; as_aux_lemma => first | (go_simp; done) | (go_simp <;> rfl)) hHeld ?_
      refine takeO 23 33 (.indexAddr 29 (.const (.slice (some adw) nw cw)) (.const (.int .i64 0))) 0 (.pointer (some adw)) (by as_aux_lemma => kernel_rfl) (by as_aux_lemma => kernel_rfl) (by as_aux_lemma => kernel_rfl) (fun _ _ _ _ _ h => h) (fun W hS => by clear hS hHeld; unfold cEv opC; as_aux_lemma => first | (go_simp; done) | (go_simp <;> rfl)) hHeld ?_
      refine takeO 20 30 (.load 53 (.const (.pointer (some (adb.add (j * 3)))))) 53 (.agg #[.int .u64 b0, .int .u64 b1, .int .i64 b2]) (by as_aux_lemma => kernel_rfl) (by as_aux_lemma => kernel_rfl) (by as_aux_lemma => kernel_rfl) (fun _ _ _ _ _ h => h) (fun W hS => by obtain ⟨z0, z1, z2⟩ := RdR.scellP hS.bs HB.out; simp only at z0 z1 z2; clear hS hHeld; unfold cEv opC; as_aux_lemma => first | (go_simp; done) | (go_simp <;> rfl)) hHeld ?_
      refine takeO 24 34 (.load 53 (.const (.pointer (some adw)))) 53 (.agg #[.int .u64 a0, .int .u64 a1, .int .i64 a2]) (by as_aux_lemma => kernel_rfl) (by as_aux_lemma => kernel_rfl) (by as_aux_lemma => kernel_rfl) (fun _ _ _ _ _ h => h) (fun W hS => by obtain ⟨z0, z1, z2⟩ := RdR.scellP hS.wt HF.out; rw [Nat.zero_mul, add_zero'] at z0 z1 z2; simp only at z0 z1 z2; clear hS hHeld; unfold cEv opC; as_aux_lemma => first | (go_simp; done) | (go_simp <;> rfl)) hHeld ?_
      refine readyO [25] (by as_aux_lemma => kernel_rfl) (by simp) ?_
      refine callO 25 35 (.call { callee := .value (.func 22), args := #[.const (.agg #[.int .u64 b0, .int .u64 b1, .int .i64 b2]), .const (.agg #[.int .u64 a0, .int .u64 a1, .int .i64 a2])], argTypes := #[53, 53] }) 4 22 #[.agg #[.int .u64 b0, .int .u64 b1, .int .i64 b2], .agg #[.int .u64 a0, .int .u64 a1, .int .i64 a2]] (by as_aux_lemma => kernel_rfl) (by as_aux_lemma => kernel_rfl) (by unfold cEv opC; go_simp) ?_ AllReadyH.nil
      refine (HSp.out _).mono ?_
      rintro e wq ⟨rfl, hbq⟩
      refine ⟨_, rfl, (hHeld.step hbq), fun hHeld2 => ?_⟩
      clear hHeld
      have hHeld := hHeld2
      clear hHeld2
      clear hbq
      refine putsO [26, 27] [27, 26] [(37, .bool false), (36, .bool false)] 2 rfl [36, 37] (by as_aux_lemma => kernel_rfl) (by as_aux_lemma => kernel_rfl) rfl (fun _ _ _ _ _ h => h) hHeld ?_
      refine doneO [(10, .pointer (some ⟨gp, 4, none⟩)), (0, .slice (some adw) nw cw), (0, .int .i64 nw), (0, .bool false), (0, .bool false), (0, .int .i64 nb), (0, .bool false), (0, .bool false), (0, .bool false), (0, .pointer (some ⟨gp, 5, none⟩)), (0, .slice (some adb) nb cb), (0, .int .i64 nb), (0, .int .i64 nb), (0, .bool true), (0, .bool true), (0, .pointer (some ⟨gp, 5, none⟩)), (0, .slice (some adb) nb cb), (0, .int .i64 nb), (0, .int .i64 j), (0, .pointer (some (adb.add (j * 3)))), (0, .agg #[.int .u64 b0, .int .u64 b1, .int .i64 b2]), (0, .pointer (some ⟨gp, 4, none⟩)), (0, .slice (some adw) nw cw), (0, .pointer (some adw)), (0, .agg #[.int .u64 a0, .int .u64 a1, .int .i64 a2]), (0, .bool false), (0, .bool false), (0, .bool false)] (by as_aux_lemma => kernel_rfl) (by as_aux_lemma => kernel_rfl) ?_
      simp only [fillG]
      have HD2 := hide hHeld
      clear hHeld
      have c0 := HD2.out.p.cell 0; have c1 := HD2.out.p.cell 1; have c2 := HD2.out.p.cell 2; have c3 := HD2.out.p.cell 3; have c4 := HD2.out.p.cell 4; have c5 := HD2.out.p.cell 5; simp at c0 c1 c2 c3 c4 c5
      have g4 := HD2.out.p.frozen 4
      obtain ⟨z0, z1, z2⟩ := RdR.scellP HD2.out.wt HF.out
      rw [Nat.zero_mul, add_zero'] at z0 z1 z2
      simp only at z0 z1 z2
      have HC := hide (RdR.cut (k := 1) HD2.out.wt (show 1 ≤ nw by omega) HL.out.1 hcw)
      by_cases hc1 : cw = 1
      · subst hc1
        obtain rfl : nw = 1 := by omega
        have hnil : wt.drop 1 = [] := List.eq_nil_of_length_eq_zero (by rw [List.length_drop, HL.out.1])
        go_upto_region 6 with fail
        have H3 := hide (show RfP w R gp gr #[.slice Aq nq cq, .int .u64 mask, .int .i64 ef, .slice Ak nk ck, .slice (some adw) 0 0, .slice (some adb) nb cb] #[.slice none 0 0, .int .u64 0, .int .i64 0, .slice none 0 0, .slice none 0 0, .slice none 0 0] [] none [] none [] none [] (some adw) (wt.drop 1) _ bs _ from by have := (HD2.out.wt_ (A := some adw) (ls := wt.drop 1) (by rw [hnil]; exact RdR.nil)).set_ 4 (.slice (some adw) 0 0); simpa using this)
        clear c0 c1 c2 c3 c4 c5 g4 z0 z1 z2 HD2 HC
        generalize World.setCell _ _ _ = W3 at *
        have c0 := H3.out.p.cell 0; have c1 := H3.out.p.cell 1; have c2 := H3.out.p.cell 2; have c3 := H3.out.p.cell 3; have c4 := H3.out.p.cell 4; have c5 := H3.out.p.cell 5; simp at c0 c1 c2 c3 c4 c5
        have r0 := H3.out.r.cell 0; have r1 := H3.out.r.cell 1; have r2 := H3.out.r.cell 2; have r3 := H3.out.r.cell 3; have r4 := H3.out.r.cell 4; have r5 := H3.out.r.cell 5; have f0 := H3.out.r.frozen 0; have f1 := H3.out.r.frozen 1; have f2 := H3.out.r.frozen 2; have f3 := H3.out.r.frozen 3; have f4 := H3.out.r.frozen 4; have f5 := H3.out.r.frozen 5; simp at r0 r1 r2 r3 r4 r5
        go_wp2
        have HZ := hide (H3.out.res rfl)
        have q0 := HZ.out.r.cell 0
        have q1 := HZ.out.r.cell 1
        have q2 := HZ.out.r.cell 2
        have q3 := HZ.out.r.cell 3
        have q4 := HZ.out.r.cell 4
        have q5 := HZ.out.r.cell 5
        simp at q0 q1 q2 q3 q4 q5
        refine bodyPost_ret (v := .tuple #[.agg #[.slice Aq nq cq, .int .u64 mask, .int .i64 ef, .slice Ak nk ck, .slice (some adw) 0 0, .slice (some adb) nb cb], .int .i64 a2, .bool true]) (by simp [results, Try.results7, go_sem, q0, q1, q2, q3, q4, q5]) rfl ?_
        exact ⟨HZ.out.bel, .inr ⟨by rw [HK.out]; exact HD.out, some adw, 0, by rw [HFs.out]; rfl, by omega, by omega, HZ.out.out HZ.out.wt⟩⟩
      · have hc2 : 1 ≤ cw - 1 ∨ cw = 0 := by omega
        rw [if_neg hc1] at HC
        go_upto_region 6 with fail
        have H3 := hide (show RfP w R gp gr #[.slice Aq nq cq, .int .u64 mask, .int .i64 ef, .slice Ak nk ck, .slice (some ⟨adw.block, adw.off + 3, none⟩) (nw - 1) (cw - 1), .slice (some adb) nb cb] #[.slice none 0 0, .int .u64 0, .int .i64 0, .slice none 0 0, .slice none 0 0, .slice none 0 0] [] none [] none [] none [] (some ⟨adw.block, adw.off + 3, none⟩) (wt.drop 1) _ bs _ from by have := (HD2.out.wt_ (A := some ⟨adw.block, adw.off + 3, none⟩) (ls := wt.drop 1) (rd_add3 HC.out)).set_ 4 (.slice (some ⟨adw.block, adw.off + 3, none⟩) (nw - 1) (cw - 1)); simpa using this)
        clear c0 c1 c2 c3 c4 c5 g4 z0 z1 z2 HD2 HC
        generalize World.setCell _ _ _ = W3 at *
        have c0 := H3.out.p.cell 0; have c1 := H3.out.p.cell 1; have c2 := H3.out.p.cell 2; have c3 := H3.out.p.cell 3; have c4 := H3.out.p.cell 4; have c5 := H3.out.p.cell 5; simp at c0 c1 c2 c3 c4 c5
        have r0 := H3.out.r.cell 0; have r1 := H3.out.r.cell 1; have r2 := H3.out.r.cell 2; have r3 := H3.out.r.cell 3; have r4 := H3.out.r.cell 4; have r5 := H3.out.r.cell 5; have f0 := H3.out.r.frozen 0; have f1 := H3.out.r.frozen 1; have f2 := H3.out.r.frozen 2; have f3 := H3.out.r.frozen 3; have f4 := H3.out.r.frozen 4; have f5 := H3.out.r.frozen 5; simp at r0 r1 r2 r3 r4 r5
        go_wp2
        have HZ := hide (H3.out.res rfl)
        have q0 := HZ.out.r.cell 0
        have q1 := HZ.out.r.cell 1
        have q2 := HZ.out.r.cell 2
        have q3 := HZ.out.r.cell 3
        have q4 := HZ.out.r.cell 4
        have q5 := HZ.out.r.cell 5
        simp at q0 q1 q2 q3 q4 q5
        refine bodyPost_ret (v := .tuple #[.agg #[.slice Aq nq cq, .int .u64 mask, .int .i64 ef, .slice Ak nk ck, .slice (some ⟨adw.block, adw.off + 3, none⟩) (nw - 1) (cw - 1), .slice (some adb) nb cb], .int .i64 a2, .bool true]) (by simp [results, Try.results7, go_sem, q0, q1, q2, q3, q4, q5]) rfl ?_
        exact ⟨HZ.out.bel, .inr ⟨by rw [HK.out]; exact HD.out, some ⟨adw.block, adw.off + 3, none⟩, cw - 1, by rw [HFs.out]; rfl, by omega, by omega, HZ.out.out HZ.out.wt⟩⟩
    · rw [ht] at HSp hd
      have HD := hide hd
      clear ht hd
      refine startO (S := (RfP w R gp gr #[.slice Aq nq cq, .int .u64 mask, .int .i64 ef, .slice Ak nk ck, .slice (some adw) nw cw, .slice (some adb) nb cb] #[.slice none 0 0, .int .u64 0, .int .i64 0, .slice none 0 0, .slice none 0 0, .slice none 0 0] [] none [] none [] none [] (some adw) wt (some adb) bs)) 28 (by as_aux_lemma => kernel_rfl) (by as_aux_lemma => kernel_rfl) (HA.out.step (Below.refl _ _).drew) (fun hHeld => ?_)
      clear HA
      generalize World.drew _ = Wd at *
      refine takeO 0 10 (.fieldAddr 31 (.const (.pointer (some ⟨gp, 0, none⟩))) 4) 0 (.pointer (some ⟨gp, 4, none⟩)) (by as_aux_lemma => kernel_rfl) (by as_aux_lemma => kernel_rfl) (by as_aux_lemma => kernel_rfl) (fun _ _ _ _ _ h => h) (fun W hS => by clear hS hHeld; unfold cEv opC; as_aux_lemma => first | (go_simp; done) | (go_simp <;> rfl)) hHeld ?_
      refine takeO 1 11 (.load 29 (.const (.pointer (some ⟨gp, 4, none⟩)))) 29 (.slice (some adw) nw cw) (by as_aux_lemma => kernel_rfl) (by as_aux_lemma => kernel_rfl) (by as_aux_lemma => kernel_rfl) (fun _ _ _ _ _ h => h) (fun W hS => by have z4 := hS.p.cell 4; have z5 := hS.p.cell 5; simp at z4 z5; clear hS hHeld; unfold cEv opC; as_aux_lemma => first | (go_simp; done) | (go_simp <;> rfl)) hHeld ?_
      refine takeO 2 12 (.call { callee := .builtin .len, args := #[.const (.slice (some adw) nw cw)], argTypes := #[29] }) 3 (.int .i64 nw) (by as_aux_lemma => kernel_rfl) (by as_aux_lemma => kernel_rfl) (by as_aux_lemma => kernel_rfl) (fun _ _ _ _ _ h => h) (fun W hS => by clear hS hHeld; unfold cEv opC; as_aux_lemma => first | (go_simp; done) | (go_simp <;> rfl)) hHeld ?_
      refine takeO 3 13 (.binOp .eql 3 (.const (.int .i64 nw)) (.const (.int .i64 0)) 3) 4 (.bool false) (by as_aux_lemma => kernel_rfl) (by as_aux_lemma => kernel_rfl) (by as_aux_lemma => kernel_rfl) (fun _ _ _ _ _ h => h) (fun W hS => by clear hS hHeld; unfold cEv opC; as_aux_lemma => first | (go_simp; done) | (go_simp <;> rfl)) hHeld ?_
      refine putsO [4, 5] [5, 4] [(15, .int .i64 nb), (14, .bool false)] 2 rfl [14, 15] (by as_aux_lemma => kernel_rfl) (by as_aux_lemma => kernel_rfl) rfl (fun _ _ _ _ _ h => h) hHeld ?_
      refine takeO 6 16 (.binOp .eql 3 (.const (.int .i64 nb)) (.const (.int .i64 0)) 3) 4 (.bool false) (by as_aux_lemma => kernel_rfl) (by as_aux_lemma => kernel_rfl) (by as_aux_lemma => kernel_rfl) (fun _ _ _ _ _ h => h) (fun W hS => by clear hS hHeld; unfold cEv opC; as_aux_lemma => first | (go_simp; done) | (go_simp <;> rfl)) hHeld ?_
      refine putsO [7, 8, 12] [12, 8, 7] [(22, .int .i64 nb), (18, .bool false), (17, .bool false)] 3 rfl [17, 18, 22] (by as_aux_lemma => kernel_rfl) (by as_aux_lemma => kernel_rfl) rfl (fun _ _ _ _ _ h => h) hHeld ?_
      refine takeO 9 19 (.fieldAddr 31 (.const (.pointer (some ⟨gp, 0, none⟩))) 5) 0 (.pointer (some ⟨gp, 5, none⟩)) (by as_aux_lemma => kernel_rfl) (by as_aux_lemma => kernel_rfl) (by as_aux_lemma => kernel_rfl) (fun _ _ _ _ _ h => h) (fun W hS => by clear hS hHeld; unfold cEv opC; as_aux_lemma => first | (go_simp; done) | (go_simp <;> rfl)) hHeld ?_
      refine takeO 10 20 (.load 29 (.const (.pointer (some ⟨gp, 5, none⟩)))) 29 (.slice (some adb) nb cb) (by as_aux_lemma => kernel_rfl) (by as_aux_lemma => kernel_rfl) (by as_aux_lemma => kernel_rfl) (fun _ _ _ _ _ h => h) (fun W hS => by have z4 := hS.p.cell 4; have z5 := hS.p.cell 5; simp at z4 z5; clear hS hHeld; unfold cEv opC; as_aux_lemma => first | (go_simp; done) | (go_simp <;> rfl)) hHeld ?_
      refine takeO 11 21 (.call { callee := .builtin .len, args := #[.const (.slice (some adb) nb cb)], argTypes := #[29] }) 3 (.int .i64 nb) (by as_aux_lemma => kernel_rfl) (by as_aux_lemma => kernel_rfl) (by as_aux_lemma => kernel_rfl) (fun _ _ _ _ _ h => h) (fun W hS => by clear hS hHeld; unfold cEv opC; as_aux_lemma => first | (go_simp; done) | (go_simp <;> rfl)) hHeld ?_
      refine takeO 13 23 (.binOp .eql 3 (.const (.int .i64 nb)) (.const (.int .i64 nb)) 3) 4 (.bool true) (by as_aux_lemma => kernel_rfl) (by as_aux_lemma => kernel_rfl) (by as_aux_lemma => kernel_rfl) (fun _ _ _ _ _ h => h) (fun W hS => by clear hS hHeld; unfold cEv opC; as_aux_lemma => first | (go_simp; done) | (go_simp <;> rfl)) hHeld ?_
      refine putsO [14, 17] [17, 14] [(27, .int .i64 nb), (24, .bool true)] 2 rfl [24, 27] (by as_aux_lemma => kernel_rfl) (by as_aux_lemma => kernel_rfl) rfl (fun _ _ _ _ _ h => h) hHeld ?_
      refine takeO 15 25 (.fieldAddr 31 (.const (.pointer (some ⟨gp, 0, none⟩))) 5) 0 (.pointer (some ⟨gp, 5, none⟩)) (by as_aux_lemma => kernel_rfl) (by as_aux_lemma => kernel_rfl) (by as_aux_lemma => kernel_rfl) (fun _ _ _ _ _ h => h) (fun W hS => by clear hS hHeld; unfold cEv opC; as_aux_lemma => first | (go_simp; done) | (go_simp <;> rfl)) hHeld ?_
      refine takeO 18 28 (.binOp .sub 3 (.const (.int .i64 nb)) (.const (.int .i64 1)) 3) 3 (.int .i64 j) (by as_aux_lemma => kernel_rfl) (by as_aux_lemma => kernel_rfl) (by as_aux_lemma => kernel_rfl) (fun _ _ _ _ _ h => h) (fun W hS => by clear hS hHeld; unfold cEv opC; as_aux_lemma => first | (go_simp; done) | (go_simp <;> rfl)) hHeld ?_
      refine takeO 21 31 (.fieldAddr 31 (.const (.pointer (some ⟨gp, 0, none⟩))) 4) 0 (.pointer (some ⟨gp, 4, none⟩)) (by as_aux_lemma => kernel_rfl) (by as_aux_lemma => kernel_rfl) (by as_aux_lemma => kernel_rfl) (fun _ _ _ _ _ h => h) (fun W hS => by clear hS hHeld; unfold cEv opC; as_aux_lemma => first | (go_simp; done) | (go_simp <;> rfl)) hHeld ?_
      refine takeO 16 26 (.load 29 (.const (.pointer (some ⟨gp, 5, none⟩)))) 29 (.slice (some adb) nb cb) (by as_aux_lemma => kernel_rfl) (by as_aux_lemma => kernel_rfl) (by as_aux_lemma => kernel_rfl) (fun _ _ _ _ _ h => h) (fun W hS => by have z4 := hS.p.cell 4; have z5 := hS.p.cell 5; simp at z4 z5; clear hS hHeld; unfold cEv opC; as_aux_lemma => first | (go_simp; done) | (go_simp <;> rfl)) hHeld ?_
      refine takeO 22 32 (.load 29 (.const (.pointer (some ⟨gp, 4, none⟩)))) 29 (.slice (some adw) nw cw) (by as_aux_lemma => kernel_rfl) (by as_aux_lemma => kernel_rfl) (by as_aux_lemma => kernel_rfl) (fun _ _ _ _ _ h => h) (fun W hS => by have z4 := hS.p.cell 4; have z5 := hS.p.cell 5; simp at z4 z5; clear hS hHeld; unfold cEv opC; as_aux_lemma => first | (go_simp; done) | (go_simp <;> rfl)) hHeld ?_
      refine takeO 19 29 (.indexAddr 29 (.const (.slice (some adb) nb cb)) (.const (.int .i64 j))) 0 (.pointer (some (adb.add (j * 3)))) (by as_aux_lemma => kernel_rfl) (by as_aux_lemma => kernel_rfl) (by as_aux_lemma => kernel_rfl) (fun _ _ _ _ _ h => h) (fun W hS => by clear hS hHeld; unfold cEv opC; as_aux_lemma => first | (go_simp; done) | (go_simp <;> rfl)) hHeld ?_
      refine takeO 23 33 (.indexAddr 29 (.const (.slice (some adw) nw cw)) (.const (.int .i64 0))) 0 (.pointer (some adw)) (by as_aux_lemma => kernel_rfl) (by as_aux_lemma => kernel_rfl) (by as_aux_lemma => kernel_rfl) (fun _ _ _ _ _ h => h) (fun W hS => by clear hS hHeld; unfold cEv opC; as_aux_lemma => first | (go_simp; done) | (go_simp <;> rfl)) hHeld ?_
      refine takeO 20 30 (.load 53 (.const (.pointer (some (adb.add (j * 3)))))) 53 (.agg #[.int .u64 b0, .int .u64 b1, .int .i64 b2]) (by as_aux_lemma => kernel_rfl) (by as_aux_lemma => kernel_rfl) (by as_aux_lemma => kernel_rfl) (fun _ _ _ _ _ h => h) (fun W hS => by obtain ⟨z0, z1, z2⟩ := RdR.scellP hS.bs HB.out; simp only at z0 z1 z2; clear hS hHeld; unfold cEv opC; as_aux_lemma => first | (go_simp; done) | (go_simp <;> rfl)) hHeld ?_
      refine takeO 24 34 (.load 53 (.const (.pointer (some adw)))) 53 (.agg #[.int .u64 a0, .int .u64 a1, .int .i64 a2]) (by as_aux_lemma => kernel_rfl) (by as_aux_lemma => kernel_rfl) (by as_aux_lemma => kernel_rfl) (fun _ _ _ _ _ h => h) (fun W hS => by obtain ⟨z0, z1, z2⟩ := RdR.scellP hS.wt HF.out; rw [Nat.zero_mul, add_zero'] at z0 z1 z2; simp only at z0 z1 z2; clear hS hHeld; unfold cEv opC; as_aux_lemma => first | (go_simp; done) | (go_simp <;> rfl)) hHeld ?_
      refine readyO [25] (by as_aux_lemma => kernel_rfl) (by simp) ?_
      refine callO 25 35 (.call { callee := .value (.func 22), args := #[.const (.agg #[.int .u64 b0, .int .u64 b1, .int .i64 b2]), .const (.agg #[.int .u64 a0, .int .u64 a1, .int .i64 a2])], argTypes := #[53, 53] }) 4 22 #[.agg #[.int .u64 b0, .int .u64 b1, .int .i64 b2], .agg #[.int .u64 a0, .int .u64 a1, .int .i64 a2]] (by as_aux_lemma => kernel_rfl) (by as_aux_lemma => kernel_rfl) (by unfold cEv opC; go_simp) ?_ AllReadyH.nil
      refine (HSp.out _).mono ?_
      rintro e wq ⟨rfl, hbq⟩
      refine ⟨_, rfl, (hHeld.step hbq), fun hHeld2 => ?_⟩
      clear hHeld
      have hHeld := hHeld2
      clear hHeld2
      clear hbq
      refine putsO [26, 27] [27, 26] [(37, .bool true), (36, .bool true)] 2 rfl [36, 37] (by as_aux_lemma => kernel_rfl) (by as_aux_lemma => kernel_rfl) rfl (fun _ _ _ _ _ h => h) hHeld ?_
      refine doneO [(10, .pointer (some ⟨gp, 4, none⟩)), (0, .slice (some adw) nw cw), (0, .int .i64 nw), (0, .bool false), (0, .bool false), (0, .int .i64 nb), (0, .bool false), (0, .bool false), (0, .bool false), (0, .pointer (some ⟨gp, 5, none⟩)), (0, .slice (some adb) nb cb), (0, .int .i64 nb), (0, .int .i64 nb), (0, .bool true), (0, .bool true), (0, .pointer (some ⟨gp, 5, none⟩)), (0, .slice (some adb) nb cb), (0, .int .i64 nb), (0, .int .i64 j), (0, .pointer (some (adb.add (j * 3)))), (0, .agg #[.int .u64 b0, .int .u64 b1, .int .i64 b2]), (0, .pointer (some ⟨gp, 4, none⟩)), (0, .slice (some adw) nw cw), (0, .pointer (some adw)), (0, .agg #[.int .u64 a0, .int .u64 a1, .int .i64 a2]), (0, .bool true), (0, .bool true), (0, .bool true)] (by as_aux_lemma => kernel_rfl) (by as_aux_lemma => kernel_rfl) ?_
      simp only [fillG]
      have HD2 := hide hHeld
      clear hHeld
      have c0 := HD2.out.p.cell 0; have c1 := HD2.out.p.cell 1; have c2 := HD2.out.p.cell 2; have c3 := HD2.out.p.cell 3; have c4 := HD2.out.p.cell 4; have c5 := HD2.out.p.cell 5; simp at c0 c1 c2 c3 c4 c5
      have r0 := HD2.out.r.cell 0; have r1 := HD2.out.r.cell 1; have r2 := HD2.out.r.cell 2; have r3 := HD2.out.r.cell 3; have r4 := HD2.out.r.cell 4; have r5 := HD2.out.r.cell 5; have f0 := HD2.out.r.frozen 0; have f1 := HD2.out.r.frozen 1; have f2 := HD2.out.r.frozen 2; have f3 := HD2.out.r.frozen 3; have f4 := HD2.out.r.frozen 4; have f5 := HD2.out.r.frozen 5; simp at r0 r1 r2 r3 r4 r5
      go_wp2
      have HZ := hide (HD2.out.res rfl)
      have q0 := HZ.out.r.cell 0
      have q1 := HZ.out.r.cell 1
      have q2 := HZ.out.r.cell 2
      have q3 := HZ.out.r.cell 3
      have q4 := HZ.out.r.cell 4
      have q5 := HZ.out.r.cell 5
      simp at q0 q1 q2 q3 q4 q5
      refine bodyPost_ret (v := .tuple #[.agg #[.slice Aq nq cq, .int .u64 mask, .int .i64 ef, .slice Ak nk ck, .slice (some adw) nw cw, .slice (some adb) nb cb], .int .i64 0, .bool false]) (by simp [results, Try.results7, go_sem, q0, q1, q2, q3, q4, q5]) rfl ?_
      exact ⟨HZ.out.bel, .inl ⟨by rw [HK.out]; exact HD.out, rfl⟩⟩
  have HD := hide (show doneR K wt bs = false by unfold doneR; rw [h0f, h1f, decide_eq_false (show ¬ bs.length = K by rw [HL.out.2]; exact h2)]; rfl)
  have e_ba : (((nb : Nat) : Int) == (K : Int)) = false := by rw [beq_eq_false_iff_ne]; omega
  have e_bb : decide (((nb : Nat) : Int) = (K : Int)) = false := by simp; omega
  have e_bc : decide (nb = K) = false := by simp; omega
  have e_bd : (nb == K) = false := by simp; omega
  clear hf h0f h1f
  refine startO (S := (RfP w R gp gr #[.slice Aq nq cq, .int .u64 mask, .int .i64 ef, .slice Ak nk ck, .slice (some adw) nw cw, .slice Ab nb cb] #[.slice none 0 0, .int .u64 0, .int .i64 0, .slice none 0 0, .slice none 0 0, .slice none 0 0] [] none [] none [] none [] (some adw) wt Ab bs)) 28 (by as_aux_lemma => kernel_rfl) (by as_aux_lemma => kernel_rfl) (HA.out.step (Below.refl _ _).drew) (fun hHeld => ?_)
  clear HA
  generalize World.drew _ = Wd at *
  refine takeO 0 10 (.fieldAddr 31 (.const (.pointer (some ⟨gp, 0, none⟩))) 4) 0 (.pointer (some ⟨gp, 4, none⟩)) (by as_aux_lemma => kernel_rfl) (by as_aux_lemma => kernel_rfl) (by as_aux_lemma => kernel_rfl) (fun _ _ _ _ _ h => h) (fun W hS => by clear hS hHeld; unfold cEv opC; as_aux_lemma => first | (go_simp; done) | (go_simp <;> rfl)) hHeld ?_
  refine takeO 1 11 (.load 29 (.const (.pointer (some ⟨gp, 4, none⟩)))) 29 (.slice (some adw) nw cw) (by as_aux_lemma => kernel_rfl) (by as_aux_lemma => kernel_rfl) (by as_aux_lemma => kernel_rfl) (fun _ _ _ _ _ h => h) (fun W hS => by have z4 := hS.p.cell 4; have z5 := hS.p.cell 5; simp at z4 z5; clear hS hHeld; unfold cEv opC; as_aux_lemma => first | (go_simp; done) | (go_simp <;> rfl)) hHeld ?_
  refine takeO 2 12 (.call { callee := .builtin .len, args := #[.const (.slice (some adw) nw cw)], argTypes := #[29] }) 3 (.int .i64 nw) (by as_aux_lemma => kernel_rfl) (by as_aux_lemma => kernel_rfl) (by as_aux_lemma => kernel_rfl) (fun _ _ _ _ _ h => h) (fun W hS => by clear hS hHeld; unfold cEv opC; as_aux_lemma => first | (go_simp; done) | (go_simp <;> rfl)) hHeld ?_
  refine takeO 3 13 (.binOp .eql 3 (.const (.int .i64 nw)) (.const (.int .i64 0)) 3) 4 (.bool false) (by as_aux_lemma => kernel_rfl) (by as_aux_lemma => kernel_rfl) (by as_aux_lemma => kernel_rfl) (fun _ _ _ _ _ h => h) (fun W hS => by clear hS hHeld; unfold cEv opC; as_aux_lemma => first | (go_simp; done) | (go_simp <;> rfl)) hHeld ?_
  refine putsO [4, 5] [5, 4] [(15, .int .i64 K), (14, .bool false)] 2 rfl [14, 15] (by as_aux_lemma => kernel_rfl) (by as_aux_lemma => kernel_rfl) rfl (fun _ _ _ _ _ h => h) hHeld ?_
  refine takeO 6 16 (.binOp .eql 3 (.const (.int .i64 K)) (.const (.int .i64 0)) 3) 4 (.bool false) (by as_aux_lemma => kernel_rfl) (by as_aux_lemma => kernel_rfl) (by as_aux_lemma => kernel_rfl) (fun _ _ _ _ _ h => h) (fun W hS => by clear hS hHeld; unfold cEv opC; as_aux_lemma => first | (go_simp; done) | (go_simp <;> rfl)) hHeld ?_
  refine putsO [7, 8, 12] [12, 8, 7] [(22, .int .i64 K), (18, .bool false), (17, .bool false)] 3 rfl [17, 18, 22] (by as_aux_lemma => kernel_rfl) (by as_aux_lemma => kernel_rfl) rfl (fun _ _ _ _ _ h => h) hHeld ?_
  refine takeO 9 19 (.fieldAddr 31 (.const (.pointer (some ⟨gp, 0, none⟩))) 5) 0 (.pointer (some ⟨gp, 5, none⟩)) (by as_aux_lemma => kernel_rfl) (by as_aux_lemma => kernel_rfl) (by as_aux_lemma => kernel_rfl) (fun _ _ _ _ _ h => h) (fun W hS => by clear hS hHeld; unfold cEv opC; as_aux_lemma => first | (go_simp; done) | (go_simp <;> rfl)) hHeld ?_
  refine takeO 10 20 (.load 29 (.const (.pointer (some ⟨gp, 5, none⟩)))) 29 (.slice Ab nb cb) (by as_aux_lemma => kernel_rfl) (by as_aux_lemma => kernel_rfl) (by as_aux_lemma => kernel_rfl) (fun _ _ _ _ _ h => h) (fun W hS => by have z4 := hS.p.cell 4; have z5 := hS.p.cell 5; simp at z4 z5; clear hS hHeld; unfold cEv opC; as_aux_lemma => first | (go_simp; done) | (go_simp <;> rfl)) hHeld ?_
  refine takeO 11 21 (.call { callee := .builtin .len, args := #[.const (.slice Ab nb cb)], argTypes := #[29] }) 3 (.int .i64 nb) (by as_aux_lemma => kernel_rfl) (by as_aux_lemma => kernel_rfl) (by as_aux_lemma => kernel_rfl) (fun _ _ _ _ _ h => h) (fun W hS => by clear hS hHeld; unfold cEv opC; as_aux_lemma => first | (go_simp; done) | (go_simp <;> rfl)) hHeld ?_
  refine takeO 13 23 (.binOp .eql 3 (.const (.int .i64 nb)) (.const (.int .i64 K)) 3) 4 (.bool false) (by as_aux_lemma => kernel_rfl) (by as_aux_lemma => kernel_rfl) (by as_aux_lemma => kernel_rfl) (fun _ _ _ _ _ h => h) (fun W hS => by clear hS hHeld; unfold cEv opC; as_aux_lemma => first | (go_simp; done) | (go_simp <;> rfl)) hHeld ?_
  refine putsO [14, 15, 17, 21, 16, 18, 22, 19, 23, 20, 24, 25, 26, 27] [27, 26, 25, 24, 20, 23, 19, 22, 18, 16, 21, 17, 15, 14] [(37, .bool false), (36, .bool false), (35, undef), (34, undef), (30, undef), (33, undef), (29, undef), (32, undef), (28, undef), (26, undef), (31, undef), (27, undef), (25, undef), (24, .bool false)] 14 rfl [24, 25, 27, 31, 26, 28, 32, 29, 33, 30, 34, 35, 36, 37] (by as_aux_lemma => kernel_rfl) (by as_aux_lemma => kernel_rfl) rfl (fun _ _ _ _ _ h => h) hHeld ?_
  refine doneO [(10, .pointer (some ⟨gp, 4, none⟩)), (0, .slice (some adw) nw cw), (0, .int .i64 nw), (0, .bool false), (0, .bool false), (0, .int .i64 K), (0, .bool false), (0, .bool false), (0, .bool false), (0, .pointer (some ⟨gp, 5, none⟩)), (0, .slice Ab nb cb), (0, .int .i64 nb), (0, .int .i64 K), (0, .bool false), (0, .bool false), (0, undef), (0, undef), (0, undef), (0, undef), (0, undef), (0, undef), (0, undef), (0, undef), (0, undef), (0, undef), (0, undef), (0, .bool false), (0, .bool false)] (by as_aux_lemma => kernel_rfl) (by as_aux_lemma => kernel_rfl) ?_
  simp only [fillG]
  have HD2 := hide hHeld
  clear hHeld
  have c0 := HD2.out.p.cell 0; have c1 := HD2.out.p.cell 1; have c2 := HD2.out.p.cell 2; have c3 := HD2.out.p.cell 3; have c4 := HD2.out.p.cell 4; have c5 := HD2.out.p.cell 5; simp at c0 c1 c2 c3 c4 c5
  have g4 := HD2.out.p.frozen 4
  obtain ⟨z0, z1, z2⟩ := RdR.scellP HD2.out.wt HF.out
  rw [Nat.zero_mul, add_zero'] at z0 z1 z2
  simp only at z0 z1 z2
  have HC := hide (RdR.cut (k := 1) HD2.out.wt (show 1 ≤ nw by omega) HL.out.1 hcw)
  by_cases hc1 : cw = 1
  · subst hc1
    obtain rfl : nw = 1 := by omega
    have hnil : wt.drop 1 = [] := List.eq_nil_of_length_eq_zero (by rw [List.length_drop, HL.out.1])
    go_upto_region 6 with fail
    have H3 := hide (show RfP w R gp gr #[.slice Aq nq cq, .int .u64 mask, .int .i64 ef, .slice Ak nk ck, .slice (some adw) 0 0, .slice Ab nb cb] #[.slice none 0 0, .int .u64 0, .int .i64 0, .slice none 0 0, .slice none 0 0, .slice none 0 0] [] none [] none [] none [] (some adw) (wt.drop 1) _ bs _ from by have := (HD2.out.wt_ (A := some adw) (ls := wt.drop 1) (by rw [hnil]; exact RdR.nil)).set_ 4 (.slice (some adw) 0 0); simpa using this)
    clear c0 c1 c2 c3 c4 c5 g4 z0 z1 z2 HD2 HC
    generalize World.setCell _ _ _ = W3 at *
    have c0 := H3.out.p.cell 0; have c1 := H3.out.p.cell 1; have c2 := H3.out.p.cell 2; have c3 := H3.out.p.cell 3; have c4 := H3.out.p.cell 4; have c5 := H3.out.p.cell 5; simp at c0 c1 c2 c3 c4 c5
    have r0 := H3.out.r.cell 0; have r1 := H3.out.r.cell 1; have r2 := H3.out.r.cell 2; have r3 := H3.out.r.cell 3; have r4 := H3.out.r.cell 4; have r5 := H3.out.r.cell 5; have f0 := H3.out.r.frozen 0; have f1 := H3.out.r.frozen 1; have f2 := H3.out.r.frozen 2; have f3 := H3.out.r.frozen 3; have f4 := H3.out.r.frozen 4; have f5 := H3.out.r.frozen 5; simp at r0 r1 r2 r3 r4 r5
    go_wp2
    have HZ := hide (H3.out.res rfl)
    have q0 := HZ.out.r.cell 0
    have q1 := HZ.out.r.cell 1
    have q2 := HZ.out.r.cell 2
    have q3 := HZ.out.r.cell 3
    have q4 := HZ.out.r.cell 4
    have q5 := HZ.out.r.cell 5
    simp at q0 q1 q2 q3 q4 q5
    refine bodyPost_ret (v := .tuple #[.agg #[.slice Aq nq cq, .int .u64 mask, .int .i64 ef, .slice Ak nk ck, .slice (some adw) 0 0, .slice Ab nb cb], .int .i64 a2, .bool true]) (by simp [results, Try.results7, go_sem, q0, q1, q2, q3, q4, q5]) rfl ?_
    exact ⟨HZ.out.bel, .inr ⟨by rw [HK.out]; exact HD.out, some adw, 0, by rw [HFs.out]; rfl, by omega, by omega, HZ.out.out HZ.out.wt⟩⟩
  · have hc2 : 1 ≤ cw - 1 ∨ cw = 0 := by omega
    rw [if_neg hc1] at HC
    go_upto_region 6 with fail
    have H3 := hide (show RfP w R gp gr #[.slice Aq nq cq, .int .u64 mask, .int .i64 ef, .slice Ak nk ck, .slice (some ⟨adw.block, adw.off + 3, none⟩) (nw - 1) (cw - 1), .slice Ab nb cb] #[.slice none 0 0, .int .u64 0, .int .i64 0, .slice none 0 0, .slice none 0 0, .slice none 0 0] [] none [] none [] none [] (some ⟨adw.block, adw.off + 3, none⟩) (wt.drop 1) _ bs _ from by have := (HD2.out.wt_ (A := some ⟨adw.block, adw.off + 3, none⟩) (ls := wt.drop 1) (rd_add3 HC.out)).set_ 4 (.slice (some ⟨adw.block, adw.off + 3, none⟩) (nw - 1) (cw - 1)); simpa using this)
    clear c0 c1 c2 c3 c4 c5 g4 z0 z1 z2 HD2 HC
    generalize World.setCell _ _ _ = W3 at *
    have c0 := H3.out.p.cell 0; have c1 := H3.out.p.cell 1; have c2 := H3.out.p.cell 2; have c3 := H3.out.p.cell 3; have c4 := H3.out.p.cell 4; have c5 := H3.out.p.cell 5; simp at c0 c1 c2 c3 c4 c5
    have r0 := H3.out.r.cell 0; have r1 := H3.out.r.cell 1; have r2 := H3.out.r.cell 2; have r3 := H3.out.r.cell 3; have r4 := H3.out.r.cell 4; have r5 := H3.out.r.cell 5; have f0 := H3.out.r.frozen 0; have f1 := H3.out.r.frozen 1; have f2 := H3.out.r.frozen 2; have f3 := H3.out.r.frozen 3; have f4 := H3.out.r.frozen 4; have f5 := H3.out.r.frozen 5; simp at r0 r1 r2 r3 r4 r5
    go_wp2
    have HZ := hide (H3.out.res rfl)
    have q0 := HZ.out.r.cell 0
    have q1 := HZ.out.r.cell 1
    have q2 := HZ.out.r.cell 2
    have q3 := HZ.out.r.cell 3
    have q4 := HZ.out.r.cell 4
    have q5 := HZ.out.r.cell 5
    simp at q0 q1 q2 q3 q4 q5
    refine bodyPost_ret (v := .tuple #[.agg #[.slice Aq nq cq, .int .u64 mask, .int .i64 ef, .slice Ak nk ck, .slice (some ⟨adw.block, adw.off + 3, none⟩) (nw - 1) (cw - 1), .slice Ab nb cb], .int .i64 a2, .bool true]) (by simp [results, Try.results7, go_sem, q0, q1, q2, q3, q4, q5]) rfl ?_
    exact ⟨HZ.out.bel, .inr ⟨by rw [HK.out]; exact HD.out, some ⟨adw.block, adw.off + 3, none⟩, cw - 1, by rw [HFs.out]; rfl, by omega, by omega, HZ.out.out HZ.out.wt⟩⟩
end Go.Proofs.Ytphbdffgeeicaaa
