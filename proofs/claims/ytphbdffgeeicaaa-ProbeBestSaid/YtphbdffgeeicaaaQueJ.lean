/-
  The reference's queues: Offer. Conditions: the list reads as said.
-/
import Derived.Test.YtphbdffgeeicaaaQueI
namespace Go.Proofs.Ytphbdffgeeicaaa
set_option linter.unusedSimpArgs false
set_option linter.unusedVariables false
open Go.RowKit

/-- the last one -/
def lstS (l : List Spt) : Spt := l[l.length - 1]?.getD sp0
/-- the document's best list behind an offer -/
def offR (k : Nat) (l : List Spt) (s : Spt) : List Spt × Bool :=
  if k ≤ l.length ∧ (k = 0 ∨ sptLt s (lstS l) = false) then (l, false) else ((srtS (l ++ [s])).take (lstN k (l.length + 1)), true)
/-- a slice and an answer -/
def GivesO (w : World) (R : Nat → Prop) (r : List Spt × Bool) (e : Ending) (w' : World) : Prop := ∃ A n c, e = .returned (.tuple #[.slice A n c, .bool r.2]) ∧ r.1.length = n ∧ n ≤ c ∧ c ≤ 9223372036854775807 ∧ RdR SP w' (Grow R w w') A r.1 ∧ Below w.heap.size w w'
theorem srtS_idem (l : List Spt) : srtS (srtS l) = srtS l := srt_congr swoS totS srt_perm
theorem grow_new {w w' w'' : World} {R : Nat → Prop} {b : Nat} (hb : Below w.heap.size w w') (h : Btw w'.heap.size w''.heap.size b) : Grow R w w'' b := .inr ⟨Nat.le_trans hb.size h.1, h.2⟩
/-- while the reference's Offer looks at the last one -/
structure RO (w : World) (R : Nat → Prop) (ad : Addr) (l : List Spt) (s : Spt) (W : World) : Prop where
  bel : Below w.heap.size w W
  box : Blk W w.heap.size 53 #[.int .u64 s.1.1, .int .u64 s.1.2, .int .i64 s.2]
  rd : RdR SP W R (some ad) l
theorem RO.step {w W W' : World} {R : Nat → Prop} {ad : Addr} {l : List Spt} {s : Spt} (h : RO w R ad l s W) (hR : ∀ b, R b → b < w.heap.size) (hb : Below W.heap.size W W') : RO w R ad l s W' :=
  ⟨Below.step h.bel hb, h.box.below hb h.box.lt, h.rd.below hb fun b hb' => Nat.lt_of_lt_of_le (hR b hb') h.bel.size⟩
set_option maxRecDepth 100000 in
set_option maxHeartbeats 4000000 in
theorem refOffer_any {w : World} {R : Nat → Prop} (A : Option Addr) (n c : Nat) (l : List Spt) (most : Int) (s : Spt) (hx : RdR SP w R A l) (hR : ∀ b, R b → b < w.heap.size) (hn : l.length = n) (hc : n ≤ c) (hm : c ≤ 9223372036854775807) (h6 : n ≤ 500000) :
    Calls Try.prog 27 #[.slice A n c, .int .i64 most, aggS s] w (GivesO w R (offR (mostB most) l s)) := by
  have HB := hide (below1 w (.cells #[.int .u64 s.1.1, .int .u64 s.1.2, .int .i64 s.2] 53))
  have HN := hide (Blk.new w 53 #[.int .u64 s.1.1, .int .u64 s.1.2, .int .i64 s.2])
  have HX := hide hx
  have HR := hide hR
  have Hn := hide hn
  have HMo := hide (fun W => refMost_any most W)
  obtain ⟨k, hk⟩ : ∃ k, mostB most = k := ⟨_, rfl⟩
  rw [hk] at HMo ⊢
  obtain ⟨r, hr⟩ : ∃ r, offR k l s = r := ⟨_, rfl⟩
  rw [hr]
  have Hr := hide hr
  unfold aggS
  clear hx hR hn hk hr
  have three : n < k ∨ (k ≤ n ∧ k = 0) ∨ (k ≤ n ∧ 0 < k) := by omega
  rcases three with h1 | ⟨h1, h2⟩ | ⟨h1, h2⟩
  · have HE := hide (show r = ((srtS (l ++ [s])).take (lstN k (n + 1)), true) by rw [← Hr.out]; unfold offR; rw [if_neg (by have := Hn.out; omega), Hn.out])
    have b1 : decide ((k : Int) ≤ n) = false := by simp; omega
    have b2 : decide (k ≤ n) = false := by simp; omega
    go_enter Try.func27, Try.ntmps27
    go_upto_region 2 with (go_at_call 21; refine (HMo.out _).mono ?_; rintro e _ ⟨rfl, rfl⟩)
    generalize World.alloc w _ = w1 at *
    go_quiet (fail)
    have HB2 := hide (below_drewN HB.out nq)
    have HN2 := hide (HN.out.drewN nq)
    generalize w1.drewN nq = w2 at *
    have x0 := HN2.out.cell 0
    have x1 := HN2.out.cell 1
    have x2 := HN2.out.cell 2
    simp at x0 x1 x2
    go_wp2_with (first
      | (go_at_call 26; refine (refPush_any A n c l s _ ((HX.out.below HB2.out HR.out).more fun b hb => Nat.lt_of_lt_of_le (HR.out b hb) HB2.out.size) Hn.out hc hm (by omega)).mono ?_; rintro e w7 ⟨v7, rfl, ho7, hb7⟩; obtain ⟨A7, c7, rfl, u1, u2⟩ := own_form ho7; have HO7 := hide ho7; have HB7 := hide (Below.step HB2.out hb7); clear ho7 hb7)
      | (go_at_call 47; refine (refLeast_any A7 (n + 1) c7 k (srtS (l ++ [s])) _ ((flatS.own HO7.out).rd fun b hb => hb.2) (by rw [srtS_len, List.length_append, Hn.out]; rfl) u1 u2 (by omega)).mono ?_; rintro e w8 ⟨v8, rfl, hN8⟩; obtain ⟨A8, n8, c8, rfl, y1, y2, y3, y4, hb8⟩ := hN8; have HB8 := hide (Below.step HB7.out hb8); have HY := hide y1; have HY4 := hide (y4.more (R' := Grow R w w8) fun b hb => grow_new HB7.out hb); clear y1 y4 hb8))
    go_ret2
    have he := HE.out
    subst he
    exact ⟨A8, n8, c8, rfl, by rw [← HY.out, srtS_idem], y2, y3, by rw [← srtS_idem]; exact HY4.out, HB8.out⟩
  · subst h2
    have HE := hide (show r = (l, false) by rw [← Hr.out]; unfold offR; rw [if_pos ⟨by omega, .inl rfl⟩])
    have b1 : decide ((0 : Int) ≤ n) = true := by simp
    go_enter Try.func27, Try.ntmps27
    go_upto_region 2 with (go_at_call 21; refine (HMo.out _).mono ?_; rintro e _ ⟨rfl, rfl⟩)
    generalize World.alloc w _ = w1 at *
    go_quiet (fail)
    go_wp2
    go_ret2
    have he := HE.out
    subst he
    exact ⟨A, n, c, rfl, Hn.out, hc, hm, ((HX.out.below HB.out HR.out).keep fun _ _ => rfl).more fun b hb => .inl hb, below_drewN HB.out _⟩
  · obtain ⟨m, hm1⟩ : ∃ m, n = m + 1 := ⟨n - 1, by omega⟩
    obtain ⟨ad, x, rfl, hbk, hv, z0, z1, z2⟩ := ((HX.out.below HB.out HR.out)).scell (k := m) (by have := Hn.out; omega)
    have hlx : lstS l = x := by unfold lstS; rw [Hn.out, hm1]; simp [hv]
    have HLx := hide hlx
    have Hv := hide hv
    have HRO := hide (show RO w R ad l s (w.alloc (.cells #[.int .u64 s.1.1, .int .u64 s.1.2, .int .i64 s.2] 53)) from ⟨HB.out, HN.out, HX.out.below HB.out HR.out⟩)
    have Hm1 := hide hm1
    have hwm : IntKind.i64.wrap ((n : Int) - 1) = (m : Int) := by rw [IntWalk.i64_in _ (by omega)]; omega
    have b1 : decide ((k : Int) ≤ n) = true := by simp; omega
    have b2 : decide (k ≤ n) = true := by simp; omega
    have b3 : ((k : Int) == 0) = false := by rw [beq_eq_false_iff_ne]; omega
    have g1 : (m : Int) < n := by omega
    have g2 : (0 : Int) ≤ m := by omega
    obtain ⟨bb, hbb⟩ : ∃ bb, sptLt s x = bb := ⟨_, rfl⟩
    have HBB := hide hbb
    have HSp := hide (fun W => refSpot_any s x W)
    rw [hbb] at HSp
    clear hlx hm1 hv hbb z0 z1 z2 hbk HB HN
    have hrr : (bb = false → r = (l, false)) ∧ (bb = true → r = ((srtS (l ++ [s])).take (lstN k (n + 1)), true)) := by
      rw [← Hr.out]
      unfold offR
      refine ⟨fun hb => if_pos ⟨by have := Hn.out; omega, .inr (by rw [HLx.out, HBB.out, hb])⟩, fun hb => ?_⟩
      have hno : ¬ (k ≤ l.length ∧ (k = 0 ∨ sptLt s (lstS l) = false)) := by
        rintro ⟨_, h | h⟩
        · omega
        · rw [HLx.out, HBB.out, hb] at h; cases h
      rw [if_neg hno, Hn.out]
    have HRR := hide hrr
    clear hrr
    go_enter Try.func27, Try.ntmps27
    go_upto_region 2 with (go_at_call 21; refine (HMo.out _).mono ?_; rintro e _ ⟨rfl, rfl⟩)
    generalize World.alloc w _ = w1 at *
    refine wp_region_held_drew (S := fun W => RO w R ad l s W) (by kernel_rfl) (HRO.out.step HR.out (Below.refl _ _).drew) (fun hHeld => ?_)
    clear HRO
    generalize World.drew _ = wl1 at *
    refine wpAnyH_take (i := 0) (v := .slice (some ad) n c) rfl (by kernel_rfl) (by kernel_rfl) (by kernel_rfl) (fun _ _ _ h => h) (Or.inl ⟨by rfl, fun W hS => by clear hS hHeld; go_simp⟩) hHeld ?_
    try simp only [Act.put, List.setIfInBounds_toArray, List.set_cons_zero, List.set_cons_succ, List.getElem_toArray, List.getElem_cons_zero, List.getElem_cons_succ]
    refine wpAnyH_take (i := 1) (v := .int .i64 n) rfl (by kernel_rfl) (by kernel_rfl) (by kernel_rfl) (fun _ _ _ h => h) (Or.inl ⟨by rfl, fun W hS => by clear hS hHeld; go_simp⟩) hHeld ?_
    try simp only [Act.put, List.setIfInBounds_toArray, List.set_cons_zero, List.set_cons_succ, List.getElem_toArray, List.getElem_cons_zero, List.getElem_cons_succ]
    refine wpAnyH_take (i := 2) (v := .int .i64 k) rfl (by kernel_rfl) (by kernel_rfl) (by kernel_rfl) (fun _ _ _ h => h) (Or.inl ⟨by rfl, fun W hS => by clear hS hHeld; go_simp⟩) hHeld ?_
    try simp only [Act.put, List.setIfInBounds_toArray, List.set_cons_zero, List.set_cons_succ, List.getElem_toArray, List.getElem_cons_zero, List.getElem_cons_succ]
    refine wpAnyH_take (i := 3) (v := .bool true) rfl (by kernel_rfl) (by kernel_rfl) (by kernel_rfl) (fun _ _ _ h => h) (Or.inl ⟨by rfl, fun W hS => by clear hS hHeld; go_simp⟩) hHeld ?_
    try simp only [Act.put, List.setIfInBounds_toArray, List.set_cons_zero, List.set_cons_succ, List.getElem_toArray, List.getElem_cons_zero, List.getElem_cons_succ]
    refine wpAnyH_take (i := 4) (v := .bool true) rfl (by kernel_rfl) (by kernel_rfl) (by kernel_rfl) (fun _ _ _ h => h) (Or.inl ⟨by rfl, fun W hS => by clear hS hHeld; go_simp⟩) hHeld ?_
    try simp only [Act.put, List.setIfInBounds_toArray, List.set_cons_zero, List.set_cons_succ, List.getElem_toArray, List.getElem_cons_zero, List.getElem_cons_succ]
    refine wpAnyH_take (i := 5) (v := .int .i64 k) rfl (by kernel_rfl) (by kernel_rfl) (by kernel_rfl) (fun _ _ _ h => h) (Or.inl ⟨by rfl, fun W hS => by clear hS hHeld; go_simp⟩) hHeld ?_
    try simp only [Act.put, List.setIfInBounds_toArray, List.set_cons_zero, List.set_cons_succ, List.getElem_toArray, List.getElem_cons_zero, List.getElem_cons_succ]
    refine wpAnyH_take (i := 6) (v := .bool false) rfl (by kernel_rfl) (by kernel_rfl) (by kernel_rfl) (fun _ _ _ h => h) (Or.inl ⟨by rfl, fun W hS => by clear hS hHeld; go_simp⟩) hHeld ?_
    try simp only [Act.put, List.setIfInBounds_toArray, List.set_cons_zero, List.set_cons_succ, List.getElem_toArray, List.getElem_cons_zero, List.getElem_cons_succ]
    refine wpAnyH_take (i := 7) (v := .bool false) rfl (by kernel_rfl) (by kernel_rfl) (by kernel_rfl) (fun _ _ _ h => h) (Or.inl ⟨by rfl, fun W hS => by clear hS hHeld; go_simp⟩) hHeld ?_
    try simp only [Act.put, List.setIfInBounds_toArray, List.set_cons_zero, List.set_cons_succ, List.getElem_toArray, List.getElem_cons_zero, List.getElem_cons_succ]
    refine wpAnyH_take (i := 8) (v := .agg #[.int .u64 s.1.1, .int .u64 s.1.2, .int .i64 s.2]) rfl (by kernel_rfl) (by kernel_rfl) (by kernel_rfl) (fun _ _ _ h => h) (Or.inl ⟨by rfl, fun W hS => by have z0 := hS.box.cell 0; have z1 := hS.box.cell 1; have z2 := hS.box.cell 2; simp at z0 z1 z2; clear hS hHeld; go_simp⟩) hHeld ?_
    try simp only [Act.put, List.setIfInBounds_toArray, List.set_cons_zero, List.set_cons_succ, List.getElem_toArray, List.getElem_cons_zero, List.getElem_cons_succ]
    refine wpAnyH_take (i := 9) (v := .slice (some ad) n c) rfl (by kernel_rfl) (by kernel_rfl) (by kernel_rfl) (fun _ _ _ h => h) (Or.inl ⟨by rfl, fun W hS => by clear hS hHeld; go_simp⟩) hHeld ?_
    try simp only [Act.put, List.setIfInBounds_toArray, List.set_cons_zero, List.set_cons_succ, List.getElem_toArray, List.getElem_cons_zero, List.getElem_cons_succ]
    refine wpAnyH_take (i := 10) (v := .slice (some ad) n c) rfl (by kernel_rfl) (by kernel_rfl) (by kernel_rfl) (fun _ _ _ h => h) (Or.inl ⟨by rfl, fun W hS => by clear hS hHeld; go_simp⟩) hHeld ?_
    try simp only [Act.put, List.setIfInBounds_toArray, List.set_cons_zero, List.set_cons_succ, List.getElem_toArray, List.getElem_cons_zero, List.getElem_cons_succ]
    refine wpAnyH_take (i := 11) (v := .int .i64 n) rfl (by kernel_rfl) (by kernel_rfl) (by kernel_rfl) (fun _ _ _ h => h) (Or.inl ⟨by rfl, fun W hS => by clear hS hHeld; go_simp⟩) hHeld ?_
    try simp only [Act.put, List.setIfInBounds_toArray, List.set_cons_zero, List.set_cons_succ, List.getElem_toArray, List.getElem_cons_zero, List.getElem_cons_succ]
    refine wpAnyH_take (i := 12) (v := .int .i64 m) rfl (by kernel_rfl) (by kernel_rfl) (by kernel_rfl) (fun _ _ _ h => h) (Or.inl ⟨by rfl, fun W hS => by clear hS hHeld; go_simp⟩) hHeld ?_
    try simp only [Act.put, List.setIfInBounds_toArray, List.set_cons_zero, List.set_cons_succ, List.getElem_toArray, List.getElem_cons_zero, List.getElem_cons_succ]
    refine wpAnyH_take (i := 13) (v := .pointer (some (ad.add (m * 3)))) rfl (by kernel_rfl) (by kernel_rfl) (by kernel_rfl) (fun _ _ _ h => h) (Or.inl ⟨by rfl, fun W hS => by clear hS hHeld; go_simp⟩) hHeld ?_
    try simp only [Act.put, List.setIfInBounds_toArray, List.set_cons_zero, List.set_cons_succ, List.getElem_toArray, List.getElem_cons_zero, List.getElem_cons_succ]
    refine wpAnyH_take (i := 14) (v := .agg #[.int .u64 x.1.1, .int .u64 x.1.2, .int .i64 x.2]) rfl (by kernel_rfl) (by kernel_rfl) (by kernel_rfl) (fun _ _ _ h => h) (Or.inl ⟨by rfl, fun W hS => by obtain ⟨_, x', e3, _, hv', z0, z1, z2⟩ := hS.rd.scell (k := m) (by have := Hn.out; have := Hm1.out; omega); injection e3 with e3; subst e3; rw [Hv.out] at hv'; injection hv' with hv'; subst hv'; clear hS hHeld; go_simp⟩) hHeld ?_
    try simp only [Act.put, List.setIfInBounds_toArray, List.set_cons_zero, List.set_cons_succ, List.getElem_toArray, List.getElem_cons_zero, List.getElem_cons_succ]
    refine wpAnyH_ready (rs := [15]) (by kernel_rfl) (by simp) ?_
    refine AllReadyH.cons rfl (fun K hK => ?_) AllReadyH.nil
    try simp only [Act.put, List.setIfInBounds_toArray, List.set_cons_zero, List.set_cons_succ, List.getElem_toArray, List.getElem_cons_zero, List.getElem_cons_succ]
    go_simp
    go_at_call 22
    refine (HSp.out _).mono ?_
    rintro e wl2 ⟨rfl, hb⟩
    refine hK.out _ _ (hHeld.step HR.out hb) (fun hHeld2 => ?_)
    clear hK K hHeld
    have hHeld := hHeld2
    clear hHeld2
    try simp only [Act.put, List.setIfInBounds_toArray, List.set_cons_zero, List.set_cons_succ, List.getElem_toArray, List.getElem_cons_zero, List.getElem_cons_succ]
    clear hb
    refine wpAnyH_take (i := 16) (v := .bool (!bb)) rfl (by kernel_rfl) (by kernel_rfl) (by kernel_rfl) (fun _ _ _ h => h) (Or.inl ⟨by rfl, fun W hS => by clear hS hHeld; go_simp⟩) hHeld ?_
    try simp only [Act.put, List.setIfInBounds_toArray, List.set_cons_zero, List.set_cons_succ, List.getElem_toArray, List.getElem_cons_zero, List.getElem_cons_succ]
    refine wpAnyH_take (i := 17) (v := .bool (!bb)) rfl (by kernel_rfl) (by kernel_rfl) (by kernel_rfl) (fun _ _ _ h => h) (Or.inl ⟨by rfl, fun W hS => by clear hS hHeld; go_simp⟩) hHeld ?_
    try simp only [Act.put, List.setIfInBounds_toArray, List.set_cons_zero, List.set_cons_succ, List.getElem_toArray, List.getElem_cons_zero, List.getElem_cons_succ]
    refine wpAnyH_take (i := 18) (v := .bool (!bb)) rfl (by kernel_rfl) (by kernel_rfl) (by kernel_rfl) (fun _ _ _ h => h) (Or.inl ⟨by rfl, fun W hS => by clear hS hHeld; go_simp⟩) hHeld ?_
    try simp only [Act.put, List.setIfInBounds_toArray, List.set_cons_zero, List.set_cons_succ, List.getElem_toArray, List.getElem_cons_zero, List.getElem_cons_succ]
    refine wpAnyH_done (by kernel_rfl) ?_ _
    have HF := hide hHeld
    clear hHeld hwm
    have HB2 := hide HF.out.bel
    have HN2 := hide HF.out.box
    rcases bb with _ | _
    · have HE := hide (HRR.out.1 rfl)
      go_wp2
      go_ret2
      have he := HE.out
      subst he
      exact ⟨some ad, n, c, rfl, Hn.out, hc, hm, HF.out.rd.more fun b hb => .inl hb, HB2.out⟩
    · have HE := hide (HRR.out.2 rfl)
      have x0 := HN2.out.cell 0
      have x1 := HN2.out.cell 1
      have x2 := HN2.out.cell 2
      simp at x0 x1 x2
      go_wp2_with (first
        | (go_at_call 26; refine (refPush_any (some ad) n c l s _ ((HX.out.below HB2.out HR.out).more fun b hb => Nat.lt_of_lt_of_le (HR.out b hb) HB2.out.size) Hn.out hc hm (by omega)).mono ?_; rintro e w7 ⟨v7, rfl, ho7, hb7⟩; obtain ⟨A7, c7, rfl, u1, u2⟩ := own_form ho7; have HO7 := hide ho7; have HB7 := hide (Below.step HB2.out hb7); clear ho7 hb7)
        | (go_at_call 47; refine (refLeast_any A7 (n + 1) c7 k (srtS (l ++ [s])) _ ((flatS.own HO7.out).rd fun b hb => hb.2) (by rw [srtS_len, List.length_append, Hn.out]; rfl) u1 u2 (by omega)).mono ?_; rintro e w8 ⟨v8, rfl, hN8⟩; obtain ⟨A8, n8, c8, rfl, y1, y2, y3, y4, hb8⟩ := hN8; have HB8 := hide (Below.step HB7.out hb8); have HY := hide y1; have HY4 := hide (y4.more (R' := Grow R w w8) fun b hb => grow_new HB7.out hb); clear y1 y4 hb8))
      go_ret2
      have he := HE.out
      subst he
      exact ⟨A8, n8, c8, rfl, by rw [← HY.out, srtS_idem], y2, y3, by rw [← srtS_idem]; exact HY4.out, HB8.out⟩
end Go.Proofs.Ytphbdffgeeicaaa
