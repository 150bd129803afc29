/-
  The reference's queues: Most, Push. Conditions: the list reads as said.
-/
import Derived.Test.YtphbdffgeeicaaaQueH
namespace Go.Proofs.Ytphbdffgeeicaaa
set_option linter.unusedSimpArgs false
set_option linter.unusedVariables false
open Go.RowKit

set_option maxHeartbeats 1000000 in
theorem refMost_any (n : Int) (w : World) : Calls Try.prog 21 #[.int .i64 n] w fun e w' => e = .returned (.int .i64 (mostB n)) ∧ w = w' := by
  have HE := hide (show max 0 (min n 4096) = (mostB n : Int) by unfold mostB; omega)
  go_enter Try.func21, Try.ntmps21
  go_wp2
  go_ret
  exact ⟨by rw [← HE.out]; rfl, rfl⟩
theorem own_lowQ {w : World} {base base' : Nat} {e : TypeId} {k n : Nat} {v : Value} {xs : List Value} (h : w.ownsRow base e k v n xs) (hb : base' ≤ base) : w.ownsRow base' e k v n xs :=
  ⟨h.1, h.2.imp id fun ⟨g, cap, cur, e1, a, b⟩ => ⟨g, cap, cur, e1, Nat.le_trans hb a, b⟩⟩
theorem blk_reads3 {W : World} {g : Nat} {x : Spt} (h : Blk W g 53 #[.int .u64 x.1.1, .int .u64 x.1.2, .int .i64 x.2]) : Reads W W.heap.size 3 (some ⟨g, 0, none⟩) 1 (encS x) :=
  ⟨rfl, fun _ => ⟨_, rfl, h.lt, fun j u hv => by
    unfold encS at hv
    rw [add_mk, Nat.zero_add, h.cell j]
    rcases j with _ | _ | _ | j <;> simp at hv ⊢ <;> exact hv⟩⟩
/-- while the reference's Push is under way -/
structure RP (w : World) (A : Option Addr) (l : List Spt) (W : World) : Prop where
  bel : Below w.heap.size w W
  rd : Rd SP W W.heap.size A l
theorem RP.step {w W W' : World} {A : Option Addr} {l : List Spt} (h : RP w A l W) (hb : Below W.heap.size W W') : RP w A l W' := ⟨Below.step h.bel hb, h.rd.at_world hb⟩
theorem RP.alloc {w W : World} {A : Option Addr} {l : List Spt} (h : RP w A l W) (o : Obj) : RP w A l (W.alloc o) := h.step (below1 W o)
theorem RP.grown {w W W' : World} {A : Option Addr} {l : List Spt} {v : Value} {e : TypeId} {k n : Nat} {xs : List Value} (h : RP w A l W) (ho : W.ownsRow w.heap.size e k v n xs) (hr : Rd SP W w.heap.size A l) (hG : W.grownBy W' v.ownBlock) : RP w A l W' ∧ Rd SP W' w.heap.size A l :=
  have hr' : Rd SP W' w.heap.size A l := hr.grown hG h.bel.size fun g hg => (ho.lt g hg).1
  ⟨⟨below_own h.bel ho h.bel.size hG, hr'.more (Nat.le_trans h.bel.size hG.size)⟩, hr'⟩
set_option maxHeartbeats 4000000 in
theorem refPush_any (A : Option Addr) (n c : Nat) (l : List Spt) (s : Spt) (w : World) (hx : Rd SP w w.heap.size A l) (hn : l.length = n) (hc : n ≤ c) (hm : c ≤ 9223372036854775807) (h6 : n ≤ 900000) :
    Calls Try.prog 26 #[.slice A n c, aggS s] w fun e w' => ∃ v, e = .returned v ∧ w'.ownsRow w.heap.size 53 3 v (n + 1) (fcs encS (srtS (l ++ [s]))) ∧ Below w.heap.size w w' := by
  unfold aggS
  have HN := hide (Blk.new w 53 #[.int .u64 s.1.1, .int .u64 s.1.2, .int .i64 s.2])
  have HP := hide (show RP w A l (w.alloc (.cells #[.int .u64 s.1.1, .int .u64 s.1.2, .int .i64 s.2] 53)) from (RP.mk (Below.refl _ _) hx).alloc _)
  have HR := hide (show Rd SP (w.alloc (.cells #[.int .u64 s.1.1, .int .u64 s.1.2, .int .i64 s.2] 53)) w.heap.size A l from hx.alloc (Nat.le_refl _) _)
  have Hn := hide hn
  obtain ⟨i0, hi0, hz0, hz1, hz2⟩ := info_parts info_spot
  clear hx hn
  go_enter Try.func26, Try.ntmps26
  go_upto_region 1 with fail
  generalize World.alloc w _ = w1 at *
  refine wp_region_held_drew (S := fun W => RP w A l W ∧ Blk W w.heap.size 53 #[.int .u64 s.1.1, .int .u64 s.1.2, .int .i64 s.2]) (by kernel_rfl) ⟨HP.out.step (Below.refl _ _).drew, HN.out.drew⟩ (fun hHeld => ?_)
  have HRd := hide (show Rd SP w1.drew w.heap.size A l from HR.out.drew)
  have HSz := hide (show w.heap.size ≤ w1.drew.heap.size from HP.out.bel.size)
  have HSx := hide (show w.heap.size < w1.drew.heap.size from HN.out.lt)
  clear HP HN HR
  generalize World.drew _ = wl1 at *
  refine wpAnyH_take (i := 1) (v := .slice A n c) rfl (by kernel_rfl) (by kernel_rfl) (by kernel_rfl) (fun _ _ _ h => h) (Or.inl ⟨by rfl, fun W hS => by clear hS hHeld; go_simp⟩) hHeld ?_
  try simp only [Act.put, List.setIfInBounds_toArray, List.set_cons_zero, List.set_cons_succ, List.getElem_toArray, List.getElem_cons_zero, List.getElem_cons_succ]
  refine wpAnyH_take (i := 3) (v := .agg #[.int .u64 s.1.1, .int .u64 s.1.2, .int .i64 s.2]) rfl (by kernel_rfl) (by kernel_rfl) (by kernel_rfl) (fun _ _ _ h => h) (Or.inl ⟨by rfl, fun W hS => by have z0 := hS.2.cell 0; have z1 := hS.2.cell 1; have z2 := hS.2.cell 2; simp at z0 z1 z2; clear hS hHeld; go_simp⟩) hHeld ?_
  try simp only [Act.put, List.setIfInBounds_toArray, List.set_cons_zero, List.set_cons_succ, List.getElem_toArray, List.getElem_cons_zero, List.getElem_cons_succ]
  refine wpAnyH_ready (rs := [0, 4]) (by kernel_rfl) (by simp) ?_
  refine AllReadyH.cons rfl (fun K hK => ?_) ?_
  · try simp only [Act.put, List.setIfInBounds_toArray, List.set_cons_zero, List.set_cons_succ, List.getElem_toArray, List.getElem_cons_zero, List.getElem_cons_succ]
    go_simp
    refine hK.out _ _ ⟨hHeld.1.alloc _, hHeld.2.alloc _⟩ (fun hHeld2 => ?_)
    clear hK K hHeld
    have hHeld := hHeld2
    clear hHeld2
    try simp only [Act.put, List.setIfInBounds_toArray, List.set_cons_zero, List.set_cons_succ, List.getElem_toArray, List.getElem_cons_zero, List.getElem_cons_succ]
    replace HRd := hide (Rd.alloc HRd.out (show w.heap.size ≤ wl1.heap.size from HSz.out) (.cells #[] 53))
    have HE := hide (World.ownsRow_lit (base := w.heap.size) (e := 53) (size := 3) wl1 #[] 0 HSz.out (by decide) rfl)
    have HEx := hide (show w.heap.size < wl1.heap.size from HSx.out)
    have HEl := hide (show wl1.heap.size < (wl1.alloc (.cells #[] 53)).heap.size by simp)
    replace HSx := hide (show w.heap.size < (wl1.alloc (.cells #[] 53)).heap.size by have := HSx.out; simp; omega)
    replace HSz := hide (show w.heap.size ≤ (wl1.alloc (.cells #[] 53)).heap.size by have := HSz.out; simp; omega)
    generalize wl1.alloc (.cells #[] 53) = wl2 at *
    generalize wl1.heap.size = gE at *
    refine wpAnyH_ready (rs := [2, 4]) (by kernel_rfl) (by simp) ?_
    refine AllReadyH.cons rfl (fun K hK => ?_) ?_
    · try simp only [Act.put, List.setIfInBounds_toArray, List.set_cons_zero, List.set_cons_succ, List.getElem_toArray, List.getElem_cons_zero, List.getElem_cons_succ]
      rw [if_pos (by rfl)]
      refine wp_append_any _ (.tmp 5) (.tmp 6) 29 rfl w.heap.size 53 i0 _ 3 24 Try.underlying29 hi0 hz0 hz1 hz2 rfl (by decide) (.slice (some ⟨gE, 0, none⟩) 0 0) 0 _ rfl HE.out _ A n c (fcs encS l) rfl (flatS.reads (fun _ h => h) HRd.out Hn.out) (flatS.ones l) (by simp only [maxLen]; omega) (by omega) HSz.out ?_
      intro v7 wl3 own7 gr7 hat7
      have HX7 := hide (show w.heap.size < wl2.heap.size from HSx.out)
      have hg2 := RP.grown hHeld.1 HE.out HRd.out gr7
      have HF := hide own7
      rw [Nat.zero_add, List.nil_append] at HF
      have hs2 : Blk wl3 w.heap.size 53 #[.int .u64 s.1.1, .int .u64 s.1.2, .int .i64 s.2] := hHeld.2.grown gr7 (fun e => by have := (HE.out.lt _ e.symm).1; have hlt := HEx.out; simp [Value.ownBlock] at e; omega)
      refine hK.out _ _ ⟨hg2.1, hs2⟩ (fun hHeld2 => ?_)
      clear hK K hHeld
      have hHeld := hHeld2
      clear hHeld2
      try simp only [Act.put, List.setIfInBounds_toArray, List.set_cons_zero, List.set_cons_succ, List.getElem_toArray, List.getElem_cons_zero, List.getElem_cons_succ]
      replace HRd := hide hg2.2
      have HS2 := hide (Nat.le_trans HSz.out gr7.size)
      replace HSz := HS2
      replace HSx := hide (show w.heap.size < wl3.heap.size from Nat.lt_of_lt_of_le HSx.out gr7.size)
      have hE2 : gE < wl3.heap.size := Nat.lt_of_lt_of_le HEl.out gr7.size
      replace HEl := hide hE2
      obtain ⟨A7, c7, rfl, u1, u2⟩ := own_form HF.out
      have HV7 := hide (show ∀ d, (Value.slice A7 n c7).ownBlock = some d → d ≠ w.heap.size from fun d hd e => by
        rcases hat7 with h | h
        · rw [h] at hd; have := HEx.out; simp [Value.ownBlock] at hd; omega
        · rw [h] at hd; injection hd with hd; have := HX7.out; omega)
      clear own7 gr7 hg2 hs2 hat7
      refine wpAnyH_ready (rs := [4]) (by kernel_rfl) (by simp) ?_
      refine AllReadyH.cons rfl (fun K hK => ?_) AllReadyH.nil
      try simp only [Act.put, List.setIfInBounds_toArray, List.set_cons_zero, List.set_cons_succ, List.getElem_toArray, List.getElem_cons_zero, List.getElem_cons_succ]
      go_simp
      refine hK.out _ _ ⟨hHeld.1.alloc _, hHeld.2.alloc _⟩ (fun hHeld2 => ?_)
      clear hK K hHeld
      have hHeld := hHeld2
      clear hHeld2
      try simp only [Act.put, List.setIfInBounds_toArray, List.set_cons_zero, List.set_cons_succ, List.getElem_toArray, List.getElem_cons_zero, List.getElem_cons_succ]
      replace HE := hide (HE.out.alloc (.cells #[.int .u64 s.1.1, .int .u64 s.1.2, .int .i64 s.2] 53))
      replace HF := hide (HF.out.alloc (.cells #[.int .u64 s.1.1, .int .u64 s.1.2, .int .i64 s.2] 53))
      replace HRd := hide (Rd.alloc HRd.out (show w.heap.size ≤ wl3.heap.size from HSz.out) (.cells #[.int .u64 s.1.1, .int .u64 s.1.2, .int .i64 s.2] 53))
      have HL := hide (Blk.new wl3 53 #[.int .u64 s.1.1, .int .u64 s.1.2, .int .i64 s.2])
      have hgg : wl3.heap.size ≠ gE := by have := HEl.out; omega
      have HLl := hide (show wl3.heap.size < (wl3.alloc (.cells #[.int .u64 s.1.1, .int .u64 s.1.2, .int .i64 s.2] 53)).heap.size by simp)
      replace HSx := hide (show w.heap.size < (wl3.alloc (.cells #[.int .u64 s.1.1, .int .u64 s.1.2, .int .i64 s.2] 53)).heap.size by have := HSx.out; simp; omega)
      replace HSz := hide (show w.heap.size ≤ (wl3.alloc (.cells #[.int .u64 s.1.1, .int .u64 s.1.2, .int .i64 s.2] 53)).heap.size by have := HSz.out; simp; omega)
      replace HEl := hide (show gE < (wl3.alloc (.cells #[.int .u64 s.1.1, .int .u64 s.1.2, .int .i64 s.2] 53)).heap.size by have := HEl.out; simp; omega)
      generalize wl3.alloc (.cells #[.int .u64 s.1.1, .int .u64 s.1.2, .int .i64 s.2] 53) = wl4 at *
      generalize wl3.heap.size = gL at *
      refine wpAnyH_ready (rs := [5]) (by kernel_rfl) (by simp) ?_
      refine AllReadyH.cons rfl (fun K hK => ?_) AllReadyH.nil
      try simp only [Act.put, List.setIfInBounds_toArray, List.set_cons_zero, List.set_cons_succ, List.getElem_toArray, List.getElem_cons_zero, List.getElem_cons_succ]
      rw [if_pos (by rfl)]
      refine wp_append_any _ (.tmp 7) (.tmp 9) 29 rfl w.heap.size 53 i0 _ 3 24 Try.underlying29 hi0 hz0 hz1 hz2 rfl (by decide) (.slice A7 n c7) n _ rfl HF.out _ (some ⟨gL, 0, none⟩) 1 1 (encS s) rfl (blk_reads3 HL.out) (flatS.one s) (by simp only [maxLen]; omega) (by omega) HSz.out ?_
      intro v8 wl5 own8 gr8 hat8
      have hg3 := RP.grown hHeld.1 HF.out HRd.out gr8
      have HG := hide (show wl5.ownsRow w.heap.size 53 3 v8 (n + 1) (fcs encS (l ++ [s])) from by rw [fcs_snoc]; exact own8)
      have hs3 : Blk wl5 w.heap.size 53 #[.int .u64 s.1.1, .int .u64 s.1.2, .int .i64 s.2] := hHeld.2.grown gr8 (fun e => HV7.out _ e.symm rfl)
      obtain ⟨A8, c8, rfl, u3, u4⟩ := own_form HG.out
      refine hK.out _ _ ⟨hg3.1, hs3⟩ (fun hHeld2 => ?_)
      clear hK K hHeld
      have hHeld := hHeld2
      clear hHeld2
      try simp only [Act.put, List.setIfInBounds_toArray, List.set_cons_zero, List.set_cons_succ, List.getElem_toArray, List.getElem_cons_zero, List.getElem_cons_succ]
      clear own8 gr8 hs3 hg3 hat8
      refine wpAnyH_ready (rs := [6]) (by kernel_rfl) (by simp) ?_
      refine AllReadyH.cons rfl (fun K hK => ?_) AllReadyH.nil
      try simp only [Act.put, List.setIfInBounds_toArray, List.set_cons_zero, List.set_cons_succ, List.getElem_toArray, List.getElem_cons_zero, List.getElem_cons_succ]
      go_simp
      go_at_call 46
      refine (refSort_any A8 (n + 1) c8 (l ++ [s]) wl5 ((flatS.own HG.out).rd fun b hb => hb.2) (by rw [List.length_append, Hn.out]; rfl) u3 u4 (by omega)).mono ?_
      rintro e wl6 ⟨v9, rfl, ho9, hb9⟩
      have HO9 := hide (own_lowQ ho9 hHeld.1.bel.size)
      clear ho9
      refine hK.out _ _ ⟨hHeld.1.step hb9, hHeld.2.below hb9 hHeld.2.lt⟩ (fun hHeld2 => ?_)
      clear hK K hHeld
      have hHeld := hHeld2
      clear hHeld2
      try simp only [Act.put, List.setIfInBounds_toArray, List.set_cons_zero, List.set_cons_succ, List.getElem_toArray, List.getElem_cons_zero, List.getElem_cons_succ]
      refine wpAnyH_take (i := 7) (v := v9) rfl (by kernel_rfl) (by kernel_rfl) (by kernel_rfl) (fun _ _ _ h => h) (Or.inl ⟨by rfl, fun W hS => by clear hS hHeld; go_simp⟩) hHeld ?_
      try simp only [Act.put, List.setIfInBounds_toArray, List.set_cons_zero, List.set_cons_succ, List.getElem_toArray, List.getElem_cons_zero, List.getElem_cons_succ]
      refine wpAnyH_done (by kernel_rfl) ?_ _
      go_wp2
      go_ret
      exact ⟨_, rfl, HO9.out, hHeld.1.bel⟩
    refine AllReadyH.cons rfl (fun K hK => ?_) AllReadyH.nil
    try simp only [Act.put, List.setIfInBounds_toArray, List.set_cons_zero, List.set_cons_succ, List.getElem_toArray, List.getElem_cons_zero, List.getElem_cons_succ]
    go_simp
    refine hK.out _ _ ⟨hHeld.1.alloc _, hHeld.2.alloc _⟩ (fun hHeld2 => ?_)
    clear hK K hHeld
    have hHeld := hHeld2
    clear hHeld2
    try simp only [Act.put, List.setIfInBounds_toArray, List.set_cons_zero, List.set_cons_succ, List.getElem_toArray, List.getElem_cons_zero, List.getElem_cons_succ]
    replace HE := hide (HE.out.alloc (.cells #[.int .u64 s.1.1, .int .u64 s.1.2, .int .i64 s.2] 53))
    replace HRd := hide (Rd.alloc HRd.out (show w.heap.size ≤ wl2.heap.size from HSz.out) (.cells #[.int .u64 s.1.1, .int .u64 s.1.2, .int .i64 s.2] 53))
    have HL := hide (Blk.new wl2 53 #[.int .u64 s.1.1, .int .u64 s.1.2, .int .i64 s.2])
    have hgg : wl2.heap.size ≠ gE := by have := HEl.out; omega
    have HLl := hide (show wl2.heap.size < (wl2.alloc (.cells #[.int .u64 s.1.1, .int .u64 s.1.2, .int .i64 s.2] 53)).heap.size by simp)
    replace HSx := hide (show w.heap.size < (wl2.alloc (.cells #[.int .u64 s.1.1, .int .u64 s.1.2, .int .i64 s.2] 53)).heap.size by have := HSx.out; simp; omega)
    replace HSz := hide (show w.heap.size ≤ (wl2.alloc (.cells #[.int .u64 s.1.1, .int .u64 s.1.2, .int .i64 s.2] 53)).heap.size by have := HSz.out; simp; omega)
    replace HEl := hide (show gE < (wl2.alloc (.cells #[.int .u64 s.1.1, .int .u64 s.1.2, .int .i64 s.2] 53)).heap.size by have := HEl.out; simp; omega)
    generalize wl2.alloc (.cells #[.int .u64 s.1.1, .int .u64 s.1.2, .int .i64 s.2] 53) = wl3 at *
    generalize wl2.heap.size = gL at *
    refine wpAnyH_ready (rs := [2]) (by kernel_rfl) (by simp) ?_
    refine AllReadyH.cons rfl (fun K hK => ?_) AllReadyH.nil
    try simp only [Act.put, List.setIfInBounds_toArray, List.set_cons_zero, List.set_cons_succ, List.getElem_toArray, List.getElem_cons_zero, List.getElem_cons_succ]
    rw [if_pos (by rfl)]
    refine wp_append_any _ (.tmp 5) (.tmp 6) 29 rfl w.heap.size 53 i0 _ 3 24 Try.underlying29 hi0 hz0 hz1 hz2 rfl (by decide) (.slice (some ⟨gE, 0, none⟩) 0 0) 0 _ rfl HE.out _ A n c (fcs encS l) rfl (flatS.reads (fun _ h => h) HRd.out Hn.out) (flatS.ones l) (by simp only [maxLen]; omega) (by omega) HSz.out ?_
    intro v7 wl4 own7 gr7 hat7
    have HX7 := hide (show w.heap.size < wl3.heap.size from HSx.out)
    have hg2 := RP.grown hHeld.1 HE.out HRd.out gr7
    have HF := hide own7
    rw [Nat.zero_add, List.nil_append] at HF
    have HL2 := hide (HL.out.grown gr7 (fun e => hgg (by simpa [Value.ownBlock] using e)))
    have hs2 : Blk wl4 w.heap.size 53 #[.int .u64 s.1.1, .int .u64 s.1.2, .int .i64 s.2] := hHeld.2.grown gr7 (fun e => by have := (HE.out.lt _ e.symm).1; have hlt := HEx.out; simp [Value.ownBlock] at e; omega)
    refine hK.out _ _ ⟨hg2.1, hs2⟩ (fun hHeld2 => ?_)
    clear hK K hHeld
    have hHeld := hHeld2
    clear hHeld2
    try simp only [Act.put, List.setIfInBounds_toArray, List.set_cons_zero, List.set_cons_succ, List.getElem_toArray, List.getElem_cons_zero, List.getElem_cons_succ]
    replace HRd := hide hg2.2
    have HS2 := hide (Nat.le_trans HSz.out gr7.size)
    replace HSz := HS2
    replace HSx := hide (show w.heap.size < wl4.heap.size from Nat.lt_of_lt_of_le HSx.out gr7.size)
    have hE2 : gE < wl4.heap.size := Nat.lt_of_lt_of_le HEl.out gr7.size
    replace HEl := hide hE2
    have hL2 : gL < wl4.heap.size := Nat.lt_of_lt_of_le HLl.out gr7.size
    replace HLl := hide hL2
    replace HL := HL2
    obtain ⟨A7, c7, rfl, u1, u2⟩ := own_form HF.out
    have HV7 := hide (show ∀ d, (Value.slice A7 n c7).ownBlock = some d → d ≠ w.heap.size from fun d hd e => by
      rcases hat7 with h | h
      · rw [h] at hd; have := HEx.out; simp [Value.ownBlock] at hd; omega
      · rw [h] at hd; injection hd with hd; have := HX7.out; omega)
    clear own7 gr7 hg2 hs2 hat7
    refine wpAnyH_ready (rs := [5]) (by kernel_rfl) (by simp) ?_
    refine AllReadyH.cons rfl (fun K hK => ?_) AllReadyH.nil
    try simp only [Act.put, List.setIfInBounds_toArray, List.set_cons_zero, List.set_cons_succ, List.getElem_toArray, List.getElem_cons_zero, List.getElem_cons_succ]
    rw [if_pos (by rfl)]
    refine wp_append_any _ (.tmp 7) (.tmp 9) 29 rfl w.heap.size 53 i0 _ 3 24 Try.underlying29 hi0 hz0 hz1 hz2 rfl (by decide) (.slice A7 n c7) n _ rfl HF.out _ (some ⟨gL, 0, none⟩) 1 1 (encS s) rfl (blk_reads3 HL.out) (flatS.one s) (by simp only [maxLen]; omega) (by omega) HSz.out ?_
    intro v8 wl5 own8 gr8 hat8
    have hg3 := RP.grown hHeld.1 HF.out HRd.out gr8
    have HG := hide (show wl5.ownsRow w.heap.size 53 3 v8 (n + 1) (fcs encS (l ++ [s])) from by rw [fcs_snoc]; exact own8)
    have hs3 : Blk wl5 w.heap.size 53 #[.int .u64 s.1.1, .int .u64 s.1.2, .int .i64 s.2] := hHeld.2.grown gr8 (fun e => HV7.out _ e.symm rfl)
    obtain ⟨A8, c8, rfl, u3, u4⟩ := own_form HG.out
    refine hK.out _ _ ⟨hg3.1, hs3⟩ (fun hHeld2 => ?_)
    clear hK K hHeld
    have hHeld := hHeld2
    clear hHeld2
    try simp only [Act.put, List.setIfInBounds_toArray, List.set_cons_zero, List.set_cons_succ, List.getElem_toArray, List.getElem_cons_zero, List.getElem_cons_succ]
    clear own8 gr8 hs3 hg3 hat8
    refine wpAnyH_ready (rs := [6]) (by kernel_rfl) (by simp) ?_
    refine AllReadyH.cons rfl (fun K hK => ?_) AllReadyH.nil
    try simp only [Act.put, List.setIfInBounds_toArray, List.set_cons_zero, List.set_cons_succ, List.getElem_toArray, List.getElem_cons_zero, List.getElem_cons_succ]
    go_simp
    go_at_call 46
    refine (refSort_any A8 (n + 1) c8 (l ++ [s]) wl5 ((flatS.own HG.out).rd fun b hb => hb.2) (by rw [List.length_append, Hn.out]; rfl) u3 u4 (by omega)).mono ?_
    rintro e wl6 ⟨v9, rfl, ho9, hb9⟩
    have HO9 := hide (own_lowQ ho9 hHeld.1.bel.size)
    clear ho9
    refine hK.out _ _ ⟨hHeld.1.step hb9, hHeld.2.below hb9 hHeld.2.lt⟩ (fun hHeld2 => ?_)
    clear hK K hHeld
    have hHeld := hHeld2
    clear hHeld2
    try simp only [Act.put, List.setIfInBounds_toArray, List.set_cons_zero, List.set_cons_succ, List.getElem_toArray, List.getElem_cons_zero, List.getElem_cons_succ]
    refine wpAnyH_take (i := 7) (v := v9) rfl (by kernel_rfl) (by kernel_rfl) (by kernel_rfl) (fun _ _ _ h => h) (Or.inl ⟨by rfl, fun W hS => by clear hS hHeld; go_simp⟩) hHeld ?_
    try simp only [Act.put, List.setIfInBounds_toArray, List.set_cons_zero, List.set_cons_succ, List.getElem_toArray, List.getElem_cons_zero, List.getElem_cons_succ]
    refine wpAnyH_done (by kernel_rfl) ?_ _
    go_wp2
    go_ret
    exact ⟨_, rfl, HO9.out, hHeld.1.bel⟩
  refine AllReadyH.cons rfl (fun K hK => ?_) AllReadyH.nil
  try simp only [Act.put, List.setIfInBounds_toArray, List.set_cons_zero, List.set_cons_succ, List.getElem_toArray, List.getElem_cons_zero, List.getElem_cons_succ]
  go_simp
  refine hK.out _ _ ⟨hHeld.1.alloc _, hHeld.2.alloc _⟩ (fun hHeld2 => ?_)
  clear hK K hHeld
  have hHeld := hHeld2
  clear hHeld2
  try simp only [Act.put, List.setIfInBounds_toArray, List.set_cons_zero, List.set_cons_succ, List.getElem_toArray, List.getElem_cons_zero, List.getElem_cons_succ]
  replace HRd := hide (Rd.alloc HRd.out (show w.heap.size ≤ wl1.heap.size from HSz.out) (.cells #[.int .u64 s.1.1, .int .u64 s.1.2, .int .i64 s.2] 53))
  have HL := hide (Blk.new wl1 53 #[.int .u64 s.1.1, .int .u64 s.1.2, .int .i64 s.2])
  have HLl := hide (show wl1.heap.size < (wl1.alloc (.cells #[.int .u64 s.1.1, .int .u64 s.1.2, .int .i64 s.2] 53)).heap.size by simp)
  replace HSx := hide (show w.heap.size < (wl1.alloc (.cells #[.int .u64 s.1.1, .int .u64 s.1.2, .int .i64 s.2] 53)).heap.size by have := HSx.out; simp; omega)
  replace HSz := hide (show w.heap.size ≤ (wl1.alloc (.cells #[.int .u64 s.1.1, .int .u64 s.1.2, .int .i64 s.2] 53)).heap.size by have := HSz.out; simp; omega)
  generalize wl1.alloc (.cells #[.int .u64 s.1.1, .int .u64 s.1.2, .int .i64 s.2] 53) = wl2 at *
  generalize wl1.heap.size = gL at *
  refine wpAnyH_ready (rs := [0]) (by kernel_rfl) (by simp) ?_
  refine AllReadyH.cons rfl (fun K hK => ?_) AllReadyH.nil
  try simp only [Act.put, List.setIfInBounds_toArray, List.set_cons_zero, List.set_cons_succ, List.getElem_toArray, List.getElem_cons_zero, List.getElem_cons_succ]
  go_simp
  refine hK.out _ _ ⟨hHeld.1.alloc _, hHeld.2.alloc _⟩ (fun hHeld2 => ?_)
  clear hK K hHeld
  have hHeld := hHeld2
  clear hHeld2
  try simp only [Act.put, List.setIfInBounds_toArray, List.set_cons_zero, List.set_cons_succ, List.getElem_toArray, List.getElem_cons_zero, List.getElem_cons_succ]
  replace HL := hide (HL.out.alloc (.cells #[] 53))
  replace HRd := hide (Rd.alloc HRd.out (show w.heap.size ≤ wl2.heap.size from HSz.out) (.cells #[] 53))
  have HE := hide (World.ownsRow_lit (base := w.heap.size) (e := 53) (size := 3) wl2 #[] 0 HSz.out (by decide) rfl)
  have HEx := hide (show w.heap.size < wl2.heap.size from HSx.out)
  have hgg : gL ≠ wl2.heap.size := by have := HLl.out; omega
  have HEl := hide (show wl2.heap.size < (wl2.alloc (.cells #[] 53)).heap.size by simp)
  replace HSx := hide (show w.heap.size < (wl2.alloc (.cells #[] 53)).heap.size by have := HSx.out; simp; omega)
  replace HSz := hide (show w.heap.size ≤ (wl2.alloc (.cells #[] 53)).heap.size by have := HSz.out; simp; omega)
  replace HLl := hide (show gL < (wl2.alloc (.cells #[] 53)).heap.size by have := HLl.out; simp; omega)
  generalize wl2.alloc (.cells #[] 53) = wl3 at *
  generalize wl2.heap.size = gE at *
  refine wpAnyH_ready (rs := [2]) (by kernel_rfl) (by simp) ?_
  refine AllReadyH.cons rfl (fun K hK => ?_) AllReadyH.nil
  try simp only [Act.put, List.setIfInBounds_toArray, List.set_cons_zero, List.set_cons_succ, List.getElem_toArray, List.getElem_cons_zero, List.getElem_cons_succ]
  rw [if_pos (by rfl)]
  refine wp_append_any _ (.tmp 5) (.tmp 6) 29 rfl w.heap.size 53 i0 _ 3 24 Try.underlying29 hi0 hz0 hz1 hz2 rfl (by decide) (.slice (some ⟨gE, 0, none⟩) 0 0) 0 _ rfl HE.out _ A n c (fcs encS l) rfl (flatS.reads (fun _ h => h) HRd.out Hn.out) (flatS.ones l) (by simp only [maxLen]; omega) (by omega) HSz.out ?_
  intro v7 wl4 own7 gr7 hat7
  have HX7 := hide (show w.heap.size < wl3.heap.size from HSx.out)
  have hg2 := RP.grown hHeld.1 HE.out HRd.out gr7
  have HF := hide own7
  rw [Nat.zero_add, List.nil_append] at HF
  have HL2 := hide (HL.out.grown gr7 (fun e => hgg (by simpa [Value.ownBlock] using e)))
  have hs2 : Blk wl4 w.heap.size 53 #[.int .u64 s.1.1, .int .u64 s.1.2, .int .i64 s.2] := hHeld.2.grown gr7 (fun e => by have := (HE.out.lt _ e.symm).1; have hlt := HEx.out; simp [Value.ownBlock] at e; omega)
  refine hK.out _ _ ⟨hg2.1, hs2⟩ (fun hHeld2 => ?_)
  clear hK K hHeld
  have hHeld := hHeld2
  clear hHeld2
  try simp only [Act.put, List.setIfInBounds_toArray, List.set_cons_zero, List.set_cons_succ, List.getElem_toArray, List.getElem_cons_zero, List.getElem_cons_succ]
  replace HRd := hide hg2.2
  have HS2 := hide (Nat.le_trans HSz.out gr7.size)
  replace HSz := HS2
  replace HSx := hide (show w.heap.size < wl4.heap.size from Nat.lt_of_lt_of_le HSx.out gr7.size)
  have hE2 : gE < wl4.heap.size := Nat.lt_of_lt_of_le HEl.out gr7.size
  replace HEl := hide hE2
  have hL2 : gL < wl4.heap.size := Nat.lt_of_lt_of_le HLl.out gr7.size
  replace HLl := hide hL2
  replace HL := HL2
  obtain ⟨A7, c7, rfl, u1, u2⟩ := own_form HF.out
  have HV7 := hide (show ∀ d, (Value.slice A7 n c7).ownBlock = some d → d ≠ w.heap.size from fun d hd e => by
    rcases hat7 with h | h
    · rw [h] at hd; have := HEx.out; simp [Value.ownBlock] at hd; omega
    · rw [h] at hd; injection hd with hd; have := HX7.out; omega)
  clear own7 gr7 hg2 hs2 hat7
  refine wpAnyH_ready (rs := [5]) (by kernel_rfl) (by simp) ?_
  refine AllReadyH.cons rfl (fun K hK => ?_) AllReadyH.nil
  try simp only [Act.put, List.setIfInBounds_toArray, List.set_cons_zero, List.set_cons_succ, List.getElem_toArray, List.getElem_cons_zero, List.getElem_cons_succ]
  rw [if_pos (by rfl)]
  refine wp_append_any _ (.tmp 7) (.tmp 9) 29 rfl w.heap.size 53 i0 _ 3 24 Try.underlying29 hi0 hz0 hz1 hz2 rfl (by decide) (.slice A7 n c7) n _ rfl HF.out _ (some ⟨gL, 0, none⟩) 1 1 (encS s) rfl (blk_reads3 HL.out) (flatS.one s) (by simp only [maxLen]; omega) (by omega) HSz.out ?_
  intro v8 wl5 own8 gr8 hat8
  have hg3 := RP.grown hHeld.1 HF.out HRd.out gr8
  have HG := hide (show wl5.ownsRow w.heap.size 53 3 v8 (n + 1) (fcs encS (l ++ [s])) from by rw [fcs_snoc]; exact own8)
  have hs3 : Blk wl5 w.heap.size 53 #[.int .u64 s.1.1, .int .u64 s.1.2, .int .i64 s.2] := hHeld.2.grown gr8 (fun e => HV7.out _ e.symm rfl)
  obtain ⟨A8, c8, rfl, u3, u4⟩ := own_form HG.out
  refine hK.out _ _ ⟨hg3.1, hs3⟩ (fun hHeld2 => ?_)
  clear hK K hHeld
  have hHeld := hHeld2
  clear hHeld2
  try simp only [Act.put, List.setIfInBounds_toArray, List.set_cons_zero, List.set_cons_succ, List.getElem_toArray, List.getElem_cons_zero, List.getElem_cons_succ]
  clear own8 gr8 hs3 hg3 hat8
  refine wpAnyH_ready (rs := [6]) (by kernel_rfl) (by simp) ?_
  refine AllReadyH.cons rfl (fun K hK => ?_) AllReadyH.nil
  try simp only [Act.put, List.setIfInBounds_toArray, List.set_cons_zero, List.set_cons_succ, List.getElem_toArray, List.getElem_cons_zero, List.getElem_cons_succ]
  go_simp
  go_at_call 46
  refine (refSort_any A8 (n + 1) c8 (l ++ [s]) wl5 ((flatS.own HG.out).rd fun b hb => hb.2) (by rw [List.length_append, Hn.out]; rfl) u3 u4 (by omega)).mono ?_
  rintro e wl6 ⟨v9, rfl, ho9, hb9⟩
  have HO9 := hide (own_lowQ ho9 hHeld.1.bel.size)
  clear ho9
  refine hK.out _ _ ⟨hHeld.1.step hb9, hHeld.2.below hb9 hHeld.2.lt⟩ (fun hHeld2 => ?_)
  clear hK K hHeld
  have hHeld := hHeld2
  clear hHeld2
  try simp only [Act.put, List.setIfInBounds_toArray, List.set_cons_zero, List.set_cons_succ, List.getElem_toArray, List.getElem_cons_zero, List.getElem_cons_succ]
  refine wpAnyH_take (i := 7) (v := v9) rfl (by kernel_rfl) (by kernel_rfl) (by kernel_rfl) (fun _ _ _ h => h) (Or.inl ⟨by rfl, fun W hS => by clear hS hHeld; go_simp⟩) hHeld ?_
  try simp only [Act.put, List.setIfInBounds_toArray, List.set_cons_zero, List.set_cons_succ, List.getElem_toArray, List.getElem_cons_zero, List.getElem_cons_succ]
  refine wpAnyH_done (by kernel_rfl) ?_ _
  go_wp2
  go_ret
  exact ⟨_, rfl, HO9.out, hHeld.1.bel⟩
end Go.Proofs.Ytphbdffgeeicaaa
