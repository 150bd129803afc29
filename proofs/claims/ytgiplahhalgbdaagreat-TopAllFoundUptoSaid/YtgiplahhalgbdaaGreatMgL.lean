/-
  Texts of one part, put together. No condition.
-/
import Derived.Test.YtgiplahhalgbdaaGreatItm
import Derived.Test.YtgiplahhalgbdaaGreatHitS
import Derived.Test.YtgiplahhalgbdaaGreatMgX
import Derived.Deep.RegionHeld3
/-
  The package exact: items as cells; Has; a made slice without elements. Conditions: the slice reads as a list of items.
-/
namespace Go.Proofs.YtgiplahhalgbdaaGreat
open Go.RowKit

/-- hits as spots of slot 0 -/
def sp0H (l : List Hit) : List Spt := l.map fun x => (x, 0)
theorem sp0H_append (l m : List Hit) : sp0H (l ++ m) = sp0H l ++ sp0H m := List.map_append
theorem sp0H_lt (x y : Hit) : sptLt (x, 0) (y, 0) = hitLt x y := by
  rw [Bool.eq_iff_iff, sptLt_iff, hitLt_iff]; simp
theorem srt_sp0H (l : List Hit) : srtS (sp0H l) = sp0H (srtH l) := by
  refine (srt_eq swoS totS ?_ ?_).symm
  · exact srt_perm.map _
  · unfold sp0H
    rw [List.pairwise_map]
    exact (srt_pw swoH l).imp fun h => by rw [sp0H_lt]; exact h
theorem Rd.step {α : Type} {S : Sh α} {w w' : World} {A : Option Addr} {l : List α} (h : Rd S w w.heap.size A l) (hb : Below w.heap.size w w') : Rd S w' w'.heap.size A l :=
  RdR.rd (Rd.below h hb (Nat.le_refl _)) fun _ hl => Nat.lt_of_lt_of_le hl hb.size
theorem NewL.at_ {α : Type} {S : Sh α} {w w' : World} {l : List α} {v : Value} (h : NewL S w l v w') : ∃ A c, v = .slice A l.length c ∧ l.length ≤ c ∧ c ≤ 9223372036854775807 ∧ Rd S w' w'.heap.size A l ∧ Below w.heap.size w w' := by
  obtain ⟨A, n, c, rfl, rfl, h1, h2, h3, h4⟩ := h
  exact ⟨A, c, rfl, h1, h2, h3.rd fun b hb => hb.2, h4⟩
theorem own_made (w : World) (e : TypeId) (zs : Array Value) (base c : Nat) (hb : base ≤ w.heap.size) (hc : c ≤ maxLen) : (w.alloc (.cells (madeCells zs (c * zs.size)) e)).ownsRow base e zs.size (.slice (some ⟨w.heap.size, 0, none⟩) 0 c) 0 [] :=
  ⟨by simp, .inr ⟨w.heap.size, c, _, rfl, hb, heap_alloc_new _ _, Nat.zero_le _, hc, by simp [size_madeCells], by simp⟩⟩
theorem info_hitE : (Tryz.prog.info? 42).map (fun i => (i.zero, i.size, i.bytes)) = some (some (.agg #[.int .u64 0, .int .u64 0]), 2, 16) := by kernel_rfl
theorem run_make_hits (c : Nat) (h6 : c ≤ 1000000) (w : World) :
    (Instr.makeSlice 32 (.int .i64 0) (.int .i64 (c : Int))).run Tryz.prog w = .ok (.slice (some ⟨w.heap.size, 0, none⟩) 0 c) (w.alloc (.cells (madeCells #[.int .u64 0, .int .u64 0] (c * 2)) 42)) := by
  obtain ⟨i, hi, hz⟩ := Option.map_eq_some_iff.1 info_hitE
  simp only [Prod.mk.injEq] at hz
  obtain ⟨h1, h2, h3⟩ := hz
  have := run_make_rowN (P := Tryz.prog) 32 42 i _ Tryz.underlying32 hi h1 .i64 .i64 0 c (Nat.zero_le _) (by rw [h3]; omega) (by omega) w
  rw [h2] at this
  exact this
end Go.Proofs.YtgiplahhalgbdaaGreat

/-
  The package exact: hits, and the reference's Hits. Conditions: the slices read as a list of items, and as a vector; at most some hundred thousand items.
-/
namespace Go.Proofs.YtgiplahhalgbdaaGreat
open Go.RowKit

set_option maxHeartbeats 8000000 in
set_option maxRecDepth 100000 in
theorem hits_any (A B : Option Addr) (n c m d : Nat) (l : List ItemP) (q : List Int) (mask : Int) (w : World) (hx : Rd SItem w w.heap.size A l) (hn : l.length = n) (hxi : ItsI l) (hc : n ≤ c) (hm : c ≤ 9223372036854775807)
    (hy : Rd (Sh.int .i32) w w.heap.size B q) (hn' : q.length = m) (hyi : I32 q) (hd : m ≤ d) (hm' : d ≤ 9223372036854775807) (h6 : n ≤ 400000) :
    Calls Tryz.prog 18 #[.slice A n c, .slice B m d, .int .u64 mask] w fun e w' => ∃ v, e = .returned v ∧ NewL SH w (hitsM q mask l) v w' := by
  have HX := hide hx
  have HY := hide hy
  have Hn := hide hn
  have Hm := hide hn'
  have HXI := hide hxi
  have HYI := hide hyi
  obtain ⟨i3, hi3, hz3⟩ := Option.map_eq_some_iff.1 info_spot
  simp only [Prod.mk.injEq] at hz3
  have HI3 := hide hi3
  have HZ3 := hide hz3.1
  have HS3 := hide hz3.2.1
  have HY3 := hide hz3.2.2
  clear hx hy hn hn' hxi hyi hi3 hz3
  go_enter Tryz.func18, Tryz.ntmps18
  go_upto_region 3 with fail
  go_loopw [7, 9, 15] (fun v _ i wr => ∃ j : Nat, j ≤ n ∧ i = .int .i64 j ∧ Hid (wr.ownsRow w.heap.size 60 3 v (cntM q mask (l.take j)).length (fcs encS (sp0H (cntM q mask (l.take j))))) ∧ Hid (Below w.heap.size w wr)) (fun _ _ i _ => n - (intOf i).toNat)
  case atStart => exact ⟨0, by omega, rfl, hide ⟨rfl, .inl ⟨rfl, rfl⟩⟩, hide (Below.refl _ _)⟩
  case round =>
    obtain ⟨j, hj, rfl, HO, HB⟩ := hrel
    by_cases hlt : j < n
    · obtain ⟨Av, cw, hvv, _, _⟩ := own_form HO.out
      subst hvv
      obtain ⟨ad, ⟨id, vec, tags⟩, V, cv, rfl, _, hv, q0, q1, q2, hcv, hcm, hR⟩ := RdR.itcell (HX.out.below HB.out (Nat.le_refl _)) (k := j) (by have := Hn.out; omega)
      simp only at q0 q1 q2 hR hcv
      have g0 : (0 : Int) ≤ j := by omega
      have g1 : (j : Int) < n := by omega
      have HVI := hide (HXI.out _ (List.mem_of_getElem? hv))
      have HSn := hide (cntM_snoc (q := q) (mask := mask) hv)
      have Hle := hide (show (cntM q mask (l.take j)).length ≤ j by have := cntM_le q mask (l.take j); rw [List.length_take] at this; omega)
      generalize hvn : vec.length = nv at *
      have HVN := hide hvn
      have HN := hide (Blk.new wr 50 #[.int .u64 id, .slice V nv cv, .int .u64 tags])
      have HB1 := hide (HB.out.alloc HB.out.size (.cells #[.int .u64 id, .slice V nv cv, .int .u64 tags] 50))
      have HV := hide ((RdR.rd (B := w.heap.size) hR fun _ h => h).below (below1 wr (.cells #[.int .u64 id, .slice V nv cv, .int .u64 tags] 50)) HB.out.size)
      have HO1 := hide (own_keep (w' := wr.alloc (.cells #[.int .u64 id, .slice V nv cv, .int .u64 tags] 50)) HO.out fun g hg => (below1 wr _).block g (HO.out.lt g hg).2)
      have Hne := hide (show some wr.heap.size ≠ Value.ownBlock _ from fun e => absurd (HO.out.lt wr.heap.size e.symm).2 (Nat.lt_irrefl _))
      clear hv hvn hR
      go_upto_region 5 with fail
      generalize wr.alloc (.cells #[.int .u64 id, .slice V nv cv, .int .u64 tags] 50) = w2 at *
      have z0 : w2.cell? ⟨wr.heap.size, 0, none⟩ = some (.int .u64 id) := HN.out.cell 0
      have z1 : w2.cell? ⟨wr.heap.size, 1, none⟩ = some (.slice V nv cv) := HN.out.cell 1
      have z2 : w2.cell? ⟨wr.heap.size, 2, none⟩ = some (.int .u64 tags) := HN.out.cell 2
      generalize wr.heap.size = bx at *
      clear q0 q1 q2
      by_cases e : hasB mask tags = true
      · rw [if_pos e] at HSn
        have HE := hide e
        
        have HC := hide (show ∀ W, Calls Tryz.prog 38 #[.int .u64 tags, .int .u64 mask] W fun e w' => e = .returned (.bool true) ∧ W = w' from fun W => by have h := has_any tags mask W; rwa [e] at h)
        go_upto_region 6 with (go_at_call 38; refine (HC.out _).mono ?_; rintro e _ ⟨rfl, rfl⟩)
        clear z0 z1 z2
        refine wp_region_held_drew (S := fun W => Blk W bx 50 #[.int .u64 id, .slice V nv cv, .int .u64 tags]) (by kernel_rfl) (HN.out.drew) (fun hHeld => ?_)
        have HBd := hide (show Below w.heap.size w w2.drew from HB1.out.drew)
        have HVd := hide (show Rd (Sh.int .i32) w2.drew w.heap.size V vec from HV.out)
        have HOd := hide (own_keep (w' := w2.drew) HO1.out fun _ _ => rfl)
        clear HN HO1
        generalize w2.drew = w3 at *
        refine wpAnyH_take (i := 0) (v := .slice Av (cntM q mask (l.take j)).length cw) rfl (by kernel_rfl) (by kernel_rfl) (by kernel_rfl) (fun _ _ _ h => h) (Or.inl ⟨by rfl, fun W hS => by clear hS hHeld; go_simp⟩) hHeld ?_
        try simp only [Act.put, List.setIfInBounds_toArray, List.set_cons_zero, List.set_cons_succ, List.getElem_toArray, List.getElem_cons_zero, List.getElem_cons_succ]
        refine wpAnyH_take (i := 1) (v := .slice B m d) rfl (by kernel_rfl) (by kernel_rfl) (by kernel_rfl) (fun _ _ _ h => h) (Or.inl ⟨by rfl, fun W hS => by clear hS hHeld; go_simp⟩) hHeld ?_
        try simp only [Act.put, List.setIfInBounds_toArray, List.set_cons_zero, List.set_cons_succ, List.getElem_toArray, List.getElem_cons_zero, List.getElem_cons_succ]
        refine wpAnyH_take (i := 2) (v := .pointer (some ⟨bx, 1, none⟩)) rfl (by kernel_rfl) (by kernel_rfl) (by kernel_rfl) (fun _ _ _ h => h) (Or.inl ⟨by rfl, fun W hS => by clear hS hHeld; go_simp⟩) hHeld ?_
        try simp only [Act.put, List.setIfInBounds_toArray, List.set_cons_zero, List.set_cons_succ, List.getElem_toArray, List.getElem_cons_zero, List.getElem_cons_succ]
        refine wpAnyH_take (i := 3) (v := .slice V nv cv) rfl (by kernel_rfl) (by kernel_rfl) (by kernel_rfl) (fun _ _ _ h => h) (Or.inl ⟨by rfl, fun W hS => by have z0 : W.cell? ⟨bx, 0, none⟩ = some (.int .u64 id) := Blk.cell hS 0; have z1 : W.cell? ⟨bx, 1, none⟩ = some (.slice V nv cv) := Blk.cell hS 1; clear hS hHeld; go_simp⟩) hHeld ?_
        try simp only [Act.put, List.setIfInBounds_toArray, List.set_cons_zero, List.set_cons_succ, List.getElem_toArray, List.getElem_cons_zero, List.getElem_cons_succ]
        refine wpAnyH_take (i := 5) (v := .pointer (some ⟨bx, 0, none⟩)) rfl (by kernel_rfl) (by kernel_rfl) (by kernel_rfl) (fun _ _ _ h => h) (Or.inl ⟨by rfl, fun W hS => by clear hS hHeld; go_simp⟩) hHeld ?_
        try simp only [Act.put, List.setIfInBounds_toArray, List.set_cons_zero, List.set_cons_succ, List.getElem_toArray, List.getElem_cons_zero, List.getElem_cons_succ]
        refine wpAnyH_take (i := 6) (v := .int .u64 id) rfl (by kernel_rfl) (by kernel_rfl) (by kernel_rfl) (fun _ _ _ h => h) (Or.inl ⟨by rfl, fun W hS => by have z0 : W.cell? ⟨bx, 0, none⟩ = some (.int .u64 id) := Blk.cell hS 0; have z1 : W.cell? ⟨bx, 1, none⟩ = some (.slice V nv cv) := Blk.cell hS 1; clear hS hHeld; go_simp⟩) hHeld ?_
        try simp only [Act.put, List.setIfInBounds_toArray, List.set_cons_zero, List.set_cons_succ, List.getElem_toArray, List.getElem_cons_zero, List.getElem_cons_succ]
        refine wpAnyH_ready (rs := [4]) (by kernel_rfl) (by simp) ?_
        refine AllReadyH.cons rfl (fun K hK => ?_) AllReadyH.nil
        try simp only [Act.put, List.setIfInBounds_toArray, List.set_cons_zero, List.set_cons_succ, List.getElem_toArray, List.getElem_cons_zero, List.getElem_cons_succ]
        go_simp
        go_at_call 39
        refine (dist_any B V m d nv cv q vec w3 (HY.out.below HBd.out (Nat.le_refl _) |> fun h => RdR.rd h fun b hb => Nat.lt_of_lt_of_le hb HBd.out.size) Hm.out HYI.out hd hm' (RdR.rd HVd.out fun b hb => Nat.lt_of_lt_of_le hb HBd.out.size) HVN.out HVI.out hcv hcm).mono ?_
        rintro e wq ⟨rfl, rfl⟩
        refine hK.out _ _ hHeld (fun hHeld2 => ?_)
        clear hK K hHeld
        have hHeld := hHeld2
        clear hHeld2
        try simp only [Act.put, List.setIfInBounds_toArray, List.set_cons_zero, List.set_cons_succ, List.getElem_toArray, List.getElem_cons_zero, List.getElem_cons_succ]
        refine wpAnyH_take (i := 7) (v := .agg #[.int .u64 (distOf q vec), .int .u64 id]) rfl (by kernel_rfl) (by kernel_rfl) (by kernel_rfl) (fun _ _ _ h => h) (Or.inl ⟨by rfl, fun W hS => by clear hS hHeld; go_simp⟩) hHeld ?_
        try simp only [Act.put, List.setIfInBounds_toArray, List.set_cons_zero, List.set_cons_succ, List.getElem_toArray, List.getElem_cons_zero, List.getElem_cons_succ]
        refine wpAnyH_take (i := 8) (v := .agg #[.int .u64 (distOf q vec), .int .u64 id, .int .i64 0]) rfl (by kernel_rfl) (by kernel_rfl) (by kernel_rfl) (fun _ _ _ h => h) (Or.inl ⟨by rfl, fun W hS => by clear hS hHeld; go_simp⟩) hHeld ?_
        try simp only [Act.put, List.setIfInBounds_toArray, List.set_cons_zero, List.set_cons_succ, List.getElem_toArray, List.getElem_cons_zero, List.getElem_cons_succ]
        refine wpAnyH_ready (rs := [9]) (by kernel_rfl) (by simp) ?_
        refine AllReadyH.cons rfl (fun K hK => ?_) AllReadyH.nil
        try simp only [Act.put, List.setIfInBounds_toArray, List.set_cons_zero, List.set_cons_succ, List.getElem_toArray, List.getElem_cons_zero, List.getElem_cons_succ]
        go_simp
        refine hK.out _ _ (Blk.alloc hHeld _) (fun hHeld2 => ?_)
        clear hK K hHeld
        have hHeld := hHeld2
        clear hHeld2
        try simp only [Act.put, List.setIfInBounds_toArray, List.set_cons_zero, List.set_cons_succ, List.getElem_toArray, List.getElem_cons_zero, List.getElem_cons_succ]
        have H9 := hide (Blk.new w3 60 #[.int .u64 (distOf q vec), .int .u64 id, .int .i64 0])
        replace HOd := hide (own_keep (w' := w3.alloc (.cells #[.int .u64 (distOf q vec), .int .u64 id, .int .i64 0] 60)) HOd.out fun g hg => (below1 w3 _).block g (HOd.out.lt g hg).2)
        replace HBd := hide (HBd.out.alloc HBd.out.size (.cells #[.int .u64 (distOf q vec), .int .u64 id, .int .i64 0] 60))
        clear HVd
        generalize w3.alloc (.cells #[.int .u64 (distOf q vec), .int .u64 id, .int .i64 0] 60) = w4 at *
        generalize w3.heap.size = b9 at *
        refine wpAnyH_ready (rs := [10]) (by kernel_rfl) (by simp) ?_
        refine AllReadyH.cons rfl (fun K hK => ?_) AllReadyH.nil
        refine step_append_any _ rfl (.tmp 23) (.tmp 32) 57 rfl w.heap.size 60 i3 _ 3 24 Tryz.underlying57 HI3.out HZ3.out HS3.out HY3.out rfl (by decide) _ (cntM q mask (l.take j)).length _ rfl HOd.out w4.heap.size (some ⟨b9, 0, none⟩) 1 1 (fcs encS [((distOf q vec, id), 0)]) rfl (flatS.reads (fun _ h => h) (flatS.blk H9.out rfl) rfl) (flatS.ones _) (by have := Hle.out; simp only [maxLen]; omega) (by have := Hle.out; omega) HBd.out.size ?_
        intro v' wf hown9 hgr9 _
        have HOf := hide hown9
        have HBf := hide (below_own HBd.out HOd.out HBd.out.size hgr9)
        have HNf := Blk.grown hHeld hgr9 Hne.out
        clear hown9 hgr9
        refine hK.out _ _ HNf (fun hHeld2 => ?_)
        clear hK K hHeld
        have hHeld := hHeld2
        clear hHeld2
        try simp only [Act.put, List.setIfInBounds_toArray, List.set_cons_zero, List.set_cons_succ, List.getElem_toArray, List.getElem_cons_zero, List.getElem_cons_succ]
        refine wpAnyH_take (i := 11) (v := v') rfl (by kernel_rfl) (by kernel_rfl) (by kernel_rfl) (fun _ _ _ h => h) (Or.inl ⟨by rfl, fun W hS => by clear hS hHeld; go_simp⟩) hHeld ?_
        try simp only [Act.put, List.setIfInBounds_toArray, List.set_cons_zero, List.set_cons_succ, List.getElem_toArray, List.getElem_cons_zero, List.getElem_cons_succ]
        refine wpAnyH_done (by kernel_rfl) ?_ _
        go_wp2
        go_roundw
        case rel => exact ⟨j + 1, by omega, by go_num, hide (by rw [HSn.out, List.length_append, sp0H_append, fcs_append]; exact HOf.out), HBf⟩
        case measure => simp [intOf]; omega
      · rw [if_neg e, List.append_nil] at HSn
        have e' : hasB mask tags = false := by simpa using e
        have HC := hide (show ∀ W, Calls Tryz.prog 38 #[.int .u64 tags, .int .u64 mask] W fun e w' => e = .returned (.bool false) ∧ W = w' from fun W => by have h := has_any tags mask W; rwa [e'] at h)
        clear e e'
        go_wp2_with (go_at_call 38; refine (HC.out _).mono ?_; rintro e _ ⟨rfl, rfl⟩)
        go_roundw
        case rel => exact ⟨j + 1, by omega, by go_num, hide (by rw [HSn.out]; exact HO1.out), HB1⟩
        case measure => simp [intOf]; omega
    · obtain rfl : j = n := by omega
      have HO2 := hide (show World.ownsRow _ w.heap.size 60 3 _ (cntM q mask l).length (fcs encS (sp0H (cntM q mask l))) by have h := HO.out; rw [List.take_of_length_le (by have := Hn.out; omega)] at h; exact h)
      have Hle := hide (show (cntM q mask l).length ≤ 400000 by have := cntM_le q mask l; rw [Hn.out] at this; omega)
      clear HO
      obtain ⟨A2, c2, hv2, hc2, hm2⟩ := own_form HO2.out
      subst hv2
      have HM : hitsM q mask l = srtH (cntM q mask l) := rfl
      generalize cntM q mask l = cl at *
      generalize hcl : cl.length = ncl at *
      have Hcl := hide hcl
      have HSL := hide ((flatS.own HO2.out).rd (B := wr.heap.size) fun b hb => hb.2)
      have HMh := hide HM
      clear hcl HM HO2
      have hle2 := Hle.out
      have hmk := fun W => run_make_hits ncl (by omega) W
      go_wp2_with fail
      have HOm0 := hide (show (wr.alloc (.cells (madeCells #[.int .u64 0, .int .u64 0] (ncl * 2)) 42)).ownsRow w.heap.size 42 2 (.slice (some ⟨wr.heap.size, 0, none⟩) 0 ncl) 0 [] from own_made wr 42 #[.int .u64 0, .int .u64 0] w.heap.size ncl HB.out.size (by have := Hle.out; simp only [maxLen]; omega))
      have HBm := hide (below1 wr (.cells (madeCells #[.int .u64 0, .int .u64 0] (ncl * 2)) 42))
      have HOU := hide (show ∀ g, (Value.slice (some ⟨wr.heap.size, 0, none⟩) 0 ncl).ownBlock = some g → g < (wr.alloc (.cells (madeCells #[.int .u64 0, .int .u64 0] (ncl * 2)) 42)).heap.size ∨ False from fun g h => by
        have : wr.heap.size = g := by injection h
        left; simp; omega)
      clear hmk
      have HB2 := hide (HB.out.trans (HBm.out.mono HB.out.size))
      have HSM := hide (HSL.out.step HBm.out)
      generalize wr.alloc (.cells (madeCells #[.int .u64 0, .int .u64 0] (ncl * 2)) 42) = wm at *
      generalize wr.heap.size = bm at *
      have HC := hide (sort_any A2 ncl c2 (sp0H cl) wm HSM.out (by unfold sp0H; rw [List.length_map, Hcl.out]) hc2 hm2 (by have := Hle.out; omega))
      refine HC.out.mono ?_
      rintro e w3 ⟨v3, rfl, ho3, hb3⟩
      have HOm := hide (own_keep HOm0.out fun g hg => hb3.block g (HOm0.out.lt g hg).2)
      have HB3 := hide (HB2.out.trans (hb3.mono HB2.out.size))
      obtain ⟨A3, c3, rfl, hc3, hm3⟩ := own_form ho3
      rw [srt_sp0H] at ho3
      have HR3 := hide (flatS.own ho3)
      have HTl := hide (show (srtH cl).length = ncl by rw [srtH_len, Hcl.out])
      generalize srtH cl = t at *
      clear HC ho3 hb3 HSM HSL HB2 HB HOm0 HBm
      generalize wm.heap.size = sb at *
      go_upto_region 10 with fail
      go_loopw [10, 12, 41] (fun v _ i wr => ∃ r : Nat, r ≤ ncl ∧ i = .int .i64 r ∧ Hid (wr.ownsRow w.heap.size 42 2 v r (fcs encH (t.take r))) ∧ Hid (Below w.heap.size w wr) ∧ Hid (RdR SP wr (Btw sb w3.heap.size) A3 (sp0H t)) ∧ Hid (w3.heap.size ≤ wr.heap.size) ∧ Hid (∀ g, v.ownBlock = some g → g < sb ∨ w3.heap.size ≤ g)) (fun _ _ i _ => ncl - (intOf i).toNat)
      case atStart => exact ⟨0, by omega, rfl, HOm, HB3, HR3, hide (Nat.le_refl _), hide (fun g h => (HOU.out g h).elim .inl False.elim)⟩
      case round =>
        clear HB3 HR3 HOm HOU
        obtain ⟨r, hr, rfl, HO, HB, HR, HSz, HOU⟩ := hrel
        by_cases hlt : r < ncl
        · obtain ⟨⟨x1, x2⟩, hh⟩ : ∃ h, t[r]? = some h := ⟨_, List.getElem?_eq_getElem (by have := HTl.out; omega)⟩
          obtain ⟨ad, x, rfl, hb0, hv, q0, q1, q2⟩ := RdR.scell HR.out (k := r) (by unfold sp0H; rw [List.length_map, HTl.out]; exact hlt)
          have hx : x = ((x1, x2), 0) := by
            unfold sp0H at hv
            rw [List.getElem?_map, hh] at hv
            injection hv with hv
            exact hv.symm
          subst hx
          simp only at q0 q1 q2
          have g0 : (0 : Int) ≤ r := by omega
          have g1 : (r : Int) < ncl := by omega
          have HSn := hide (take_snoc hh)
          have HN := hide (Blk.new wr 60 #[.int .u64 x1, .int .u64 x2, .int .i64 0])
          have HB1 := hide (HB.out.alloc HB.out.size (.cells #[.int .u64 x1, .int .u64 x2, .int .i64 0] 60))
          have HO1 := hide (own_keep (w' := wr.alloc (.cells #[.int .u64 x1, .int .u64 x2, .int .i64 0] 60)) HO.out fun g hg => (below1 wr _).block g (HO.out.lt g hg).2)
          have HR1 := hide (HR.out.keepBlocks (w' := wr.alloc (.cells #[.int .u64 x1, .int .u64 x2, .int .i64 0] 60)) fun b hb => (below1 wr _).block b (Nat.lt_of_lt_of_le hb.2 HSz.out))
          have HSz1 := hide (show w3.heap.size ≤ (wr.alloc (.cells #[.int .u64 x1, .int .u64 x2, .int .i64 0] 60)).heap.size by have := HSz.out; simp; omega)
          clear hv hh
          go_upto_region 12 with fail
          clear q0 q1 q2
          generalize wr.alloc (.cells #[.int .u64 x1, .int .u64 x2, .int .i64 0] 60) = w5 at *
          have z0 : w5.cell? ⟨wr.heap.size, 0, none⟩ = some (.int .u64 x1) := HN.out.cell 0
          have z1 : w5.cell? ⟨wr.heap.size, 1, none⟩ = some (.int .u64 x2) := HN.out.cell 1
          generalize wr.heap.size = bx at *
          go_wp2_with (at_builtin; refine wpList_append_elem rfl _ _ 32 rfl w.heap.size Tryz.underlying32 info_hitE rfl (by decide) _ r _ rfl HO1.out _ _ rfl rfl (by simp [Value.oneCell']) (by simp only [maxLen]; have := Hle.out; omega) (by have := Hle.out; omega) HB1.out.size ?_; intro v' w9 hown9 hgr9 hat9; have HO9 := hide hown9; have HB9 := hide (below_own HB1.out HO1.out HB1.out.size hgr9); have HR9 := hide (HR1.out.keepBlocks fun b hb => hgr9.block b (Nat.lt_of_lt_of_le hb.2 HSz1.out) fun e => by rcases HOU.out b e.symm with h | h <;> have := hb.1 <;> have := hb.2 <;> omega); have HSz9 := hide (Nat.le_trans HSz1.out hgr9.size); have HOU9 := hide (show ∀ g, v'.ownBlock = some g → g < sb ∨ w3.heap.size ≤ g from fun g h => by rcases hat9 with e | e <;> rw [e] at h <;> first | exact HOU.out g h | (injection h with h; have := HSz1.out; right; omega)); clear hown9 hgr9 hat9)
          go_roundw
          case rel => exact ⟨r + 1, by omega, by go_num, hide (by rw [HSn.out, fcs_snoc]; exact HO9.out), HB9, HR9, HSz9, HOU9⟩
          case measure => simp [intOf]; omega
        · obtain rfl : r = ncl := by omega
          go_wp2
          go_ret
          refine ⟨_, rfl, ?_⟩
          have hO := HO.out
          rw [List.take_of_length_le (by have := HTl.out; omega)] at hO
          rw [HMh.out]
          exact flatH.new hO HB.out
end Go.Proofs.YtgiplahhalgbdaaGreat

/-
  The package exact: Search, Within, Place, and the reference's. Conditions: the slices read as a list of items, and as a vector; at most some hundred thousand items.
-/
namespace Go.Proofs.YtgiplahhalgbdaaGreat
open Go.RowKit

theorem near_step {most : Int} {h : List Hit} {i : Nat} {x : Hit} (hx : h[i]? = some x) (e : x.1 ≤ most) (hi : nearM most h = h.take i ++ nearM most (h.drop i)) : nearM most h = h.take (i + 1) ++ nearM most (h.drop (i + 1)) := by
  obtain ⟨h1, h2⟩ := List.getElem?_eq_some_iff.1 hx
  rw [hi, take_snoc hx, List.drop_eq_getElem_cons h1, h2]
  unfold nearM
  rw [List.takeWhile_cons_of_pos (by simpa using e), List.append_assoc]; rfl
theorem near_stop {most : Int} {h : List Hit} {i : Nat} {x : Hit} (hx : h[i]? = some x) (e : ¬ x.1 ≤ most) (hi : nearM most h = h.take i ++ nearM most (h.drop i)) : nearM most h = h.take i := by
  obtain ⟨h1, h2⟩ := List.getElem?_eq_some_iff.1 hx
  rw [hi, List.drop_eq_getElem_cons h1, h2]
  unfold nearM
  rw [List.takeWhile_cons_of_neg (by simpa using e), List.append_nil]
theorem near_end {most : Int} {h : List Hit} (hi : nearM most h = h.take h.length ++ nearM most (h.drop h.length)) : nearM most h = h := by
  rw [hi]; simp [nearM]
theorem filt_snoc {h : List Hit} {p : Hit → Bool} {i : Nat} {x : Hit} (hx : h[i]? = some x) : (h.take (i + 1)).filter p = (h.take i).filter p ++ if p x = true then [x] else [] := by
  rw [take_snoc hx, List.filter_append]
  by_cases e : p x = true
  · rw [if_pos e, List.filter_cons_of_pos e]; rfl
  · rw [if_neg e, List.filter_cons_of_neg e]; rfl
theorem place_snoc {h : List Hit} {g : Hit} {i : Nat} {x : Hit} (hx : h[i]? = some x) : placeM g (h.take (i + 1)) = placeM g (h.take i) + if hitLt x g = true then 1 else 0 := by
  unfold placeM
  rw [take_snoc hx, List.countP_append, List.countP_singleton]
set_option maxHeartbeats 2000000 in
theorem search_any (A B : Option Addr) (n c m d : Nat) (l : List ItemP) (q : List Int) (mask : Int) (k : Int) (w : World) (hx : Rd SItem w w.heap.size A l) (hn : l.length = n) (hxi : ItsI l) (hc : n ≤ c) (hm : c ≤ 9223372036854775807)
    (hy : Rd (Sh.int .i32) w w.heap.size B q) (hn' : q.length = m) (hyi : I32 q) (hd : m ≤ d) (hm' : d ≤ 9223372036854775807) (h6 : n ≤ 400000) :
    Calls Tryz.prog 7 #[.slice A n c, .slice B m d, .int .u64 mask, .int .i64 k] w fun e w' => ∃ v, e = .returned v ∧ NewL SH w ((hitsM q mask l).take (lstN k (hitsM q mask l).length)) v w' := by
  have H1 := hide (hits_any A B n c m d l q mask w hx hn hxi hc hm hy hn' hyi hd hm' h6)
  clear hx hy hn hn' hxi hyi
  go_enter Tryz.func7, Tryz.ntmps7
  go_wp2_with fail
  refine H1.out.mono ?_
  rintro e w1 ⟨v, rfl, hN⟩
  generalize hh : hitsM q mask l = h at *
  have HH := hide hh
  clear hh
  obtain ⟨A', n', c', rfl, q1, q2, q3, q4, q5⟩ := hN
  have Hl := hide q1
  have HN : ∀ m, m = lstN k n' → Hid (NewL SH w (h.take (lstN k n')) (.slice A' m c') w1) := fun m e => hide (by
    have := lstN_le k n'
    exact ⟨A', m, c', rfl, by rw [List.length_take, q1, e]; omega, by omega, q3, q4.take _, q5⟩)
  have HN' := hide HN
  clear q1 q4 q5 HN H1
  go_wp2
  all_goals go_ret
  all_goals rw [HH.out, Hl.out]
  all_goals exact ⟨_, rfl, (HN'.out _ (by unfold lstN; omega)).out⟩
end Go.Proofs.YtgiplahhalgbdaaGreat
