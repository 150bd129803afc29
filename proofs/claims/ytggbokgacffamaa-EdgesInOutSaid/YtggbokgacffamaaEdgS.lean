/-
  The package edges: the reference's farthest neighbour. Conditions: the slices read as lists of ints, of items, and as a vector; at most some hundred thousand ints.
-/
import Derived.Test.YtggbokgacffamaaEdgR
namespace Go.Proofs.Ytggbokgacffamaa
open Go.RowKit

section
variable {P : Program} {ops : Array Oper} {Q : Exit → Act → World → Prop} {md : Region.Mode} {S : World → Prop}
theorem wpAnyH_mergeT {T : Type} {fuel : Nat} {listed : Array Bool} {a : Act} {w : World} (fuel' : Nat) (listed' : Array Bool) (F : T → Act → Act) (G : T → World → Prop)
    (h1 : ∀ (p : T) (W : World), S W → G p W → wpAnyH P md ops Q S fuel' listed' (F p a) W)
    (h2 : (∀ (p : T) (W : World), S W → G p W → wpAnyH P md ops Q S fuel' listed' (F p a) W) → wpAnyH P md ops Q S fuel listed a w) : wpAnyH P md ops Q S fuel listed a w := h2 h1
end
/-- the farthest of the first j -/
def outK (q l : List Int) (its : List ItemP) (j : Nat) : Spt := (farK ((spotsF q l its).take j)).getD ((0, 0), 0)
theorem outK_all (q l : List Int) (its : List ItemP) : outK q l its l.length = farF q l its := by
  unfold outK farF
  rw [List.take_of_length_le (by rw [spotsF_len]; exact Nat.le_refl _)]
theorem spotsF_get {q l : List Int} {its : List ItemP} {j : Nat} (h : j < l.length) : (spotsF q l its)[j]? = some (spotAt q l its j) := by
  unfold spotsF; rw [List.getElem?_map, List.getElem?_range h]; rfl
theorem outK_one {q l : List Int} {its : List ItemP} (h : 0 < l.length) : outK q l its 1 = spotAt q l its 0 := by
  unfold outK
  rw [takeI_snoc (j := 0) (spotsF_get h), farK_snoc]
  rfl
theorem outK_snoc {q l : List Int} {its : List ItemP} {j : Nat} (h : j + 1 < l.length) : outK q l its (j + 2) = if sptLt (outK q l its (j + 1)) (spotAt q l its (j + 1)) = true then spotAt q l its (j + 1) else outK q l its (j + 1) := by
  unfold outK
  rw [show j + 2 = j + 1 + 1 from rfl, takeI_snoc (j := j + 1) (spotsF_get h), farK_snoc]
  rcases farK_most ((spotsF q l its).take (j + 1)) with ⟨h1, _⟩ | ⟨x, h1, _⟩
  · have := congrArg List.length h1
    rw [List.length_take, spotsF_len] at this
    simp only [List.length_nil] at this; omega
  · rw [h1]
    simp only [Option.getD_some]
    split <;> rfl
def spC (s : Spt) : Array Value := #[.int .u64 s.1.1, .int .u64 s.1.2, .int .i64 s.2]
set_option maxHeartbeats 8000000 in
set_option maxRecDepth 100000 in
theorem refFar_any (A B C : Option Addr) (n c m d p r : Nat) (l q : List Int) (its : List ItemP) (w : World) (hx : Rd (Sh.int .i64) w w.heap.size A l) (hn : l.length = n) (hc : n ≤ c) (hm : c ≤ 9223372036854775807)
    (hy : Rd (Sh.int .i32) w w.heap.size B q) (hn' : q.length = m) (hyi : I32 q) (hd : m ≤ d) (hm' : d ≤ 9223372036854775807)
    (hz : Rd SItem w w.heap.size C its) (hn2 : its.length = p) (hzi : ItsI its) (hd2 : p ≤ r) (hm2 : r ≤ 9223372036854775807) (h6 : n ≤ 400000) :
    Calls Try.prog 7 #[.slice B m d, .slice A n c, .slice C p r] w fun e w' => e = .returned (.tuple #[svF (farF q l its), .bool (decide (0 < n))]) ∧ Below w.heap.size w w' := by
  have HX := hide hx
  have HY := hide hy
  have HZ := hide hz
  have Hn := hide hn
  have Hm := hide hn'
  have Hp := hide hn2
  have HYI := hide hyi
  have HZI := hide hzi
  have HO0 := hide (show Blk ((w.alloc (.cells #[.int .u64 0, .int .u64 0, .int .i64 0] 30)).alloc (.cells #[.int .u64 0, .int .u64 0, .int .i64 0] 30)) (w.heap.size + 1) 30 (spC (outK q l its 0)) from heap_alloc2_new w _ _)
  have HR0 := hide (show Blk ((w.alloc (.cells #[.int .u64 0, .int .u64 0, .int .i64 0] 30)).alloc (.cells #[.int .u64 0, .int .u64 0, .int .i64 0] 30)) w.heap.size 30 #[.int .u64 0, .int .u64 0, .int .i64 0] from heap_alloc2_old w _ _)
  have HB0 := hide (below2 w (.cells #[.int .u64 0, .int .u64 0, .int .i64 0] 30) (.cells #[.int .u64 0, .int .u64 0, .int .i64 0] 30))
  clear hx hn hy hn' hz hn2 hyi hzi
  go_enter Try.func7, Try.ntmps7
  go_wp2
  go_loopw [9, 10, 11, 12, 15] (fun _ _ _ _ i wr => ∃ j : Nat, j ≤ n ∧ i = .int .i64 j ∧ Hid (Blk wr (w.heap.size + 1) 30 (spC (outK q l its j))) ∧ Hid (Blk wr w.heap.size 30 #[.int .u64 0, .int .u64 0, .int .i64 0]) ∧ Hid (Below w.heap.size w wr)) (fun _ _ _ _ i _ => n - (intOf i).toNat)
  case atStart => exact ⟨0, by omega, rfl, HO0, HR0, HB0⟩
  case round =>
    clear HO0 HR0 HB0
    obtain ⟨j, hj, rfl, HO, HR0, HB⟩ := hrel
    by_cases hlt : j < n
    · obtain ⟨ad0, y, rfl, _, hv, q0⟩ := RdR.icell (HX.out.below HB.out (Nat.le_refl _)) (k := j) (by have := Hn.out; omega)
      have g0 : (0 : Int) ≤ j := by omega
      have g1 : (j : Int) < n := by omega
      have HBl := hide HO.out.lt
      by_cases hit : j < p
      · obtain ⟨ad, ⟨id, vec, tags⟩, V, cv, rfl, had, hv2, i0, i1, i2, hcv, hcm, hR⟩ := RdR.itcell (HZ.out.below HB.out (Nat.le_refl _)) (k := j) (by have := Hp.out; omega)
        simp only at i0 i1 i2 hR hcv
        have g2 : (j : Int) < p := by omega
        have HVI := hide (HZI.out _ (List.mem_of_getElem? hv2))
        have HSp := hide (show spotAt q l its j = ((distOf q vec, id), y) by simp [spotAt, List.getD_eq_getElem?_getD, hv, hv2])
        generalize hvn : vec.length = nv at *
        have HVN := hide hvn
        have Hcv := hide (And.intro hcv hcm)
        have hbz := below1 wr (.cells #[.int .u64 0, .slice none 0 0, .int .u64 0] 44)
        have hab : ad.block < wr.heap.size := Nat.lt_of_lt_of_le had HB.out.size
        have i0' := (hbz.cell (p := ad.add (j * 3)) (by rw [block_of_add]; exact hab)).trans i0
        have i1' := (hbz.cell (p := ⟨(ad.add (j * 3)).block, (ad.add (j * 3)).off + 1, none⟩) (by show (ad.add (j * 3)).block < _; rw [block_of_add]; exact hab)).trans i1
        have i2' := (hbz.cell (p := ⟨(ad.add (j * 3)).block, (ad.add (j * 3)).off + 2, none⟩) (by show (ad.add (j * 3)).block < _; rw [block_of_add]; exact hab)).trans i2
        clear hv hvn hbz i0 i1 i2 had hv2 hcv hcm
        have HN := hide (Blk.new wr 44 #[.int .u64 id, .slice V nv cv, .int .u64 tags])
        have hbz := below1 wr (.cells #[.int .u64 id, .slice V nv cv, .int .u64 tags] 44)
        have HB1 := hide (HB.out.alloc HB.out.size (.cells #[.int .u64 id, .slice V nv cv, .int .u64 tags] 44))
        have HV := hide ((RdR.rd (B := w.heap.size) hR fun _ h => h).below hbz HB.out.size)
        have HO1 := hide (HO.out.below hbz HO.out.lt)
        have HR1 := hide (HR0.out.below hbz HR0.out.lt)
        clear hR hbz
        go_upto_region 8 with fail
        clear i0' i1' i2' hab
        generalize wr.alloc (.cells #[.int .u64 id, .slice V nv cv, .int .u64 tags] 44) = w2 at *
        generalize wr.heap.size = bx at *
        refine wp_region_held_drew (S := fun W => Blk W bx 44 #[.int .u64 id, .slice V nv cv, .int .u64 tags]) (by kernel_rfl) (HN.out.drew) (fun hHeld => ?_)
        have HBd := hide (show Below w.heap.size w w2.drew from HB1.out.drew)
        have HVd := hide (show Rd (Sh.int .i32) w2.drew w.heap.size V vec from HV.out)
        have HOd := hide (show Blk w2.drew (w.heap.size + 1) 30 (spC (outK q l its j)) from HO1.out)
        have HRd := hide (show Blk w2.drew w.heap.size 30 #[.int .u64 0, .int .u64 0, .int .i64 0] from HR1.out)
        clear HN HO1 HV HB1 HR1
        generalize w2.drew = w3 at *
        refine wpAnyH_take (i := 0) (v := .slice B m d) rfl (by kernel_rfl) (by kernel_rfl) (by kernel_rfl) (fun _ _ _ h => h) (Or.inl ⟨by rfl, fun W hS => by clear hS hHeld; go_simp⟩) hHeld ?_
        try simp only [Act.put, List.setIfInBounds_toArray, List.set_cons_zero, List.set_cons_succ, List.getElem_toArray, List.getElem_cons_zero, List.getElem_cons_succ]
        refine wpAnyH_take (i := 1) (v := .pointer (some ⟨bx, 1, none⟩)) rfl (by kernel_rfl) (by kernel_rfl) (by kernel_rfl) (fun _ _ _ h => h) (Or.inl ⟨by rfl, fun W hS => by clear hS hHeld; go_simp⟩) hHeld ?_
        try simp only [Act.put, List.setIfInBounds_toArray, List.set_cons_zero, List.set_cons_succ, List.getElem_toArray, List.getElem_cons_zero, List.getElem_cons_succ]
        refine wpAnyH_take (i := 2) (v := .slice V nv cv) rfl (by kernel_rfl) (by kernel_rfl) (by kernel_rfl) (fun _ _ _ h => h) (Or.inl ⟨by rfl, fun W hS => by have z0 : W.cell? ⟨bx, 0, none⟩ = some (.int .u64 id) := Blk.cell hS 0; have z1 : W.cell? ⟨bx, 1, none⟩ = some (.slice V nv cv) := Blk.cell hS 1; clear hS hHeld; go_simp⟩) hHeld ?_
        try simp only [Act.put, List.setIfInBounds_toArray, List.set_cons_zero, List.set_cons_succ, List.getElem_toArray, List.getElem_cons_zero, List.getElem_cons_succ]
        refine wpAnyH_take (i := 4) (v := .pointer (some ⟨bx, 0, none⟩)) rfl (by kernel_rfl) (by kernel_rfl) (by kernel_rfl) (fun _ _ _ h => h) (Or.inl ⟨by rfl, fun W hS => by clear hS hHeld; go_simp⟩) hHeld ?_
        try simp only [Act.put, List.setIfInBounds_toArray, List.set_cons_zero, List.set_cons_succ, List.getElem_toArray, List.getElem_cons_zero, List.getElem_cons_succ]
        refine wpAnyH_take (i := 5) (v := .int .u64 id) rfl (by kernel_rfl) (by kernel_rfl) (by kernel_rfl) (fun _ _ _ h => h) (Or.inl ⟨by rfl, fun W hS => by have z0 : W.cell? ⟨bx, 0, none⟩ = some (.int .u64 id) := Blk.cell hS 0; have z1 : W.cell? ⟨bx, 1, none⟩ = some (.slice V nv cv) := Blk.cell hS 1; clear hS hHeld; go_simp⟩) hHeld ?_
        try simp only [Act.put, List.setIfInBounds_toArray, List.set_cons_zero, List.set_cons_succ, List.getElem_toArray, List.getElem_cons_zero, List.getElem_cons_succ]
        refine wpAnyH_take (i := 7) (v := .int .i64 y) rfl (by kernel_rfl) (by kernel_rfl) (by kernel_rfl) (fun _ _ _ h => h) (Or.inl ⟨by rfl, fun W hS => by clear hS hHeld; go_simp⟩) hHeld ?_
        try simp only [Act.put, List.setIfInBounds_toArray, List.set_cons_zero, List.set_cons_succ, List.getElem_toArray, List.getElem_cons_zero, List.getElem_cons_succ]
        have HI3 := hide hHeld
        refine wpAnyH_mergeT (T := Unit) 1 #[true, true, true, true, true, true, true, true, true, true, false] (fun _ a => ⟨((((a.tmps.setIfInBounds 31 (.int .u64 (distOf q vec))).setIfInBounds 34 (.agg #[.int .u64 (distOf q vec), .int .u64 id])).setIfInBounds 36 (.agg #[.int .u64 (distOf q vec), .int .u64 id, .int .i64 y])).setIfInBounds 12 (.pointer (some ⟨w3.heap.size, 0, none⟩))), a.defers⟩) (fun _ W => W = w3.alloc (.cells #[.int .u64 0, .int .u64 0, .int .i64 0] 30)) (fun p W hHeld hG => ?_) (fun htail => ?_)
        · subst hG
          try simp only [Act.put, List.setIfInBounds_toArray, List.set_cons_zero, List.set_cons_succ, List.getElem_toArray, List.getElem_cons_zero, List.getElem_cons_succ]
          refine wpAnyH_ready (rs := [10]) (by kernel_rfl) (by simp) ?_
          refine AllReadyH.cons rfl (fun K hK => ?_) AllReadyH.nil
          have H9 := Blk.new w3 30 #[.int .u64 0, .int .u64 0, .int .i64 0]
          have k0 : (w3.alloc (.cells #[.int .u64 0, .int .u64 0, .int .i64 0] 30)).cell? ⟨w3.heap.size, 0, none⟩ = some (.int .u64 0) := H9.cell 0
          have k1 : (w3.alloc (.cells #[.int .u64 0, .int .u64 0, .int .i64 0] 30)).cell? ⟨w3.heap.size, 1, none⟩ = some (.int .u64 0) := H9.cell 1
          have k2 : (w3.alloc (.cells #[.int .u64 0, .int .u64 0, .int .i64 0] 30)).cell? ⟨w3.heap.size, 2, none⟩ = some (.int .i64 0) := H9.cell 2
          have f0 := H9.frozen 0
          have f1 := H9.frozen 1
          have f2 := H9.frozen 2
          try simp only [Act.put, List.setIfInBounds_toArray, List.set_cons_zero, List.set_cons_succ, List.getElem_toArray, List.getElem_cons_zero, List.getElem_cons_succ]
          go_simp
          clear k0 k1 k2 f0 f1 f2 H9
          refine hK.out _ _ (HI3.out.alloc _) (fun hHeld2 => ?_)
          clear hK K hHeld
          have hHeld := hHeld2
          clear hHeld2
          try simp only [Act.put, List.setIfInBounds_toArray, List.set_cons_zero, List.set_cons_succ, List.getElem_toArray, List.getElem_cons_zero, List.getElem_cons_succ]
          refine wpAnyH_done (by kernel_rfl) ?_ _
          have H12 := hide (Blk.new w3 30 #[.int .u64 (distOf q vec), .int .u64 id, .int .i64 y])
          have HO8 := hide (HOd.out.alloc (.cells #[.int .u64 (distOf q vec), .int .u64 id, .int .i64 y] 30))
          have HR6 := hide (HRd.out.alloc (.cells #[.int .u64 (distOf q vec), .int .u64 id, .int .i64 y] 30))
          have HB5 := hide (HBd.out.alloc HBd.out.size (.cells #[.int .u64 (distOf q vec), .int .u64 id, .int .i64 y] 30))
          have Hne := hide (show w.heap.size + 1 ≠ w3.heap.size from fun e => absurd HOd.out.lt (by rw [e]; exact Nat.lt_irrefl _))
          clear hHeld HI3 HBd HVd HOd HRd
          generalize w3.alloc (.cells #[.int .u64 (distOf q vec), .int .u64 id, .int .i64 y] 30) = w4 at *
          generalize w3.heap.size = b12 at *
          generalize distOf q vec = dq at *
          have k0 : w4.cell? ⟨b12, 0, none⟩ = some (.int .u64 dq) := H12.out.cell 0
          have k1 : w4.cell? ⟨b12, 1, none⟩ = some (.int .u64 id) := H12.out.cell 1
          have k2 : w4.cell? ⟨b12, 2, none⟩ = some (.int .i64 y) := H12.out.cell 2
          have z0 : w4.cell? ⟨w.heap.size + 1, 0, none⟩ = some (.int .u64 (outK q l its j).1.1) := HO8.out.cell 0
          have z1 : w4.cell? ⟨w.heap.size + 1, 1, none⟩ = some (.int .u64 (outK q l its j).1.2) := HO8.out.cell 1
          have z2 : w4.cell? ⟨w.heap.size + 1, 2, none⟩ = some (.int .i64 (outK q l its j).2) := HO8.out.cell 2
          have f0 := HO8.out.frozen 0
          have f1 := HO8.out.frozen 1
          have f2 := HO8.out.frozen 2
          rcases j with _ | j
          · have HSn := hide (outK_one (q := q) (its := its) (l := l) (by have := Hn.out; omega))
            rw [HSp.out] at HSn
            go_wp2
            go_roundw
            case rel => exact ⟨1, by omega, by go_num, hide (by rw [HSn.out]; exact (((HO8.out.set_ 0 _).set_ 1 _).set_ 2 _)), hide (((HR6.out.far (by simp) _).far (by simp) _).far (by simp) _), hide (((HB5.out.setCell (by simp) _).setCell (by simp) _).setCell (by simp) _)⟩
            case measure => simp [intOf]; omega
          · have HSn := hide (outK_snoc (q := q) (its := its) (l := l) (j := j) (by have := Hn.out; omega))
            rw [HSp.out] at HSn
            have HC := hide (refSpot_any (outK q l its (j + 1)) ((dq, id), y) w4)
            have hj0 : (((j + 1 : Nat) : Int) == 0) = false := by rw [beq_eq_false_iff_ne]; omega
            generalize outK q l its (j + 1) = s0 at *
            obtain ⟨⟨s1, s2⟩, s3⟩ := s0
            by_cases e : sptLt ((s1, s2), s3) ((dq, id), y) = true
            · rw [if_pos e] at HSn
              rw [e] at HC
              clear e
              go_wp2_with (go_at_call 25; refine HC.out.mono ?_; rintro e w5 ⟨rfl, hb⟩; have K12 := hide (H12.out.below hb H12.out.lt); have KO := hide (HO8.out.below hb HO8.out.lt); have KR := hide (HR6.out.below hb HR6.out.lt); have KB := hide (HB5.out.trans (hb.mono HB5.out.size)); have k0' : w5.cell? ⟨b12, 0, none⟩ = some (.int .u64 dq) := K12.out.cell 0; have k1' : w5.cell? ⟨b12, 1, none⟩ = some (.int .u64 id) := K12.out.cell 1; have k2' : w5.cell? ⟨b12, 2, none⟩ = some (.int .i64 y) := K12.out.cell 2; have z0' : w5.cell? ⟨w.heap.size + 1, 0, none⟩ = some (.int .u64 s1) := KO.out.cell 0; have z1' : w5.cell? ⟨w.heap.size + 1, 1, none⟩ = some (.int .u64 s2) := KO.out.cell 1; have z2' : w5.cell? ⟨w.heap.size + 1, 2, none⟩ = some (.int .i64 s3) := KO.out.cell 2; have f0' := KO.out.frozen 0; have f1' := KO.out.frozen 1; have f2' := KO.out.frozen 2; clear hb)
              go_roundw
              case rel => exact ⟨j + 2, by omega, by go_num, hide (by rw [HSn.out]; exact (((KO.out.set_ 0 _).set_ 1 _).set_ 2 _)), hide (((KR.out.far (by simp) _).far (by simp) _).far (by simp) _), hide (((KB.out.setCell (by simp) _).setCell (by simp) _).setCell (by simp) _)⟩
              case measure => simp [intOf]; omega
            · rw [if_neg e] at HSn
              have e' : sptLt ((s1, s2), s3) ((dq, id), y) = false := by simpa using e
              rw [e'] at HC
              clear e e'
              go_wp2_with (go_at_call 25; refine HC.out.mono ?_; rintro e w5 ⟨rfl, hb⟩; have KO := hide (HO8.out.below hb HO8.out.lt); have KR := hide (HR6.out.below hb HR6.out.lt); have KB := hide (HB5.out.trans (hb.mono HB5.out.size)); clear hb)
              go_roundw
              case rel => exact ⟨j + 2, by omega, by go_num, hide (by rw [HSn.out]; exact KO.out), KR, KB⟩
              case measure => simp [intOf]; omega
        refine wpAnyH_ready (rs := [3, 9]) (by kernel_rfl) (by simp) ?_
        refine AllReadyH.cons rfl (fun K hK => ?_) ?_
        · try simp only [Act.put, List.setIfInBounds_toArray, List.set_cons_zero, List.set_cons_succ, List.getElem_toArray, List.getElem_cons_zero, List.getElem_cons_succ]
          go_simp
          go_at_call 24
          refine (refDist_any B V m d nv cv q vec w3 (HY.out.below HBd.out (Nat.le_refl _) |> fun h => RdR.rd h fun b hb => Nat.lt_of_lt_of_le hb (HBd.out).size) Hm.out HYI.out hd hm' (RdR.rd HVd.out fun b hb => Nat.lt_of_lt_of_le hb (HBd.out).size) HVN.out HVI.out Hcv.out.1 Hcv.out.2).mono ?_
          rintro e wq ⟨rfl, rfl⟩
          refine hK.out _ _ hHeld (fun hHeld2 => ?_)
          clear hK K hHeld
          have hHeld := hHeld2
          clear hHeld2
          try simp only [Act.put, List.setIfInBounds_toArray, List.set_cons_zero, List.set_cons_succ, List.getElem_toArray, List.getElem_cons_zero, List.getElem_cons_succ]
          refine wpAnyH_take (i := 6) (v := .agg #[.int .u64 (distOf q vec), .int .u64 id]) rfl (by kernel_rfl) (by kernel_rfl) (by kernel_rfl) (fun _ _ _ h => h) (Or.inl ⟨by rfl, fun W hS => by clear hS hHeld; go_simp⟩) hHeld ?_
          try simp only [Act.put, List.setIfInBounds_toArray, List.set_cons_zero, List.set_cons_succ, List.getElem_toArray, List.getElem_cons_zero, List.getElem_cons_succ]
          refine wpAnyH_take (i := 8) (v := .agg #[.int .u64 (distOf q vec), .int .u64 id, .int .i64 y]) rfl (by kernel_rfl) (by kernel_rfl) (by kernel_rfl) (fun _ _ _ h => h) (Or.inl ⟨by rfl, fun W hS => by clear hS hHeld; go_simp⟩) hHeld ?_
          try simp only [Act.put, List.setIfInBounds_toArray, List.set_cons_zero, List.set_cons_succ, List.getElem_toArray, List.getElem_cons_zero, List.getElem_cons_succ]
          refine wpAnyH_ready (rs := [9]) (by kernel_rfl) (by simp) ?_
          refine AllReadyH.cons rfl (fun K hK => ?_) AllReadyH.nil
          try simp only [Act.put, List.setIfInBounds_toArray, List.set_cons_zero, List.set_cons_succ, List.getElem_toArray, List.getElem_cons_zero, List.getElem_cons_succ]
          go_simp
          refine hK.out _ _ (Blk.alloc hHeld _) (fun hHeld2 => ?_)
          clear hK K hHeld
          have hHeld := hHeld2
          clear hHeld2
          try simp only [Act.put, List.setIfInBounds_toArray, List.set_cons_zero, List.set_cons_succ, List.getElem_toArray, List.getElem_cons_zero, List.getElem_cons_succ]
          exact htail () _ hHeld rfl
        refine AllReadyH.cons rfl (fun K hK => ?_) AllReadyH.nil
        try simp only [Act.put, List.setIfInBounds_toArray, List.set_cons_zero, List.set_cons_succ, List.getElem_toArray, List.getElem_cons_zero, List.getElem_cons_succ]
        go_simp
        refine hK.out _ _ (Blk.alloc hHeld _) (fun hHeld2 => ?_)
        clear hK K hHeld
        have hHeld := hHeld2
        clear hHeld2
        try simp only [Act.put, List.setIfInBounds_toArray, List.set_cons_zero, List.set_cons_succ, List.getElem_toArray, List.getElem_cons_zero, List.getElem_cons_succ]
        refine wpAnyH_ready (rs := [3]) (by kernel_rfl) (by simp) ?_
        refine AllReadyH.cons rfl (fun K hK => ?_) AllReadyH.nil
        try simp only [Act.put, List.setIfInBounds_toArray, List.set_cons_zero, List.set_cons_succ, List.getElem_toArray, List.getElem_cons_zero, List.getElem_cons_succ]
        go_simp
        go_at_call 24
        refine (refDist_any B V m d nv cv q vec (w3.alloc (.cells #[.int .u64 0, .int .u64 0, .int .i64 0] 30)) (HY.out.below (HBd.out.alloc HBd.out.size (.cells #[.int .u64 0, .int .u64 0, .int .i64 0] 30)) (Nat.le_refl _) |> fun h => RdR.rd h fun b hb => Nat.lt_of_lt_of_le hb ((HBd.out.alloc HBd.out.size (.cells #[.int .u64 0, .int .u64 0, .int .i64 0] 30))).size) Hm.out HYI.out hd hm' (RdR.rd (HVd.out.below (below1 w3 _) HBd.out.size) fun b hb => Nat.lt_of_lt_of_le hb ((HBd.out.alloc HBd.out.size (.cells #[.int .u64 0, .int .u64 0, .int .i64 0] 30))).size) HVN.out HVI.out Hcv.out.1 Hcv.out.2).mono ?_
        rintro e wq ⟨rfl, rfl⟩
        refine hK.out _ _ hHeld (fun hHeld2 => ?_)
        clear hK K hHeld
        have hHeld := hHeld2
        clear hHeld2
        try simp only [Act.put, List.setIfInBounds_toArray, List.set_cons_zero, List.set_cons_succ, List.getElem_toArray, List.getElem_cons_zero, List.getElem_cons_succ]
        refine wpAnyH_take (i := 6) (v := .agg #[.int .u64 (distOf q vec), .int .u64 id]) rfl (by kernel_rfl) (by kernel_rfl) (by kernel_rfl) (fun _ _ _ h => h) (Or.inl ⟨by rfl, fun W hS => by clear hS hHeld; go_simp⟩) hHeld ?_
        try simp only [Act.put, List.setIfInBounds_toArray, List.set_cons_zero, List.set_cons_succ, List.getElem_toArray, List.getElem_cons_zero, List.getElem_cons_succ]
        refine wpAnyH_take (i := 8) (v := .agg #[.int .u64 (distOf q vec), .int .u64 id, .int .i64 y]) rfl (by kernel_rfl) (by kernel_rfl) (by kernel_rfl) (fun _ _ _ h => h) (Or.inl ⟨by rfl, fun W hS => by clear hS hHeld; go_simp⟩) hHeld ?_
        try simp only [Act.put, List.setIfInBounds_toArray, List.set_cons_zero, List.set_cons_succ, List.getElem_toArray, List.getElem_cons_zero, List.getElem_cons_succ]
        exact htail () _ hHeld rfl

      · have HVI := hide (show I32 [] from fun x hx => by simp at hx)
        have HSp := hide (show spotAt q l its j = ((distOf q [], 0), y) by simp [spotAt, List.getD_eq_getElem?_getD, hv, List.getElem?_eq_none (show its.length ≤ j by have := Hp.out; omega)])
        have HVN := hide (rfl : ([] : List Int).length = 0)
        have Hcv := hide (show 0 ≤ 0 ∧ (0 : Nat) ≤ 9223372036854775807 from ⟨Nat.le_refl _, by omega⟩)
        have hR : RdR (Sh.int .i32) wr (fun b => b < w.heap.size) none [] := RdR.nil
        clear hv
        have HN := hide (Blk.new wr 44 #[.int .u64 0, .slice none 0 0, .int .u64 0])
        have hbz := below1 wr (.cells #[.int .u64 0, .slice none 0 0, .int .u64 0] 44)
        have HB1 := hide (HB.out.alloc HB.out.size (.cells #[.int .u64 0, .slice none 0 0, .int .u64 0] 44))
        have HV := hide ((RdR.rd (B := w.heap.size) hR fun _ h => h).below hbz HB.out.size)
        have HO1 := hide (HO.out.below hbz HO.out.lt)
        have HR1 := hide (HR0.out.below hbz HR0.out.lt)
        clear hR hbz
        go_upto_region 8 with fail
        generalize wr.alloc (.cells #[.int .u64 0, .slice none 0 0, .int .u64 0] 44) = w2 at *
        generalize wr.heap.size = bx at *
        refine wp_region_held_drew (S := fun W => Blk W bx 44 #[.int .u64 0, .slice none 0 0, .int .u64 0]) (by kernel_rfl) (HN.out.drew) (fun hHeld => ?_)
        have HBd := hide (show Below w.heap.size w w2.drew from HB1.out.drew)
        have HVd := hide (show Rd (Sh.int .i32) w2.drew w.heap.size none [] from HV.out)
        have HOd := hide (show Blk w2.drew (w.heap.size + 1) 30 (spC (outK q l its j)) from HO1.out)
        have HRd := hide (show Blk w2.drew w.heap.size 30 #[.int .u64 0, .int .u64 0, .int .i64 0] from HR1.out)
        clear HN HO1 HV HB1 HR1
        generalize w2.drew = w3 at *
        refine wpAnyH_take (i := 0) (v := .slice B m d) rfl (by kernel_rfl) (by kernel_rfl) (by kernel_rfl) (fun _ _ _ h => h) (Or.inl ⟨by rfl, fun W hS => by clear hS hHeld; go_simp⟩) hHeld ?_
        try simp only [Act.put, List.setIfInBounds_toArray, List.set_cons_zero, List.set_cons_succ, List.getElem_toArray, List.getElem_cons_zero, List.getElem_cons_succ]
        refine wpAnyH_take (i := 1) (v := .pointer (some ⟨bx, 1, none⟩)) rfl (by kernel_rfl) (by kernel_rfl) (by kernel_rfl) (fun _ _ _ h => h) (Or.inl ⟨by rfl, fun W hS => by clear hS hHeld; go_simp⟩) hHeld ?_
        try simp only [Act.put, List.setIfInBounds_toArray, List.set_cons_zero, List.set_cons_succ, List.getElem_toArray, List.getElem_cons_zero, List.getElem_cons_succ]
        refine wpAnyH_take (i := 2) (v := .slice none 0 0) rfl (by kernel_rfl) (by kernel_rfl) (by kernel_rfl) (fun _ _ _ h => h) (Or.inl ⟨by rfl, fun W hS => by have z0 : W.cell? ⟨bx, 0, none⟩ = some (.int .u64 0) := Blk.cell hS 0; have z1 : W.cell? ⟨bx, 1, none⟩ = some (.slice none 0 0) := Blk.cell hS 1; clear hS hHeld; go_simp⟩) hHeld ?_
        try simp only [Act.put, List.setIfInBounds_toArray, List.set_cons_zero, List.set_cons_succ, List.getElem_toArray, List.getElem_cons_zero, List.getElem_cons_succ]
        refine wpAnyH_take (i := 4) (v := .pointer (some ⟨bx, 0, none⟩)) rfl (by kernel_rfl) (by kernel_rfl) (by kernel_rfl) (fun _ _ _ h => h) (Or.inl ⟨by rfl, fun W hS => by clear hS hHeld; go_simp⟩) hHeld ?_
        try simp only [Act.put, List.setIfInBounds_toArray, List.set_cons_zero, List.set_cons_succ, List.getElem_toArray, List.getElem_cons_zero, List.getElem_cons_succ]
        refine wpAnyH_take (i := 5) (v := .int .u64 0) rfl (by kernel_rfl) (by kernel_rfl) (by kernel_rfl) (fun _ _ _ h => h) (Or.inl ⟨by rfl, fun W hS => by have z0 : W.cell? ⟨bx, 0, none⟩ = some (.int .u64 0) := Blk.cell hS 0; have z1 : W.cell? ⟨bx, 1, none⟩ = some (.slice none 0 0) := Blk.cell hS 1; clear hS hHeld; go_simp⟩) hHeld ?_
        try simp only [Act.put, List.setIfInBounds_toArray, List.set_cons_zero, List.set_cons_succ, List.getElem_toArray, List.getElem_cons_zero, List.getElem_cons_succ]
        refine wpAnyH_take (i := 7) (v := .int .i64 y) rfl (by kernel_rfl) (by kernel_rfl) (by kernel_rfl) (fun _ _ _ h => h) (Or.inl ⟨by rfl, fun W hS => by clear hS hHeld; go_simp⟩) hHeld ?_
        try simp only [Act.put, List.setIfInBounds_toArray, List.set_cons_zero, List.set_cons_succ, List.getElem_toArray, List.getElem_cons_zero, List.getElem_cons_succ]
        have HI3 := hide hHeld
        refine wpAnyH_mergeT (T := Unit) 1 #[true, true, true, true, true, true, true, true, true, true, false] (fun _ a => ⟨((((a.tmps.setIfInBounds 31 (.int .u64 (distOf q []))).setIfInBounds 34 (.agg #[.int .u64 (distOf q []), .int .u64 0])).setIfInBounds 36 (.agg #[.int .u64 (distOf q []), .int .u64 0, .int .i64 y])).setIfInBounds 12 (.pointer (some ⟨w3.heap.size, 0, none⟩))), a.defers⟩) (fun _ W => W = w3.alloc (.cells #[.int .u64 0, .int .u64 0, .int .i64 0] 30)) (fun p W hHeld hG => ?_) (fun htail => ?_)
        · subst hG
          try simp only [Act.put, List.setIfInBounds_toArray, List.set_cons_zero, List.set_cons_succ, List.getElem_toArray, List.getElem_cons_zero, List.getElem_cons_succ]
          refine wpAnyH_ready (rs := [10]) (by kernel_rfl) (by simp) ?_
          refine AllReadyH.cons rfl (fun K hK => ?_) AllReadyH.nil
          have H9 := Blk.new w3 30 #[.int .u64 0, .int .u64 0, .int .i64 0]
          have k0 : (w3.alloc (.cells #[.int .u64 0, .int .u64 0, .int .i64 0] 30)).cell? ⟨w3.heap.size, 0, none⟩ = some (.int .u64 0) := H9.cell 0
          have k1 : (w3.alloc (.cells #[.int .u64 0, .int .u64 0, .int .i64 0] 30)).cell? ⟨w3.heap.size, 1, none⟩ = some (.int .u64 0) := H9.cell 1
          have k2 : (w3.alloc (.cells #[.int .u64 0, .int .u64 0, .int .i64 0] 30)).cell? ⟨w3.heap.size, 2, none⟩ = some (.int .i64 0) := H9.cell 2
          have f0 := H9.frozen 0
          have f1 := H9.frozen 1
          have f2 := H9.frozen 2
          try simp only [Act.put, List.setIfInBounds_toArray, List.set_cons_zero, List.set_cons_succ, List.getElem_toArray, List.getElem_cons_zero, List.getElem_cons_succ]
          go_simp
          clear k0 k1 k2 f0 f1 f2 H9
          refine hK.out _ _ (HI3.out.alloc _) (fun hHeld2 => ?_)
          clear hK K hHeld
          have hHeld := hHeld2
          clear hHeld2
          try simp only [Act.put, List.setIfInBounds_toArray, List.set_cons_zero, List.set_cons_succ, List.getElem_toArray, List.getElem_cons_zero, List.getElem_cons_succ]
          refine wpAnyH_done (by kernel_rfl) ?_ _
          have H12 := hide (Blk.new w3 30 #[.int .u64 (distOf q []), .int .u64 0, .int .i64 y])
          have HO8 := hide (HOd.out.alloc (.cells #[.int .u64 (distOf q []), .int .u64 0, .int .i64 y] 30))
          have HR6 := hide (HRd.out.alloc (.cells #[.int .u64 (distOf q []), .int .u64 0, .int .i64 y] 30))
          have HB5 := hide (HBd.out.alloc HBd.out.size (.cells #[.int .u64 (distOf q []), .int .u64 0, .int .i64 y] 30))
          have Hne := hide (show w.heap.size + 1 ≠ w3.heap.size from fun e => absurd HOd.out.lt (by rw [e]; exact Nat.lt_irrefl _))
          clear hHeld HI3 HBd HVd HOd HRd
          generalize w3.alloc (.cells #[.int .u64 (distOf q []), .int .u64 0, .int .i64 y] 30) = w4 at *
          generalize w3.heap.size = b12 at *
          generalize distOf q [] = dq at *
          have k0 : w4.cell? ⟨b12, 0, none⟩ = some (.int .u64 dq) := H12.out.cell 0
          have k1 : w4.cell? ⟨b12, 1, none⟩ = some (.int .u64 0) := H12.out.cell 1
          have k2 : w4.cell? ⟨b12, 2, none⟩ = some (.int .i64 y) := H12.out.cell 2
          have z0 : w4.cell? ⟨w.heap.size + 1, 0, none⟩ = some (.int .u64 (outK q l its j).1.1) := HO8.out.cell 0
          have z1 : w4.cell? ⟨w.heap.size + 1, 1, none⟩ = some (.int .u64 (outK q l its j).1.2) := HO8.out.cell 1
          have z2 : w4.cell? ⟨w.heap.size + 1, 2, none⟩ = some (.int .i64 (outK q l its j).2) := HO8.out.cell 2
          have f0 := HO8.out.frozen 0
          have f1 := HO8.out.frozen 1
          have f2 := HO8.out.frozen 2
          rcases j with _ | j
          · have HSn := hide (outK_one (q := q) (its := its) (l := l) (by have := Hn.out; omega))
            rw [HSp.out] at HSn
            go_wp2
            go_roundw
            case rel => exact ⟨1, by omega, by go_num, hide (by rw [HSn.out]; exact (((HO8.out.set_ 0 _).set_ 1 _).set_ 2 _)), hide (((HR6.out.far (by simp) _).far (by simp) _).far (by simp) _), hide (((HB5.out.setCell (by simp) _).setCell (by simp) _).setCell (by simp) _)⟩
            case measure => simp [intOf]; omega
          · have HSn := hide (outK_snoc (q := q) (its := its) (l := l) (j := j) (by have := Hn.out; omega))
            rw [HSp.out] at HSn
            have HC := hide (refSpot_any (outK q l its (j + 1)) ((dq, 0), y) w4)
            have hj0 : (((j + 1 : Nat) : Int) == 0) = false := by rw [beq_eq_false_iff_ne]; omega
            generalize outK q l its (j + 1) = s0 at *
            obtain ⟨⟨s1, s2⟩, s3⟩ := s0
            by_cases e : sptLt ((s1, s2), s3) ((dq, 0), y) = true
            · rw [if_pos e] at HSn
              rw [e] at HC
              clear e
              go_wp2_with (go_at_call 25; refine HC.out.mono ?_; rintro e w5 ⟨rfl, hb⟩; have K12 := hide (H12.out.below hb H12.out.lt); have KO := hide (HO8.out.below hb HO8.out.lt); have KR := hide (HR6.out.below hb HR6.out.lt); have KB := hide (HB5.out.trans (hb.mono HB5.out.size)); have k0' : w5.cell? ⟨b12, 0, none⟩ = some (.int .u64 dq) := K12.out.cell 0; have k1' : w5.cell? ⟨b12, 1, none⟩ = some (.int .u64 0) := K12.out.cell 1; have k2' : w5.cell? ⟨b12, 2, none⟩ = some (.int .i64 y) := K12.out.cell 2; have z0' : w5.cell? ⟨w.heap.size + 1, 0, none⟩ = some (.int .u64 s1) := KO.out.cell 0; have z1' : w5.cell? ⟨w.heap.size + 1, 1, none⟩ = some (.int .u64 s2) := KO.out.cell 1; have z2' : w5.cell? ⟨w.heap.size + 1, 2, none⟩ = some (.int .i64 s3) := KO.out.cell 2; have f0' := KO.out.frozen 0; have f1' := KO.out.frozen 1; have f2' := KO.out.frozen 2; clear hb)
              go_roundw
              case rel => exact ⟨j + 2, by omega, by go_num, hide (by rw [HSn.out]; exact (((KO.out.set_ 0 _).set_ 1 _).set_ 2 _)), hide (((KR.out.far (by simp) _).far (by simp) _).far (by simp) _), hide (((KB.out.setCell (by simp) _).setCell (by simp) _).setCell (by simp) _)⟩
              case measure => simp [intOf]; omega
            · rw [if_neg e] at HSn
              have e' : sptLt ((s1, s2), s3) ((dq, 0), y) = false := by simpa using e
              rw [e'] at HC
              clear e e'
              go_wp2_with (go_at_call 25; refine HC.out.mono ?_; rintro e w5 ⟨rfl, hb⟩; have KO := hide (HO8.out.below hb HO8.out.lt); have KR := hide (HR6.out.below hb HR6.out.lt); have KB := hide (HB5.out.trans (hb.mono HB5.out.size)); clear hb)
              go_roundw
              case rel => exact ⟨j + 2, by omega, by go_num, hide (by rw [HSn.out]; exact KO.out), KR, KB⟩
              case measure => simp [intOf]; omega
        refine wpAnyH_ready (rs := [3, 9]) (by kernel_rfl) (by simp) ?_
        refine AllReadyH.cons rfl (fun K hK => ?_) ?_
        · try simp only [Act.put, List.setIfInBounds_toArray, List.set_cons_zero, List.set_cons_succ, List.getElem_toArray, List.getElem_cons_zero, List.getElem_cons_succ]
          go_simp
          go_at_call 24
          refine (refDist_any B none m d 0 0 q [] w3 (HY.out.below HBd.out (Nat.le_refl _) |> fun h => RdR.rd h fun b hb => Nat.lt_of_lt_of_le hb (HBd.out).size) Hm.out HYI.out hd hm' (RdR.rd HVd.out fun b hb => Nat.lt_of_lt_of_le hb (HBd.out).size) HVN.out HVI.out Hcv.out.1 Hcv.out.2).mono ?_
          rintro e wq ⟨rfl, rfl⟩
          refine hK.out _ _ hHeld (fun hHeld2 => ?_)
          clear hK K hHeld
          have hHeld := hHeld2
          clear hHeld2
          try simp only [Act.put, List.setIfInBounds_toArray, List.set_cons_zero, List.set_cons_succ, List.getElem_toArray, List.getElem_cons_zero, List.getElem_cons_succ]
          refine wpAnyH_take (i := 6) (v := .agg #[.int .u64 (distOf q []), .int .u64 0]) rfl (by kernel_rfl) (by kernel_rfl) (by kernel_rfl) (fun _ _ _ h => h) (Or.inl ⟨by rfl, fun W hS => by clear hS hHeld; go_simp⟩) hHeld ?_
          try simp only [Act.put, List.setIfInBounds_toArray, List.set_cons_zero, List.set_cons_succ, List.getElem_toArray, List.getElem_cons_zero, List.getElem_cons_succ]
          refine wpAnyH_take (i := 8) (v := .agg #[.int .u64 (distOf q []), .int .u64 0, .int .i64 y]) rfl (by kernel_rfl) (by kernel_rfl) (by kernel_rfl) (fun _ _ _ h => h) (Or.inl ⟨by rfl, fun W hS => by clear hS hHeld; go_simp⟩) hHeld ?_
          try simp only [Act.put, List.setIfInBounds_toArray, List.set_cons_zero, List.set_cons_succ, List.getElem_toArray, List.getElem_cons_zero, List.getElem_cons_succ]
          refine wpAnyH_ready (rs := [9]) (by kernel_rfl) (by simp) ?_
          refine AllReadyH.cons rfl (fun K hK => ?_) AllReadyH.nil
          try simp only [Act.put, List.setIfInBounds_toArray, List.set_cons_zero, List.set_cons_succ, List.getElem_toArray, List.getElem_cons_zero, List.getElem_cons_succ]
          go_simp
          refine hK.out _ _ (Blk.alloc hHeld _) (fun hHeld2 => ?_)
          clear hK K hHeld
          have hHeld := hHeld2
          clear hHeld2
          try simp only [Act.put, List.setIfInBounds_toArray, List.set_cons_zero, List.set_cons_succ, List.getElem_toArray, List.getElem_cons_zero, List.getElem_cons_succ]
          exact htail () _ hHeld rfl
        refine AllReadyH.cons rfl (fun K hK => ?_) AllReadyH.nil
        try simp only [Act.put, List.setIfInBounds_toArray, List.set_cons_zero, List.set_cons_succ, List.getElem_toArray, List.getElem_cons_zero, List.getElem_cons_succ]
        go_simp
        refine hK.out _ _ (Blk.alloc hHeld _) (fun hHeld2 => ?_)
        clear hK K hHeld
        have hHeld := hHeld2
        clear hHeld2
        try simp only [Act.put, List.setIfInBounds_toArray, List.set_cons_zero, List.set_cons_succ, List.getElem_toArray, List.getElem_cons_zero, List.getElem_cons_succ]
        refine wpAnyH_ready (rs := [3]) (by kernel_rfl) (by simp) ?_
        refine AllReadyH.cons rfl (fun K hK => ?_) AllReadyH.nil
        try simp only [Act.put, List.setIfInBounds_toArray, List.set_cons_zero, List.set_cons_succ, List.getElem_toArray, List.getElem_cons_zero, List.getElem_cons_succ]
        go_simp
        go_at_call 24
        refine (refDist_any B none m d 0 0 q [] (w3.alloc (.cells #[.int .u64 0, .int .u64 0, .int .i64 0] 30)) (HY.out.below (HBd.out.alloc HBd.out.size (.cells #[.int .u64 0, .int .u64 0, .int .i64 0] 30)) (Nat.le_refl _) |> fun h => RdR.rd h fun b hb => Nat.lt_of_lt_of_le hb ((HBd.out.alloc HBd.out.size (.cells #[.int .u64 0, .int .u64 0, .int .i64 0] 30))).size) Hm.out HYI.out hd hm' (RdR.rd (HVd.out.below (below1 w3 _) HBd.out.size) fun b hb => Nat.lt_of_lt_of_le hb ((HBd.out.alloc HBd.out.size (.cells #[.int .u64 0, .int .u64 0, .int .i64 0] 30))).size) HVN.out HVI.out Hcv.out.1 Hcv.out.2).mono ?_
        rintro e wq ⟨rfl, rfl⟩
        refine hK.out _ _ hHeld (fun hHeld2 => ?_)
        clear hK K hHeld
        have hHeld := hHeld2
        clear hHeld2
        try simp only [Act.put, List.setIfInBounds_toArray, List.set_cons_zero, List.set_cons_succ, List.getElem_toArray, List.getElem_cons_zero, List.getElem_cons_succ]
        refine wpAnyH_take (i := 6) (v := .agg #[.int .u64 (distOf q []), .int .u64 0]) rfl (by kernel_rfl) (by kernel_rfl) (by kernel_rfl) (fun _ _ _ h => h) (Or.inl ⟨by rfl, fun W hS => by clear hS hHeld; go_simp⟩) hHeld ?_
        try simp only [Act.put, List.setIfInBounds_toArray, List.set_cons_zero, List.set_cons_succ, List.getElem_toArray, List.getElem_cons_zero, List.getElem_cons_succ]
        refine wpAnyH_take (i := 8) (v := .agg #[.int .u64 (distOf q []), .int .u64 0, .int .i64 y]) rfl (by kernel_rfl) (by kernel_rfl) (by kernel_rfl) (fun _ _ _ h => h) (Or.inl ⟨by rfl, fun W hS => by clear hS hHeld; go_simp⟩) hHeld ?_
        try simp only [Act.put, List.setIfInBounds_toArray, List.set_cons_zero, List.set_cons_succ, List.getElem_toArray, List.getElem_cons_zero, List.getElem_cons_succ]
        exact htail () _ hHeld rfl

    · obtain rfl : j = n := by omega
      have z0 : wr.cell? ⟨w.heap.size + 1, 0, none⟩ = some (.int .u64 (outK q l its j).1.1) := HO.out.cell 0
      have z1 : wr.cell? ⟨w.heap.size + 1, 1, none⟩ = some (.int .u64 (outK q l its j).1.2) := HO.out.cell 1
      have z2 : wr.cell? ⟨w.heap.size + 1, 2, none⟩ = some (.int .i64 (outK q l its j).2) := HO.out.cell 2
      have y0 : wr.cell? ⟨w.heap.size, 0, none⟩ = some (.int .u64 0) := HR0.out.cell 0
      have y1 : wr.cell? ⟨w.heap.size, 1, none⟩ = some (.int .u64 0) := HR0.out.cell 1
      have y2 : wr.cell? ⟨w.heap.size, 2, none⟩ = some (.int .i64 0) := HR0.out.cell 2
      have f0 := HR0.out.frozen 0
      have f1 := HR0.out.frozen 1
      have f2 := HR0.out.frozen 2
      have HF := hide (show outK q l its j = farF q l its by rw [← outK_all, Hn.out])
      generalize outK q l its j = s0 at *
      obtain ⟨⟨s1, s2⟩, s3⟩ := s0
      simp only at z0 z1 z2
      by_cases h0 : 0 < j
      · have g2 : (0 : Int) < j := by omega
        have hdt : decide (0 < j) = true := decide_eq_true h0
        go_wp2
        refine bodyPost_ret (spot_cell rfl _ _ w.heap.size s1 s2 s3 rfl (((HR0.out.set_ 0 _).set_ 1 _).set_ 2 _)) rfl ?_
        exact ⟨by rw [← HF.out, hdt]; rfl, ((HB.out.setCell (Nat.le_refl _) _).setCell (Nat.le_refl _) _).setCell (Nat.le_refl _) _⟩
      · have hdt : decide (0 < j) = false := decide_eq_false h0
        obtain rfl : j = 0 := by omega
        go_wp2
        refine bodyPost_ret (spot_cell rfl _ _ w.heap.size s1 s2 s3 rfl (((HR0.out.set_ 0 _).set_ 1 _).set_ 2 _)) rfl ?_
        exact ⟨by rw [← HF.out, hdt]; rfl, ((HB.out.setCell (Nat.le_refl _) _).setCell (Nat.le_refl _) _).setCell (Nat.le_refl _) _⟩
end Go.Proofs.Ytggbokgacffamaa
