/-
  The package rank: the reference's Merge. Conditions: the slices read as lists of hits; at most some hundred thousand hits.
-/
import Derived.Test.YtohccblecgmdbaaRnkN
import Derived.Test.YtohccblecgmdbaaRnkG
namespace Go.Proofs.Ytohccblecgmdbaa
open Go.RowKit

/-- hits as spots of slot 0 -/
def sp0 (l : List Hit) : List Spt := l.map fun x => (x, 0)
theorem sp0_append (l m : List Hit) : sp0 (l ++ m) = sp0 l ++ sp0 m := List.map_append
theorem sp0_snoc {l : List Hit} {j : Nat} {x : Hit} (h : l[j]? = some x) : sp0 (l.take (j + 1)) = sp0 (l.take j) ++ [(x, 0)] := by
  rw [take_snoc h, sp0_append]; rfl
theorem sp0_lt (x y : Hit) : sptLt (x, 0) (y, 0) = hitLt x y := by
  rw [Bool.eq_iff_iff, sptLt_iff, hitLt_iff]; simp
theorem srt_sp0 (l : List Hit) : srtS (sp0 l) = sp0 (srtH l) := by
  refine (srt_eq swoS totS ?_ ?_).symm
  · exact srt_perm.map _
  · unfold sp0
    rw [List.pairwise_map]
    exact (srt_pw swoH l).imp fun h => by rw [sp0_lt]; exact h
/-- what is made of the sorted ones -/
def ddS (l : List Spt) : List Hit := dd (l.map Prod.fst)
theorem ddS_sp0 (l : List Hit) : ddS (sp0 l) = dd l := by
  unfold ddS sp0; rw [List.map_map]
  have : (Prod.fst ∘ fun x : Hit => ((x, 0) : Spt)) = id := rfl
  rw [this, List.map_id]
theorem ddS_snoc {l : List Spt} {i : Nat} {x : Spt} (h : l[i]? = some x) : ddS (l.take (i + 1)) = if (ddS (l.take i)).getLast? = some x.1 then ddS (l.take i) else ddS (l.take i) ++ [x.1] := by
  unfold ddS; rw [take_snoc h, List.map_append]; exact dd_snoc _ _
theorem ddS_le (l : List Spt) (i : Nat) : (ddS (l.take i)).length ≤ i := by
  have := dd_len ((l.take i).map Prod.fst)
  rw [List.length_map, List.length_take] at this
  unfold ddS; omega
theorem info_spot3 : (Try.prog.info? 36).map (fun i => (i.zero, i.size, i.bytes)) = some (some (.agg #[.int .u64 0, .int .u64 0, .int .i64 0]), 3, 24) := info_spot
set_option maxHeartbeats 4000000 in
theorem refMerge_any (A B : Option Addr) (n c m d : Nat) (l k : List Hit) (w : World) (hx : Rd SH w w.heap.size A l) (hn : l.length = n) (hc : n ≤ c) (hm : c ≤ 9223372036854775807)
    (hy : Rd SH w w.heap.size B k) (hn' : k.length = m) (hd : m ≤ d) (hm' : d ≤ 9223372036854775807) (h6 : n ≤ 400000) (h7 : m ≤ 400000) :
    Calls Try.prog 14 #[.slice A n c, .slice B m d] w fun e w' => ∃ v, e = .returned v ∧ NewL SH w (dd (srtH (l ++ k))) v w' := by
  have HX := hide hx
  have HY := hide hy
  have Hn := hide hn
  have Hm := hide hn'
  clear hx hy hn hn'
  go_enter Try.func14, Try.ntmps14
  go_upto_region 3 with fail
  go_loopw [5, 7, 16] (fun v _ i wr => ∃ j : Nat, j ≤ n ∧ i = .int .i64 j ∧ Hid (wr.ownsRow w.heap.size 36 3 v j (fcs encS (sp0 (l.take j)))) ∧ Hid (Below w.heap.size w wr)) (fun _ _ i _ => n - (intOf i).toNat)
  case atStart => exact ⟨0, by omega, rfl, hide ⟨rfl, .inl ⟨rfl, rfl⟩⟩, hide (Below.refl _ _)⟩
  case round =>
    obtain ⟨j, hj, rfl, HO, HB⟩ := hrel
    by_cases hlt : j < n
    · obtain ⟨ad, ⟨x1, x2⟩, rfl, _, hv, q0, q1⟩ := (HX.out.below HB.out (Nat.le_refl _)).hcell (k := j) (by have := Hn.out; omega)
      simp only at q0 q1
      have g0 : (0 : Int) ≤ j := by omega
      have g1 : (j : Int) < n := by omega
      have HB1 := hide (HB.out.trans ((below1 wr (.cells #[.int .u64 x1, .int .u64 x2] 34)).mono HB.out.size))
      have HN := hide (Blk.new wr 34 #[.int .u64 x1, .int .u64 x2])
      have HO1 := hide (own_keep (w' := wr.alloc (.cells #[.int .u64 x1, .int .u64 x2] 34)) HO.out fun g hg => (below1 wr _).block g (HO.out.lt g hg).2)
      have HSn := hide (sp0_snoc hv)
      clear hv
      go_upto_region 5 with fail
      generalize wr.alloc (.cells #[.int .u64 x1, .int .u64 x2] 34) = w2 at *
      have z0 : w2.cell? ⟨wr.heap.size, 0, none⟩ = some (.int .u64 x1) := HN.out.cell 0
      have z1 : w2.cell? ⟨wr.heap.size, 1, none⟩ = some (.int .u64 x2) := HN.out.cell 1
      generalize wr.heap.size = bx at *
      go_wp2_with (at_builtin; refine wpList_append_elem rfl _ _ 22 rfl w.heap.size Try.underlying22 info_spot rfl (by decide) _ j _ rfl HO1.out _ _ rfl rfl (by simp [Value.oneCell']) (by simp only [maxLen]; omega) (by omega) HB1.out.size ?_; intro v' w9 hown9 hgr9 _; have HO9 := hide hown9; have HB9 := hide (below_own HB1.out HO1.out HB1.out.size hgr9); clear hown9 hgr9)
      go_roundw
      case rel => exact ⟨j + 1, by omega, by go_num, hide (by rw [HSn.out, fcs_snoc]; exact HO9.out), HB9⟩
      case measure => simp [intOf]; omega
    · obtain rfl : j = n := by omega
      have HO' := hide (show wr.ownsRow w.heap.size 36 3 _ (j + 0) (fcs encS (sp0 l ++ sp0 (k.take 0))) by have h := HO.out; rw [List.take_of_length_le (by have := Hn.out; omega)] at h; simpa [sp0] using h)
      clear HO
      go_upto_region 8 with fail
      go_loopw [5, 9, 28] (fun v _ i wr => ∃ q : Nat, q ≤ m ∧ i = .int .i64 q ∧ Hid (wr.ownsRow w.heap.size 36 3 v (j + q) (fcs encS (sp0 l ++ sp0 (k.take q)))) ∧ Hid (Below w.heap.size w wr)) (fun _ _ i _ => m - (intOf i).toNat)
      case atStart => exact ⟨0, by omega, rfl, HO', HB⟩
      case round =>
        clear HO' HB
        obtain ⟨q, hq, rfl, HO, HB⟩ := hrel
        by_cases hlt : q < m
        · obtain ⟨ad, ⟨x1, x2⟩, rfl, _, hv, q0, q1⟩ := (HY.out.below HB.out (Nat.le_refl _)).hcell (k := q) (by have := Hm.out; omega)
          simp only at q0 q1
          have g0 : (0 : Int) ≤ q := by omega
          have g1 : (q : Int) < m := by omega
          have HB1 := hide (HB.out.trans ((below1 wr (.cells #[.int .u64 x1, .int .u64 x2] 34)).mono HB.out.size))
          have HN := hide (Blk.new wr 34 #[.int .u64 x1, .int .u64 x2])
          have HO1 := hide (own_keep (w' := wr.alloc (.cells #[.int .u64 x1, .int .u64 x2] 34)) HO.out fun g hg => (below1 wr _).block g (HO.out.lt g hg).2)
          have HSn := hide (sp0_snoc hv)
          clear hv
          go_upto_region 10 with fail
          generalize wr.alloc (.cells #[.int .u64 x1, .int .u64 x2] 34) = w2 at *
          have z0 : w2.cell? ⟨wr.heap.size, 0, none⟩ = some (.int .u64 x1) := HN.out.cell 0
          have z1 : w2.cell? ⟨wr.heap.size, 1, none⟩ = some (.int .u64 x2) := HN.out.cell 1
          generalize wr.heap.size = bx at *
          go_wp2_with (at_builtin; refine wpList_append_elem rfl _ _ 22 rfl w.heap.size Try.underlying22 info_spot rfl (by decide) _ (j + q) _ rfl HO1.out _ _ rfl rfl (by simp [Value.oneCell']) (by simp only [maxLen]; omega) (by omega) HB1.out.size ?_; intro v' w9 hown9 hgr9 _; have HO9 := hide hown9; have HB9 := hide (below_own HB1.out HO1.out HB1.out.size hgr9); clear hown9 hgr9)
          go_roundw
          case rel => exact ⟨q + 1, by omega, by go_num, hide (by rw [HSn.out, ← List.append_assoc, fcs_snoc]; exact HO9.out), HB9⟩
          case measure => simp [intOf]; omega
        · obtain rfl : q = m := by omega
          have HO2 := hide (show World.ownsRow _ w.heap.size 36 3 _ (j + q) (fcs encS (sp0 (l ++ k))) by have h := HO.out; rw [List.take_of_length_le (by have := Hm.out; omega), ← sp0_append] at h; exact h)
          clear HO
          obtain ⟨A2, c2, hv2, hc2, hm2⟩ := own_form HO2.out
          subst hv2
          have HC := hide (refSort_any A2 (j + q) c2 (sp0 (l ++ k)) wr ((flatS.own HO2.out).rd fun b hb => hb.2) (by unfold sp0; rw [List.length_map, List.length_append, Hn.out, Hm.out]) hc2 hm2 (by omega))
          clear HO2
          go_wp2_with fail
          refine HC.out.mono ?_
          rintro e w3 ⟨v3, rfl, ho3, hb3⟩
          obtain ⟨A3, c3, rfl, hc3, hm3⟩ := own_form ho3
          have HR3 := hide (flatS.own ho3)
          have HB3 := hide (HB.out.trans (hb3.mono HB.out.size))
          have HL3 := hide (show (srtS (sp0 (l ++ k))).length = j + q by rw [srtS_len]; unfold sp0; rw [List.length_map, List.length_append, Hn.out, Hm.out])
          rw [srt_sp0] at *
          have HE3 := hide (ddS_sp0 (srtH (l ++ k)))
          generalize sp0 (srtH (l ++ k)) = s at *
          clear ho3 hb3 HC
          go_upto_region 14 with fail
          clear HX HY
          go_loopw [10, 12, 13, 41] (fun v _ _ i wr => ∃ r : Nat, r ≤ j + q ∧ i = .int .i64 r ∧ Hid (wr.ownsRow w3.heap.size 34 2 v (ddS (s.take r)).length (fcs encH (ddS (s.take r)))) ∧ Hid (Below w3.heap.size w3 wr)) (fun _ _ _ i _ => j + q - (intOf i).toNat)
          case atStart => exact ⟨0, by omega, rfl, hide ⟨rfl, .inl ⟨rfl, rfl⟩⟩, hide (Below.refl _ _)⟩
          case round =>
            obtain ⟨r, hr, rfl, HO, HB⟩ := hrel
            by_cases hlt : r < j + q
            · obtain ⟨ad, ⟨⟨x1, x2⟩, x3⟩, rfl, hb0, hv, q0, q1, q2⟩ := RdR.scell (RdR.below HR3.out HB.out (fun b hb => hb.2)) (k := r) (by have := HL3.out; omega)
              simp only at q0 q1 q2
              have g0 : (0 : Int) ≤ r := by omega
              have g1 : (r : Int) < (j + q : Nat) := by omega
              have HB1 := hide (HB.out.trans ((below1 wr (.cells #[.int .u64 x1, .int .u64 x2, .int .i64 x3] 36)).mono HB.out.size))
              have HN := hide (Blk.new wr 36 #[.int .u64 x1, .int .u64 x2, .int .i64 x3])
              have HO1 := hide (own_keep (w' := wr.alloc (.cells #[.int .u64 x1, .int .u64 x2, .int .i64 x3] 36)) HO.out fun g hg => (below1 wr _).block g (HO.out.lt g hg).2)
              have HSn := hide (ddS_snoc hv)
              have Hle := hide (ddS_le s r)
              clear hv
              go_upto_region 16 with fail
              generalize wr.alloc (.cells #[.int .u64 x1, .int .u64 x2, .int .i64 x3] 36) = w4 at *
              have z0 : w4.cell? ⟨wr.heap.size, 0, none⟩ = some (.int .u64 x1) := HN.out.cell 0
              have z1 : w4.cell? ⟨wr.heap.size, 1, none⟩ = some (.int .u64 x2) := HN.out.cell 1
              generalize wr.heap.size = bx at *
              generalize hoo : ddS (s.take r) = o at *
              clear hoo
              rcases List.eq_nil_or_concat o with rfl | ⟨o', ⟨u1, u2⟩, ho'⟩
              · obtain ⟨A4, c4, hv4, _, _⟩ := own_form HO1.out
                subst hv4
                rw [if_neg (by simp)] at HSn
                go_upto_region 17 with fail
                go_quiet (fail)
                have HO6 := hide (own_keep (w' := w4.drewN nq) HO1.out fun g hg => (below_drewN (Below.refl w4.heap.size w4) nq).block g (HO1.out.lt g hg).2)
                have HB6 := hide (below_drewN HB1.out nq)
                go_wp2_with (at_builtin; refine wpList_append_elem rfl _ _ 23 rfl w3.heap.size Try.underlying23 info_hitR rfl (by decide) _ 0 _ rfl HO6.out _ _ rfl rfl (by simp [Value.oneCell']) (by simp only [maxLen]; omega) (by omega) HB6.out.size ?_; intro v' w9 hown9 hgr9 _; have HO9 := hide hown9; have HB9 := hide (below_own HB6.out HO6.out HB6.out.size hgr9); clear hown9 hgr9)
                go_roundw
                case rel => exact ⟨r + 1, by omega, by go_num, hide (by rw [HSn.out]; exact HO9.out), HB9⟩
                case measure => simp [intOf]; omega
              · rw [List.concat_eq_append] at ho'
                subst ho'
                obtain ⟨g4, c4, hv4, _, _⟩ := HO1.out.form (by simp)
                subst hv4
                have HR4 := hide (show RowH w4 w3.heap.size g4 (o' ++ [(u1, u2)]).length c4 (o' ++ [(u1, u2)]) from HO1.out)
                have hlen : (o' ++ [((u1, u2) : Hit)]).length = o'.length + 1 := by simp
                have hle2 : o'.length + 1 ≤ r := by have := Hle.out; rwa [hlen] at this
                rw [hlen] at HO1 HR4
                try rw [hlen]
                have y0 : w4.cell? ⟨g4, o'.length * 2, none⟩ = some (.int .u64 u1) := (HR4.out.cells (i := o'.length) (x := (u1, u2)) (by simp)).1
                have y1 : w4.cell? ⟨g4, o'.length * 2 + 1, none⟩ = some (.int .u64 u2) := (HR4.out.cells (i := o'.length) (x := (u1, u2)) (by simp)).2
                clear HO HR4
                generalize hml : o'.length = ml at *
                have hlen' := hlen
                clear hml hlen
                have p0 : (0 : Int) ≤ ml := by omega
                have p1 : (ml : Int) < (ml + 1 : Nat) := by omega
                have p2 : ((ml : Int) + 1 == 0) = false := by rw [beq_eq_false_iff_ne]; omega
                have pw : IntKind.i64.wrap (ml : Int) = ml := by simp [IntKind.wrap, IntKind.bits, IntKind.signed]; omega
                by_cases e : ((u1, u2) : Hit) = (x1, x2)
                · have he := run_neq_hit u1 u2 x1 x2 (hit_same e)
                  rw [if_pos (by simpa using e)] at HSn
                  clear e
                  go_upto_region 17 with fail
                  go_quiet (fail)
                  go_wp2
                  go_roundw
                  case rel => exact ⟨r + 1, by omega, by go_num, hide (by rw [HSn.out, hlen']; exact own_keep HO1.out fun g hg => (below_drewN (Below.refl w4.heap.size w4) _).block g (HO1.out.lt g hg).2), hide (below_drewN HB1.out _)⟩
                  case measure => simp [intOf]; omega
                · have he := run_neq_hit u1 u2 x1 x2 (hit_other e)
                  rw [if_neg (by simpa using e)] at HSn
                  clear e
                  go_upto_region 17 with fail
                  go_quiet (fail)
                  have HO6 := hide (own_keep (w' := w4.drewN nq) HO1.out fun g hg => (below_drewN (Below.refl w4.heap.size w4) nq).block g (HO1.out.lt g hg).2)
                  have HB6 := hide (below_drewN HB1.out nq)
                  go_wp2_with (at_builtin; refine wpList_append_elem rfl _ _ 23 rfl w3.heap.size Try.underlying23 info_hitR rfl (by decide) _ (ml + 1) _ rfl HO6.out _ _ rfl rfl (by simp [Value.oneCell']) (by simp only [maxLen]; omega) (by omega) HB6.out.size ?_; intro v' w9 hown9 hgr9 _; have HO9 := hide hown9; have HB9 := hide (below_own HB6.out HO6.out HB6.out.size hgr9); clear hown9 hgr9)
                  go_roundw
                  case rel => exact ⟨r + 1, by omega, by go_num, hide (by rw [HSn.out, fcs_snoc, List.length_append, hlen']; exact HO9.out), HB9⟩
                  case measure => simp [intOf]; omega
            · obtain rfl : r = j + q := by omega
              have HF := hide (show ddS (s.take (j + q)) = dd (srtH (l ++ k)) by rw [List.take_of_length_le (by have := HL3.out; omega)]; exact HE3.out)
              go_wp2
              go_ret
              refine ⟨_, rfl, ?_⟩
              rw [HF.out] at HO
              obtain ⟨A9, n9, c9, e1, e2, e3, e4, e5, e6⟩ := flatH.new HO.out HB.out
              exact ⟨A9, n9, c9, e1, e2, e3, e4, RdR.more e5 fun b hb => ⟨Nat.le_trans HB3.out.size hb.1, hb.2⟩, HB3.out.trans (e6.mono HB3.out.size)⟩
end Go.Proofs.Ytohccblecgmdbaa
