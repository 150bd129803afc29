/-
  The law ExactMore. Conditions: the slices read as a list of items, and as a vector.
-/
import Derived.Test.YtclpmpikeadnpaaExaG
import Derived.Deep.RegionHeld3
namespace Go.Proofs.Ytclpmpikeadnpaa
open Go.RowKit

theorem info_item : (Try.prog.info? 36).map (fun i => (i.zero, i.size, i.bytes)) = some (some (.agg #[.int .u64 0, .slice none 0 0, .int .u64 0]), 3, 40) := by kernel_rfl
set_option maxHeartbeats 16000000 in
set_option maxRecDepth 100000 in
theorem more_any (A B : Option Addr) (n c m d : Nat) (l : List ItemP) (q : List Int) (mask a b : Int) (w : World) (hx : Rd SItem w w.heap.size A l) (hn : l.length = n) (hxi : ItsI l) (hc : n ≤ c) (hm : c ≤ 9223372036854775807)
    (hy : Rd (Sh.int .i32) w w.heap.size B q) (hn' : q.length = m) (hyi : I32 q) (hd : m ≤ d) (hm' : d ≤ 9223372036854775807) (hk : 0 ≤ mask ∧ mask ≤ 18446744073709551615) :
    Calls Try.prog 4 #[.slice A n c, .slice B m d, .int .u64 mask, .int .i64 a, .int .i64 b] w fun e w' => e = .returned (.bool true) ∧ Below w.heap.size w w' := by
  have HX := hide hx
  have HY := hide hy
  have Hn := hide hn
  have Hm := hide hn'
  have HXI := hide hxi
  have HYI := hide hyi
  clear hx hy hn hn' hxi hyi
  go_enter Try.func4, Try.ntmps4
  go_upto_region 3 with (go_at_call 6; refine (lives_any _).mono ?_; rintro e w1 ⟨rfl, hb⟩; have HW1 := hide hb; replace HX := hide (HX.out.step hb); replace HY := hide (HY.out.step hb); clear hb)
  have HF := hide (few_any A n c l w1 HX.out Hn.out hc hm)
  by_cases hfew : fewE l = true
  case neg =>
    have hf2 : fewE l = false := by simpa using hfew
    rw [hf2] at HF
    clear hfew hf2
    go_wp2_with (go_at_call 5; refine HF.out.mono ?_; rintro e w2 ⟨rfl, hb⟩; have HW2 := hide (Below.step HW1.out hb); clear hb)
    go_ret
    exact ⟨rfl, HW2.out⟩
  rw [hfew] at HF
  have HS := hide (fewE_spec hfew)
  clear hfew
  have hn100 : n ≤ 100 := by have := HS.out.1; have := Hn.out; omega
  go_upto_region 5 with (go_at_call 5; refine HF.out.mono ?_; rintro e w2 ⟨rfl, hb⟩; have HW := hide (Below.step HW1.out hb); replace HX := hide (HX.out.step hb); replace HY := hide (HY.out.step hb); clear hb)
  have HPW := hide (hits_pw q mask l)
  have HMEM := hide (fun g (h : g ∈ hitsM q mask l) => hit_mem (q := q) hk h)
  have HREV := hide (hits_rev q mask l)
  have HNL := hide (hitsM_le q mask l)
  clear HF HS HW1
  go_wp2_with fail
  refine (search_any A B n c m d l q mask (min a b) w2 HX.out Hn.out HXI.out hc hm HY.out Hm.out HYI.out hd hm' (by omega)).mono ?_
  rintro e w3 ⟨v, rfl, hN⟩
  obtain ⟨Ax, nx, cx, rfl, hlx, hcx, hmx, hrx, hb⟩ := hN
  have HRx := hide (hrx.rd (B := w3.heap.size) fun b hb => hb.2)
  replace HX := hide (HX.out.step hb)
  replace HY := hide (HY.out.step hb)
  replace HW := hide (Below.step HW.out hb)
  clear hrx hb
  go_wp2_with fail
  refine (search_any A B n c m d l q mask (max a b) w3 HX.out Hn.out HXI.out hc hm HY.out Hm.out HYI.out hd hm' (by omega)).mono ?_
  rintro e w4 ⟨v, rfl, hN⟩
  obtain ⟨Ay, ny, cy, rfl, hly, hcy, hmy, hry, hb⟩ := hN
  have HRy := hide (hry.rd (B := w4.heap.size) fun b hb => hb.2)
  replace HRx := hide (HRx.out.step hb)
  replace HX := hide (HX.out.step hb)
  replace HY := hide (HY.out.step hb)
  replace HW := hide (Below.step HW.out hb)
  clear hry hb
  generalize hh : hitsM q mask l = h at *
  have HH := hide hh
  have ex : lstN (min a b) h.length = nx := by rw [List.length_take] at hlx; have := lstN_le (min a b) h.length; omega
  have ey : lstN (max a b) h.length = ny := by rw [List.length_take] at hly; have := lstN_le (max a b) h.length; omega
  have hxy : nx ≤ ny := by rw [← ex, ← ey]; exact lst_min_max a b _
  have hyh : ny ≤ h.length := by rw [← ey]; exact lstN_le _ _
  have hmn : ¬ (max 0 (min a b) < (nx : Int)) := by rw [← ex]; exact lst_min a b _
  rw [ex] at HRx hlx
  rw [ey] at HRy hly
  have hny : ny ≤ 100 := by have := HNL.out; have := Hn.out; omega
  have Hlx := hide hlx
  have Hly := hide hly
  have HEY := hide ey
  have Hyh := hide hyh
  have HSM := hide (show decide (h.take nx = (h.take ny).take nx) = true by rw [List.take_take, Nat.min_eq_left hxy]; exact decide_eq_true rfl)
  clear hh ex ey hlx hly hyh
  have b1 : decide ((ny : Int) < nx) = false := decide_eq_false (by omega)
  have b0 : decide (ny < nx) = false := decide_eq_false (by omega)
  have b00 : ¬ ny < nx := by omega
  have b2 : decide (max 0 (min a b) < (nx : Int)) = false := decide_eq_false hmn
  have b3 : (nx : Int) ≤ cy := by omega
  have hnxcy : nx ≤ cy := by omega
  go_upto_region 9 with (go_at_call 7; refine (sameHits_any Ax Ay nx cx nx cy (h.take nx) ((h.take ny).take nx) w4 HRx.out Hlx.out hcx hmx (HRy.out.take nx) (by rw [List.length_take, Hly.out]; omega) (by omega) hmy).mono ?_; rintro e w5 ⟨rfl, hd⟩; rw [HSM.out]; have hb := hd.below; clear hd; replace HRy := hide (HRy.out.step hb); replace HX := hide (HX.out.step hb); replace HY := hide (HY.out.step hb); replace HW := hide (Below.step HW.out hb); clear hb)
  clear HRx HSM b1 b2 b3 b0 b00 hmn Hlx
  go_loopw [13, 14, 15, 17, 65] (fun _ _ _ _ i wr => ∃ j : Nat, j ≤ ny ∧ i = .int .i64 j ∧ Hid (Below w5.heap.size w5 wr)) (fun _ _ _ _ i _ => ny - (intOf i).toNat)
  case atStart => exact ⟨0, by omega, rfl, hide (Below.refl _ _)⟩
  case round =>
    obtain ⟨j, hj, rfl, HB⟩ := hrel
    by_cases hlt : j < ny
    · obtain ⟨ad, ⟨g1, g2⟩, rfl, hadw, hv, q0, q1⟩ := (HRy.out.below HB.out (Nat.le_refl _)).hcell (k := j) (by have := Hly.out; omega)
      simp only at q0 q1
      have e0 : (0 : Int) ≤ j := by omega
      have e1 : (j : Int) < ny := by omega
      have HG := hide (show h[j]? = some (g1, g2) by rw [List.getElem?_take, if_pos hlt] at hv; exact hv)
      have HN := hide (Blk.new wr 26 #[.int .u64 g1, .int .u64 g2])
      have HBs := hide (Below.step HB.out (below1 wr (.cells #[.int .u64 g1, .int .u64 g2] 26)))
      have HIN := hide (HMEM.out (g1, g2) (List.mem_of_getElem? HG.out))
      clear hv
      go_upto_region 13 with fail
      clear q0 q1
      generalize wr.alloc (.cells #[.int .u64 g1, .int .u64 g2] 26) = w6 at *
      generalize wr.heap.size = bx at *
      go_loopw [15, 17, 72] (fun is _ i wr => ∃ t : Nat, t ≤ n ∧ i = .int .i64 t ∧ is = .bool ((l.take t).any (okI q mask (g1, g2))) ∧ Hid (Below w6.heap.size w6 wr)) (fun _ _ i _ => n - (intOf i).toNat)
      case atStart => exact ⟨0, by omega, rfl, by simp, hide (Below.refl _ _)⟩
      case round =>
        obtain ⟨t, ht, rfl, rfl, HBi⟩ := hrel
        have HSt := hide (Below.step HBs.out HBi.out)
        by_cases htl : t < n
        · obtain ⟨ad2, ⟨id, vec, tags⟩, V, cv, e2, _, hv2, r0, r1, r2, hcv, hcm, hR⟩ := RdR.itcell (HX.out.below HSt.out (Nat.le_refl _)) (k := t) (by have := Hn.out; omega)
          subst e2
          simp only at r0 r1 r2 hR hcv
          have HSn := hide (any_snoc (p := okI q mask (g1, g2)) hv2)
          have HVI := hide (HXI.out _ (List.mem_of_getElem? hv2))
          have t0 : (0 : Int) ≤ t := by omega
          have t1 : (t : Int) < n := by omega
          generalize hvn : vec.length = nv at *
          have HVN := hide hvn
          have HNw := hide ((HN.out.below HBi.out HN.out.lt).alloc (.cells #[.int .u64 id, .slice V nv cv, .int .u64 tags] 36))
          have HNn := hide (Blk.new wr 36 #[.int .u64 id, .slice V nv cv, .int .u64 tags])
          have HBn := hide (Below.step HBi.out (below1 wr (.cells #[.int .u64 id, .slice V nv cv, .int .u64 tags] 36)))
          have HVr := hide ((RdR.rd (B := w5.heap.size) hR fun _ h => h).below (below1 wr (.cells #[.int .u64 id, .slice V nv cv, .int .u64 tags] 36)) HSt.out.size)
          clear hv2 hR hvn
          go_upto_region 15 with fail
          clear r0 r1 r2
          generalize wr.alloc (.cells #[.int .u64 id, .slice V nv cv, .int .u64 tags] 36) = w7 at *
          generalize wr.heap.size = by_ at *
          cases hdec : (l.take t).any (okI q mask (g1, g2)) with
          | true =>
            rw [hdec] at HSn
            refine wp_region_held_drew (S := fun W => W = w7.drew) (by kernel_rfl) rfl (fun hHeld => ?_)
            have HNw' := hide (show Blk w7.drew bx 26 #[.int .u64 g1, .int .u64 g2] from HNw.out)
            have HNn' := hide (show Blk w7.drew by_ 36 #[.int .u64 id, .slice V nv cv, .int .u64 tags] from HNn.out)
            have HBn' := hide (show Below w6.heap.size w6 w7.drew from HBn.out.drew)
            have HVr' := hide (show Rd (Sh.int .i32) w7.drew w5.heap.size V vec from HVr.out)
            have HY' := hide (show Rd (Sh.int .i32) w7.drew w7.drew.heap.size B q from HY.out.step (Below.step HBs.out HBn.out).drew)
            have HSz := hide (show w5.heap.size ≤ w7.drew.heap.size from (Below.step HBs.out HBn.out).drew.size)
            clear HNw HNn HBn HVr
            generalize w7.drew = W0 at *
            refine wpAnyH_take (i := 0) (v := .bool true) rfl (by kernel_rfl) (by kernel_rfl) (by kernel_rfl) (fun _ _ _ h => h) (Or.inl ⟨by rfl, fun W hS => by clear hS hHeld; go_simp⟩) hHeld ?_
            try simp only [Act.put, List.setIfInBounds_toArray, List.set_cons_zero, List.set_cons_succ, List.getElem_toArray, List.getElem_cons_zero, List.getElem_cons_succ]
            refine wpAnyH_take (i := 1) (v := .bool true) rfl (by kernel_rfl) (by kernel_rfl) (by kernel_rfl) (fun _ _ _ h => h) (Or.inl ⟨by rfl, fun W hS => by clear hS hHeld; go_simp⟩) hHeld ?_
            try simp only [Act.put, List.setIfInBounds_toArray, List.set_cons_zero, List.set_cons_succ, List.getElem_toArray, List.getElem_cons_zero, List.getElem_cons_succ]
            refine wpAnyH_take (i := 2) (v := undef) rfl (by kernel_rfl) (by kernel_rfl) (by kernel_rfl) (fun _ _ _ h => h) (Or.inr ⟨by rfl, rfl⟩) hHeld ?_
            try simp only [Act.put, List.setIfInBounds_toArray, List.set_cons_zero, List.set_cons_succ, List.getElem_toArray, List.getElem_cons_zero, List.getElem_cons_succ]
            refine wpAnyH_take (i := 3) (v := undef) rfl (by kernel_rfl) (by kernel_rfl) (by kernel_rfl) (fun _ _ _ h => h) (Or.inr ⟨by rfl, rfl⟩) hHeld ?_
            try simp only [Act.put, List.setIfInBounds_toArray, List.set_cons_zero, List.set_cons_succ, List.getElem_toArray, List.getElem_cons_zero, List.getElem_cons_succ]
            refine wpAnyH_take (i := 4) (v := undef) rfl (by kernel_rfl) (by kernel_rfl) (by kernel_rfl) (fun _ _ _ h => h) (Or.inr ⟨by rfl, rfl⟩) hHeld ?_
            try simp only [Act.put, List.setIfInBounds_toArray, List.set_cons_zero, List.set_cons_succ, List.getElem_toArray, List.getElem_cons_zero, List.getElem_cons_succ]
            refine wpAnyH_take (i := 5) (v := undef) rfl (by kernel_rfl) (by kernel_rfl) (by kernel_rfl) (fun _ _ _ h => h) (Or.inr ⟨by rfl, rfl⟩) hHeld ?_
            try simp only [Act.put, List.setIfInBounds_toArray, List.set_cons_zero, List.set_cons_succ, List.getElem_toArray, List.getElem_cons_zero, List.getElem_cons_succ]
            refine wpAnyH_take (i := 6) (v := undef) rfl (by kernel_rfl) (by kernel_rfl) (by kernel_rfl) (fun _ _ _ h => h) (Or.inr ⟨by rfl, rfl⟩) hHeld ?_
            try simp only [Act.put, List.setIfInBounds_toArray, List.set_cons_zero, List.set_cons_succ, List.getElem_toArray, List.getElem_cons_zero, List.getElem_cons_succ]
            refine wpAnyH_take (i := 7) (v := undef) rfl (by kernel_rfl) (by kernel_rfl) (by kernel_rfl) (fun _ _ _ h => h) (Or.inr ⟨by rfl, rfl⟩) hHeld ?_
            try simp only [Act.put, List.setIfInBounds_toArray, List.set_cons_zero, List.set_cons_succ, List.getElem_toArray, List.getElem_cons_zero, List.getElem_cons_succ]
            refine wpAnyH_take (i := 8) (v := undef) rfl (by kernel_rfl) (by kernel_rfl) (by kernel_rfl) (fun _ _ _ h => h) (Or.inr ⟨by rfl, rfl⟩) hHeld ?_
            try simp only [Act.put, List.setIfInBounds_toArray, List.set_cons_zero, List.set_cons_succ, List.getElem_toArray, List.getElem_cons_zero, List.getElem_cons_succ]
            refine wpAnyH_take (i := 9) (v := undef) rfl (by kernel_rfl) (by kernel_rfl) (by kernel_rfl) (fun _ _ _ h => h) (Or.inr ⟨by rfl, rfl⟩) hHeld ?_
            try simp only [Act.put, List.setIfInBounds_toArray, List.set_cons_zero, List.set_cons_succ, List.getElem_toArray, List.getElem_cons_zero, List.getElem_cons_succ]
            refine wpAnyH_take (i := 10) (v := undef) rfl (by kernel_rfl) (by kernel_rfl) (by kernel_rfl) (fun _ _ _ h => h) (Or.inr ⟨by rfl, rfl⟩) hHeld ?_
            try simp only [Act.put, List.setIfInBounds_toArray, List.set_cons_zero, List.set_cons_succ, List.getElem_toArray, List.getElem_cons_zero, List.getElem_cons_succ]
            refine wpAnyH_take (i := 11) (v := undef) rfl (by kernel_rfl) (by kernel_rfl) (by kernel_rfl) (fun _ _ _ h => h) (Or.inr ⟨by rfl, rfl⟩) hHeld ?_
            try simp only [Act.put, List.setIfInBounds_toArray, List.set_cons_zero, List.set_cons_succ, List.getElem_toArray, List.getElem_cons_zero, List.getElem_cons_succ]
            refine wpAnyH_take (i := 12) (v := undef) rfl (by kernel_rfl) (by kernel_rfl) (by kernel_rfl) (fun _ _ _ h => h) (Or.inr ⟨by rfl, rfl⟩) hHeld ?_
            try simp only [Act.put, List.setIfInBounds_toArray, List.set_cons_zero, List.set_cons_succ, List.getElem_toArray, List.getElem_cons_zero, List.getElem_cons_succ]
            refine wpAnyH_take (i := 13) (v := undef) rfl (by kernel_rfl) (by kernel_rfl) (by kernel_rfl) (fun _ _ _ h => h) (Or.inr ⟨by rfl, rfl⟩) hHeld ?_
            try simp only [Act.put, List.setIfInBounds_toArray, List.set_cons_zero, List.set_cons_succ, List.getElem_toArray, List.getElem_cons_zero, List.getElem_cons_succ]
            refine wpAnyH_take (i := 14) (v := undef) rfl (by kernel_rfl) (by kernel_rfl) (by kernel_rfl) (fun _ _ _ h => h) (Or.inr ⟨by rfl, rfl⟩) hHeld ?_
            try simp only [Act.put, List.setIfInBounds_toArray, List.set_cons_zero, List.set_cons_succ, List.getElem_toArray, List.getElem_cons_zero, List.getElem_cons_succ]
            refine wpAnyH_take (i := 15) (v := undef) rfl (by kernel_rfl) (by kernel_rfl) (by kernel_rfl) (fun _ _ _ h => h) (Or.inr ⟨by rfl, rfl⟩) hHeld ?_
            try simp only [Act.put, List.setIfInBounds_toArray, List.set_cons_zero, List.set_cons_succ, List.getElem_toArray, List.getElem_cons_zero, List.getElem_cons_succ]
            refine wpAnyH_take (i := 16) (v := undef) rfl (by kernel_rfl) (by kernel_rfl) (by kernel_rfl) (fun _ _ _ h => h) (Or.inr ⟨by rfl, rfl⟩) hHeld ?_
            try simp only [Act.put, List.setIfInBounds_toArray, List.set_cons_zero, List.set_cons_succ, List.getElem_toArray, List.getElem_cons_zero, List.getElem_cons_succ]
            refine wpAnyH_take (i := 17) (v := undef) rfl (by kernel_rfl) (by kernel_rfl) (by kernel_rfl) (fun _ _ _ h => h) (Or.inr ⟨by rfl, rfl⟩) hHeld ?_
            try simp only [Act.put, List.setIfInBounds_toArray, List.set_cons_zero, List.set_cons_succ, List.getElem_toArray, List.getElem_cons_zero, List.getElem_cons_succ]
            refine wpAnyH_take (i := 18) (v := undef) rfl (by kernel_rfl) (by kernel_rfl) (by kernel_rfl) (fun _ _ _ h => h) (Or.inr ⟨by rfl, rfl⟩) hHeld ?_
            try simp only [Act.put, List.setIfInBounds_toArray, List.set_cons_zero, List.set_cons_succ, List.getElem_toArray, List.getElem_cons_zero, List.getElem_cons_succ]
            refine wpAnyH_take (i := 19) (v := undef) rfl (by kernel_rfl) (by kernel_rfl) (by kernel_rfl) (fun _ _ _ h => h) (Or.inr ⟨by rfl, rfl⟩) hHeld ?_
            try simp only [Act.put, List.setIfInBounds_toArray, List.set_cons_zero, List.set_cons_succ, List.getElem_toArray, List.getElem_cons_zero, List.getElem_cons_succ]
            refine wpAnyH_take (i := 20) (v := undef) rfl (by kernel_rfl) (by kernel_rfl) (by kernel_rfl) (fun _ _ _ h => h) (Or.inr ⟨by rfl, rfl⟩) hHeld ?_
            try simp only [Act.put, List.setIfInBounds_toArray, List.set_cons_zero, List.set_cons_succ, List.getElem_toArray, List.getElem_cons_zero, List.getElem_cons_succ]
            refine wpAnyH_take (i := 21) (v := undef) rfl (by kernel_rfl) (by kernel_rfl) (by kernel_rfl) (fun _ _ _ h => h) (Or.inr ⟨by rfl, rfl⟩) hHeld ?_
            try simp only [Act.put, List.setIfInBounds_toArray, List.set_cons_zero, List.set_cons_succ, List.getElem_toArray, List.getElem_cons_zero, List.getElem_cons_succ]
            refine wpAnyH_take (i := 22) (v := undef) rfl (by kernel_rfl) (by kernel_rfl) (by kernel_rfl) (fun _ _ _ h => h) (Or.inr ⟨by rfl, rfl⟩) hHeld ?_
            try simp only [Act.put, List.setIfInBounds_toArray, List.set_cons_zero, List.set_cons_succ, List.getElem_toArray, List.getElem_cons_zero, List.getElem_cons_succ]
            refine wpAnyH_take (i := 23) (v := undef) rfl (by kernel_rfl) (by kernel_rfl) (by kernel_rfl) (fun _ _ _ h => h) (Or.inr ⟨by rfl, rfl⟩) hHeld ?_
            try simp only [Act.put, List.setIfInBounds_toArray, List.set_cons_zero, List.set_cons_succ, List.getElem_toArray, List.getElem_cons_zero, List.getElem_cons_succ]
            refine wpAnyH_take (i := 24) (v := .bool true) rfl (by kernel_rfl) (by kernel_rfl) (by kernel_rfl) (fun _ _ _ h => h) (Or.inl ⟨by rfl, fun W hS => by clear hS hHeld; go_simp⟩) hHeld ?_
            try simp only [Act.put, List.setIfInBounds_toArray, List.set_cons_zero, List.set_cons_succ, List.getElem_toArray, List.getElem_cons_zero, List.getElem_cons_succ]
            refine wpAnyH_take (i := 25) (v := .bool true) rfl (by kernel_rfl) (by kernel_rfl) (by kernel_rfl) (fun _ _ _ h => h) (Or.inl ⟨by rfl, fun W hS => by clear hS hHeld; go_simp⟩) hHeld ?_
            try simp only [Act.put, List.setIfInBounds_toArray, List.set_cons_zero, List.set_cons_succ, List.getElem_toArray, List.getElem_cons_zero, List.getElem_cons_succ]
            have HEq := hide (show (l.take (t + 1)).any (okI q mask (g1, g2)) = true by rw [HSn.out]; simp only [okI, Bool.true_or, Bool.false_or, Bool.true_and, Bool.false_and, Bool.and_true, Bool.and_false])
            refine wpAnyH_done (by kernel_rfl) ?_ _
            go_wp2
            go_roundw
            case rel => first | exact ⟨t + 1, by omega, by go_num, by rw [HEq.out], HBn'.out⟩ | exact ⟨_, _, _, ⟨t + 1, by omega, by go_num, by rw [HEq.out]⟩, rfl, rfl, rfl⟩
            case measure => simp [intOf]; omega
          | false =>
            rw [hdec] at HSn
            cases heA : (id == g2) with
            | false =>
              refine wp_region_held_drew (S := fun W => W = w7.drew) (by kernel_rfl) rfl (fun hHeld => ?_)
              have HNw' := hide (show Blk w7.drew bx 26 #[.int .u64 g1, .int .u64 g2] from HNw.out)
              have HNn' := hide (show Blk w7.drew by_ 36 #[.int .u64 id, .slice V nv cv, .int .u64 tags] from HNn.out)
              have HBn' := hide (show Below w6.heap.size w6 w7.drew from HBn.out.drew)
              have HVr' := hide (show Rd (Sh.int .i32) w7.drew w5.heap.size V vec from HVr.out)
              have HY' := hide (show Rd (Sh.int .i32) w7.drew w7.drew.heap.size B q from HY.out.step (Below.step HBs.out HBn.out).drew)
              have HSz := hide (show w5.heap.size ≤ w7.drew.heap.size from (Below.step HBs.out HBn.out).drew.size)
              clear HNw HNn HBn HVr
              generalize w7.drew = W0 at *
              refine wpAnyH_take (i := 0) (v := .bool false) rfl (by kernel_rfl) (by kernel_rfl) (by kernel_rfl) (fun _ _ _ h => h) (Or.inl ⟨by rfl, fun W hS => by clear hS hHeld; go_simp⟩) hHeld ?_
              try simp only [Act.put, List.setIfInBounds_toArray, List.set_cons_zero, List.set_cons_succ, List.getElem_toArray, List.getElem_cons_zero, List.getElem_cons_succ]
              refine wpAnyH_take (i := 1) (v := .bool false) rfl (by kernel_rfl) (by kernel_rfl) (by kernel_rfl) (fun _ _ _ h => h) (Or.inl ⟨by rfl, fun W hS => by clear hS hHeld; go_simp⟩) hHeld ?_
              try simp only [Act.put, List.setIfInBounds_toArray, List.set_cons_zero, List.set_cons_succ, List.getElem_toArray, List.getElem_cons_zero, List.getElem_cons_succ]
              refine wpAnyH_take (i := 2) (v := .pointer (some ⟨by_, 0, none⟩)) rfl (by kernel_rfl) (by kernel_rfl) (by kernel_rfl) (fun _ _ _ h => h) (Or.inl ⟨by rfl, fun W hS => by clear hS hHeld; go_simp⟩) hHeld ?_
              try simp only [Act.put, List.setIfInBounds_toArray, List.set_cons_zero, List.set_cons_succ, List.getElem_toArray, List.getElem_cons_zero, List.getElem_cons_succ]
              refine wpAnyH_take (i := 3) (v := .int .u64 id) rfl (by kernel_rfl) (by kernel_rfl) (by kernel_rfl) (fun _ _ _ h => h) (Or.inl ⟨by rfl, fun W hS => by have z0 : W.cell? ⟨by_, 0, none⟩ = some (.int .u64 id) := by { rw [hS]; exact HNn'.out.cell 0 }; clear hS hHeld; go_simp⟩) hHeld ?_
              try simp only [Act.put, List.setIfInBounds_toArray, List.set_cons_zero, List.set_cons_succ, List.getElem_toArray, List.getElem_cons_zero, List.getElem_cons_succ]
              refine wpAnyH_take (i := 4) (v := .pointer (some ⟨bx, 1, none⟩)) rfl (by kernel_rfl) (by kernel_rfl) (by kernel_rfl) (fun _ _ _ h => h) (Or.inl ⟨by rfl, fun W hS => by clear hS hHeld; go_simp⟩) hHeld ?_
              try simp only [Act.put, List.setIfInBounds_toArray, List.set_cons_zero, List.set_cons_succ, List.getElem_toArray, List.getElem_cons_zero, List.getElem_cons_succ]
              refine wpAnyH_take (i := 5) (v := .int .u64 g2) rfl (by kernel_rfl) (by kernel_rfl) (by kernel_rfl) (fun _ _ _ h => h) (Or.inl ⟨by rfl, fun W hS => by have z0 : W.cell? ⟨bx, 1, none⟩ = some (.int .u64 g2) := by { rw [hS]; exact HNw'.out.cell 1 }; clear hS hHeld; go_simp⟩) hHeld ?_
              try simp only [Act.put, List.setIfInBounds_toArray, List.set_cons_zero, List.set_cons_succ, List.getElem_toArray, List.getElem_cons_zero, List.getElem_cons_succ]
              refine wpAnyH_take (i := 6) (v := .bool false) rfl (by kernel_rfl) (by kernel_rfl) (by kernel_rfl) (fun _ _ _ h => h) (Or.inl ⟨by rfl, fun W hS => by clear hS hHeld; go_simp⟩) hHeld ?_
              try simp only [Act.put, List.setIfInBounds_toArray, List.set_cons_zero, List.set_cons_succ, List.getElem_toArray, List.getElem_cons_zero, List.getElem_cons_succ]
              refine wpAnyH_take (i := 7) (v := .bool false) rfl (by kernel_rfl) (by kernel_rfl) (by kernel_rfl) (fun _ _ _ h => h) (Or.inl ⟨by rfl, fun W hS => by clear hS hHeld; go_simp⟩) hHeld ?_
              try simp only [Act.put, List.setIfInBounds_toArray, List.set_cons_zero, List.set_cons_succ, List.getElem_toArray, List.getElem_cons_zero, List.getElem_cons_succ]
              refine wpAnyH_take (i := 8) (v := undef) rfl (by kernel_rfl) (by kernel_rfl) (by kernel_rfl) (fun _ _ _ h => h) (Or.inr ⟨by rfl, rfl⟩) hHeld ?_
              try simp only [Act.put, List.setIfInBounds_toArray, List.set_cons_zero, List.set_cons_succ, List.getElem_toArray, List.getElem_cons_zero, List.getElem_cons_succ]
              refine wpAnyH_take (i := 9) (v := undef) rfl (by kernel_rfl) (by kernel_rfl) (by kernel_rfl) (fun _ _ _ h => h) (Or.inr ⟨by rfl, rfl⟩) hHeld ?_
              try simp only [Act.put, List.setIfInBounds_toArray, List.set_cons_zero, List.set_cons_succ, List.getElem_toArray, List.getElem_cons_zero, List.getElem_cons_succ]
              refine wpAnyH_take (i := 10) (v := undef) rfl (by kernel_rfl) (by kernel_rfl) (by kernel_rfl) (fun _ _ _ h => h) (Or.inr ⟨by rfl, rfl⟩) hHeld ?_
              try simp only [Act.put, List.setIfInBounds_toArray, List.set_cons_zero, List.set_cons_succ, List.getElem_toArray, List.getElem_cons_zero, List.getElem_cons_succ]
              refine wpAnyH_take (i := 11) (v := undef) rfl (by kernel_rfl) (by kernel_rfl) (by kernel_rfl) (fun _ _ _ h => h) (Or.inr ⟨by rfl, rfl⟩) hHeld ?_
              try simp only [Act.put, List.setIfInBounds_toArray, List.set_cons_zero, List.set_cons_succ, List.getElem_toArray, List.getElem_cons_zero, List.getElem_cons_succ]
              refine wpAnyH_take (i := 12) (v := undef) rfl (by kernel_rfl) (by kernel_rfl) (by kernel_rfl) (fun _ _ _ h => h) (Or.inr ⟨by rfl, rfl⟩) hHeld ?_
              try simp only [Act.put, List.setIfInBounds_toArray, List.set_cons_zero, List.set_cons_succ, List.getElem_toArray, List.getElem_cons_zero, List.getElem_cons_succ]
              refine wpAnyH_take (i := 13) (v := undef) rfl (by kernel_rfl) (by kernel_rfl) (by kernel_rfl) (fun _ _ _ h => h) (Or.inr ⟨by rfl, rfl⟩) hHeld ?_
              try simp only [Act.put, List.setIfInBounds_toArray, List.set_cons_zero, List.set_cons_succ, List.getElem_toArray, List.getElem_cons_zero, List.getElem_cons_succ]
              refine wpAnyH_take (i := 14) (v := .bool false) rfl (by kernel_rfl) (by kernel_rfl) (by kernel_rfl) (fun _ _ _ h => h) (Or.inl ⟨by rfl, fun W hS => by clear hS hHeld; go_simp⟩) hHeld ?_
              try simp only [Act.put, List.setIfInBounds_toArray, List.set_cons_zero, List.set_cons_succ, List.getElem_toArray, List.getElem_cons_zero, List.getElem_cons_succ]
              refine wpAnyH_take (i := 15) (v := .bool false) rfl (by kernel_rfl) (by kernel_rfl) (by kernel_rfl) (fun _ _ _ h => h) (Or.inl ⟨by rfl, fun W hS => by clear hS hHeld; go_simp⟩) hHeld ?_
              try simp only [Act.put, List.setIfInBounds_toArray, List.set_cons_zero, List.set_cons_succ, List.getElem_toArray, List.getElem_cons_zero, List.getElem_cons_succ]
              refine wpAnyH_take (i := 16) (v := undef) rfl (by kernel_rfl) (by kernel_rfl) (by kernel_rfl) (fun _ _ _ h => h) (Or.inr ⟨by rfl, rfl⟩) hHeld ?_
              try simp only [Act.put, List.setIfInBounds_toArray, List.set_cons_zero, List.set_cons_succ, List.getElem_toArray, List.getElem_cons_zero, List.getElem_cons_succ]
              refine wpAnyH_take (i := 17) (v := undef) rfl (by kernel_rfl) (by kernel_rfl) (by kernel_rfl) (fun _ _ _ h => h) (Or.inr ⟨by rfl, rfl⟩) hHeld ?_
              try simp only [Act.put, List.setIfInBounds_toArray, List.set_cons_zero, List.set_cons_succ, List.getElem_toArray, List.getElem_cons_zero, List.getElem_cons_succ]
              refine wpAnyH_take (i := 18) (v := undef) rfl (by kernel_rfl) (by kernel_rfl) (by kernel_rfl) (fun _ _ _ h => h) (Or.inr ⟨by rfl, rfl⟩) hHeld ?_
              try simp only [Act.put, List.setIfInBounds_toArray, List.set_cons_zero, List.set_cons_succ, List.getElem_toArray, List.getElem_cons_zero, List.getElem_cons_succ]
              refine wpAnyH_take (i := 19) (v := undef) rfl (by kernel_rfl) (by kernel_rfl) (by kernel_rfl) (fun _ _ _ h => h) (Or.inr ⟨by rfl, rfl⟩) hHeld ?_
              try simp only [Act.put, List.setIfInBounds_toArray, List.set_cons_zero, List.set_cons_succ, List.getElem_toArray, List.getElem_cons_zero, List.getElem_cons_succ]
              refine wpAnyH_take (i := 20) (v := undef) rfl (by kernel_rfl) (by kernel_rfl) (by kernel_rfl) (fun _ _ _ h => h) (Or.inr ⟨by rfl, rfl⟩) hHeld ?_
              try simp only [Act.put, List.setIfInBounds_toArray, List.set_cons_zero, List.set_cons_succ, List.getElem_toArray, List.getElem_cons_zero, List.getElem_cons_succ]
              refine wpAnyH_take (i := 21) (v := undef) rfl (by kernel_rfl) (by kernel_rfl) (by kernel_rfl) (fun _ _ _ h => h) (Or.inr ⟨by rfl, rfl⟩) hHeld ?_
              try simp only [Act.put, List.setIfInBounds_toArray, List.set_cons_zero, List.set_cons_succ, List.getElem_toArray, List.getElem_cons_zero, List.getElem_cons_succ]
              refine wpAnyH_take (i := 22) (v := undef) rfl (by kernel_rfl) (by kernel_rfl) (by kernel_rfl) (fun _ _ _ h => h) (Or.inr ⟨by rfl, rfl⟩) hHeld ?_
              try simp only [Act.put, List.setIfInBounds_toArray, List.set_cons_zero, List.set_cons_succ, List.getElem_toArray, List.getElem_cons_zero, List.getElem_cons_succ]
              refine wpAnyH_take (i := 23) (v := .bool false) rfl (by kernel_rfl) (by kernel_rfl) (by kernel_rfl) (fun _ _ _ h => h) (Or.inl ⟨by rfl, fun W hS => by clear hS hHeld; go_simp⟩) hHeld ?_
              try simp only [Act.put, List.setIfInBounds_toArray, List.set_cons_zero, List.set_cons_succ, List.getElem_toArray, List.getElem_cons_zero, List.getElem_cons_succ]
              refine wpAnyH_take (i := 24) (v := .bool false) rfl (by kernel_rfl) (by kernel_rfl) (by kernel_rfl) (fun _ _ _ h => h) (Or.inl ⟨by rfl, fun W hS => by clear hS hHeld; go_simp⟩) hHeld ?_
              try simp only [Act.put, List.setIfInBounds_toArray, List.set_cons_zero, List.set_cons_succ, List.getElem_toArray, List.getElem_cons_zero, List.getElem_cons_succ]
              refine wpAnyH_take (i := 25) (v := .bool false) rfl (by kernel_rfl) (by kernel_rfl) (by kernel_rfl) (fun _ _ _ h => h) (Or.inl ⟨by rfl, fun W hS => by clear hS hHeld; go_simp⟩) hHeld ?_
              try simp only [Act.put, List.setIfInBounds_toArray, List.set_cons_zero, List.set_cons_succ, List.getElem_toArray, List.getElem_cons_zero, List.getElem_cons_succ]
              have HEq := hide (show (l.take (t + 1)).any (okI q mask (g1, g2)) = false by rw [HSn.out]; simp only [okI, heA, Bool.true_or, Bool.false_or, Bool.true_and, Bool.false_and, Bool.and_true, Bool.and_false])
              refine wpAnyH_done (by kernel_rfl) ?_ _
              go_wp2
              go_roundw
              case rel => first | exact ⟨t + 1, by omega, by go_num, by rw [HEq.out], HBn'.out⟩ | exact ⟨_, _, _, ⟨t + 1, by omega, by go_num, by rw [HEq.out]⟩, rfl, rfl, rfl⟩
              case measure => simp [intOf]; omega
            | true =>
              cases heB : (bits .and .u64 tags mask == mask) with
              | false =>
                refine wp_region_held_drew (S := fun W => W = w7.drew) (by kernel_rfl) rfl (fun hHeld => ?_)
                have HNw' := hide (show Blk w7.drew bx 26 #[.int .u64 g1, .int .u64 g2] from HNw.out)
                have HNn' := hide (show Blk w7.drew by_ 36 #[.int .u64 id, .slice V nv cv, .int .u64 tags] from HNn.out)
                have HBn' := hide (show Below w6.heap.size w6 w7.drew from HBn.out.drew)
                have HVr' := hide (show Rd (Sh.int .i32) w7.drew w5.heap.size V vec from HVr.out)
                have HY' := hide (show Rd (Sh.int .i32) w7.drew w7.drew.heap.size B q from HY.out.step (Below.step HBs.out HBn.out).drew)
                have HSz := hide (show w5.heap.size ≤ w7.drew.heap.size from (Below.step HBs.out HBn.out).drew.size)
                clear HNw HNn HBn HVr
                generalize w7.drew = W0 at *
                refine wpAnyH_take (i := 0) (v := .bool false) rfl (by kernel_rfl) (by kernel_rfl) (by kernel_rfl) (fun _ _ _ h => h) (Or.inl ⟨by rfl, fun W hS => by clear hS hHeld; go_simp⟩) hHeld ?_
                try simp only [Act.put, List.setIfInBounds_toArray, List.set_cons_zero, List.set_cons_succ, List.getElem_toArray, List.getElem_cons_zero, List.getElem_cons_succ]
                refine wpAnyH_take (i := 1) (v := .bool false) rfl (by kernel_rfl) (by kernel_rfl) (by kernel_rfl) (fun _ _ _ h => h) (Or.inl ⟨by rfl, fun W hS => by clear hS hHeld; go_simp⟩) hHeld ?_
                try simp only [Act.put, List.setIfInBounds_toArray, List.set_cons_zero, List.set_cons_succ, List.getElem_toArray, List.getElem_cons_zero, List.getElem_cons_succ]
                refine wpAnyH_take (i := 2) (v := .pointer (some ⟨by_, 0, none⟩)) rfl (by kernel_rfl) (by kernel_rfl) (by kernel_rfl) (fun _ _ _ h => h) (Or.inl ⟨by rfl, fun W hS => by clear hS hHeld; go_simp⟩) hHeld ?_
                try simp only [Act.put, List.setIfInBounds_toArray, List.set_cons_zero, List.set_cons_succ, List.getElem_toArray, List.getElem_cons_zero, List.getElem_cons_succ]
                refine wpAnyH_take (i := 3) (v := .int .u64 id) rfl (by kernel_rfl) (by kernel_rfl) (by kernel_rfl) (fun _ _ _ h => h) (Or.inl ⟨by rfl, fun W hS => by have z0 : W.cell? ⟨by_, 0, none⟩ = some (.int .u64 id) := by { rw [hS]; exact HNn'.out.cell 0 }; clear hS hHeld; go_simp⟩) hHeld ?_
                try simp only [Act.put, List.setIfInBounds_toArray, List.set_cons_zero, List.set_cons_succ, List.getElem_toArray, List.getElem_cons_zero, List.getElem_cons_succ]
                refine wpAnyH_take (i := 4) (v := .pointer (some ⟨bx, 1, none⟩)) rfl (by kernel_rfl) (by kernel_rfl) (by kernel_rfl) (fun _ _ _ h => h) (Or.inl ⟨by rfl, fun W hS => by clear hS hHeld; go_simp⟩) hHeld ?_
                try simp only [Act.put, List.setIfInBounds_toArray, List.set_cons_zero, List.set_cons_succ, List.getElem_toArray, List.getElem_cons_zero, List.getElem_cons_succ]
                refine wpAnyH_take (i := 5) (v := .int .u64 g2) rfl (by kernel_rfl) (by kernel_rfl) (by kernel_rfl) (fun _ _ _ h => h) (Or.inl ⟨by rfl, fun W hS => by have z0 : W.cell? ⟨bx, 1, none⟩ = some (.int .u64 g2) := by { rw [hS]; exact HNw'.out.cell 1 }; clear hS hHeld; go_simp⟩) hHeld ?_
                try simp only [Act.put, List.setIfInBounds_toArray, List.set_cons_zero, List.set_cons_succ, List.getElem_toArray, List.getElem_cons_zero, List.getElem_cons_succ]
                refine wpAnyH_take (i := 6) (v := .bool true) rfl (by kernel_rfl) (by kernel_rfl) (by kernel_rfl) (fun _ _ _ h => h) (Or.inl ⟨by rfl, fun W hS => by clear hS hHeld; go_simp⟩) hHeld ?_
                try simp only [Act.put, List.setIfInBounds_toArray, List.set_cons_zero, List.set_cons_succ, List.getElem_toArray, List.getElem_cons_zero, List.getElem_cons_succ]
                refine wpAnyH_take (i := 7) (v := .bool true) rfl (by kernel_rfl) (by kernel_rfl) (by kernel_rfl) (fun _ _ _ h => h) (Or.inl ⟨by rfl, fun W hS => by clear hS hHeld; go_simp⟩) hHeld ?_
                try simp only [Act.put, List.setIfInBounds_toArray, List.set_cons_zero, List.set_cons_succ, List.getElem_toArray, List.getElem_cons_zero, List.getElem_cons_succ]
                refine wpAnyH_take (i := 8) (v := .pointer (some ⟨by_, 2, none⟩)) rfl (by kernel_rfl) (by kernel_rfl) (by kernel_rfl) (fun _ _ _ h => h) (Or.inl ⟨by rfl, fun W hS => by clear hS hHeld; go_simp⟩) hHeld ?_
                try simp only [Act.put, List.setIfInBounds_toArray, List.set_cons_zero, List.set_cons_succ, List.getElem_toArray, List.getElem_cons_zero, List.getElem_cons_succ]
                refine wpAnyH_take (i := 9) (v := .int .u64 tags) rfl (by kernel_rfl) (by kernel_rfl) (by kernel_rfl) (fun _ _ _ h => h) (Or.inl ⟨by rfl, fun W hS => by have z0 : W.cell? ⟨by_, 2, none⟩ = some (.int .u64 tags) := by { rw [hS]; exact HNn'.out.cell 2 }; clear hS hHeld; go_simp⟩) hHeld ?_
                try simp only [Act.put, List.setIfInBounds_toArray, List.set_cons_zero, List.set_cons_succ, List.getElem_toArray, List.getElem_cons_zero, List.getElem_cons_succ]
                refine wpAnyH_take (i := 10) (v := .int .u64 mask) rfl (by kernel_rfl) (by kernel_rfl) (by kernel_rfl) (fun _ _ _ h => h) (Or.inl ⟨by rfl, fun W hS => by clear hS hHeld; go_simp⟩) hHeld ?_
                try simp only [Act.put, List.setIfInBounds_toArray, List.set_cons_zero, List.set_cons_succ, List.getElem_toArray, List.getElem_cons_zero, List.getElem_cons_succ]
                refine wpAnyH_take (i := 11) (v := .int .u64 (bits .and .u64 tags mask)) rfl (by kernel_rfl) (by kernel_rfl) (by kernel_rfl) (fun _ _ _ h => h) (Or.inl ⟨by rfl, fun W hS => by clear hS hHeld; go_simp⟩) hHeld ?_
                try simp only [Act.put, List.setIfInBounds_toArray, List.set_cons_zero, List.set_cons_succ, List.getElem_toArray, List.getElem_cons_zero, List.getElem_cons_succ]
                refine wpAnyH_take (i := 12) (v := .int .u64 mask) rfl (by kernel_rfl) (by kernel_rfl) (by kernel_rfl) (fun _ _ _ h => h) (Or.inl ⟨by rfl, fun W hS => by clear hS hHeld; go_simp⟩) hHeld ?_
                try simp only [Act.put, List.setIfInBounds_toArray, List.set_cons_zero, List.set_cons_succ, List.getElem_toArray, List.getElem_cons_zero, List.getElem_cons_succ]
                refine wpAnyH_take (i := 13) (v := .bool false) rfl (by kernel_rfl) (by kernel_rfl) (by kernel_rfl) (fun _ _ _ h => h) (Or.inl ⟨by rfl, fun W hS => by clear hS hHeld; go_simp⟩) hHeld ?_
                try simp only [Act.put, List.setIfInBounds_toArray, List.set_cons_zero, List.set_cons_succ, List.getElem_toArray, List.getElem_cons_zero, List.getElem_cons_succ]
                refine wpAnyH_take (i := 14) (v := .bool false) rfl (by kernel_rfl) (by kernel_rfl) (by kernel_rfl) (fun _ _ _ h => h) (Or.inl ⟨by rfl, fun W hS => by clear hS hHeld; go_simp⟩) hHeld ?_
                try simp only [Act.put, List.setIfInBounds_toArray, List.set_cons_zero, List.set_cons_succ, List.getElem_toArray, List.getElem_cons_zero, List.getElem_cons_succ]
                refine wpAnyH_take (i := 15) (v := .bool false) rfl (by kernel_rfl) (by kernel_rfl) (by kernel_rfl) (fun _ _ _ h => h) (Or.inl ⟨by rfl, fun W hS => by clear hS hHeld; go_simp⟩) hHeld ?_
                try simp only [Act.put, List.setIfInBounds_toArray, List.set_cons_zero, List.set_cons_succ, List.getElem_toArray, List.getElem_cons_zero, List.getElem_cons_succ]
                refine wpAnyH_take (i := 16) (v := undef) rfl (by kernel_rfl) (by kernel_rfl) (by kernel_rfl) (fun _ _ _ h => h) (Or.inr ⟨by rfl, rfl⟩) hHeld ?_
                try simp only [Act.put, List.setIfInBounds_toArray, List.set_cons_zero, List.set_cons_succ, List.getElem_toArray, List.getElem_cons_zero, List.getElem_cons_succ]
                refine wpAnyH_take (i := 17) (v := undef) rfl (by kernel_rfl) (by kernel_rfl) (by kernel_rfl) (fun _ _ _ h => h) (Or.inr ⟨by rfl, rfl⟩) hHeld ?_
                try simp only [Act.put, List.setIfInBounds_toArray, List.set_cons_zero, List.set_cons_succ, List.getElem_toArray, List.getElem_cons_zero, List.getElem_cons_succ]
                refine wpAnyH_take (i := 18) (v := undef) rfl (by kernel_rfl) (by kernel_rfl) (by kernel_rfl) (fun _ _ _ h => h) (Or.inr ⟨by rfl, rfl⟩) hHeld ?_
                try simp only [Act.put, List.setIfInBounds_toArray, List.set_cons_zero, List.set_cons_succ, List.getElem_toArray, List.getElem_cons_zero, List.getElem_cons_succ]
                refine wpAnyH_take (i := 19) (v := undef) rfl (by kernel_rfl) (by kernel_rfl) (by kernel_rfl) (fun _ _ _ h => h) (Or.inr ⟨by rfl, rfl⟩) hHeld ?_
                try simp only [Act.put, List.setIfInBounds_toArray, List.set_cons_zero, List.set_cons_succ, List.getElem_toArray, List.getElem_cons_zero, List.getElem_cons_succ]
                refine wpAnyH_take (i := 20) (v := undef) rfl (by kernel_rfl) (by kernel_rfl) (by kernel_rfl) (fun _ _ _ h => h) (Or.inr ⟨by rfl, rfl⟩) hHeld ?_
                try simp only [Act.put, List.setIfInBounds_toArray, List.set_cons_zero, List.set_cons_succ, List.getElem_toArray, List.getElem_cons_zero, List.getElem_cons_succ]
                refine wpAnyH_take (i := 21) (v := undef) rfl (by kernel_rfl) (by kernel_rfl) (by kernel_rfl) (fun _ _ _ h => h) (Or.inr ⟨by rfl, rfl⟩) hHeld ?_
                try simp only [Act.put, List.setIfInBounds_toArray, List.set_cons_zero, List.set_cons_succ, List.getElem_toArray, List.getElem_cons_zero, List.getElem_cons_succ]
                refine wpAnyH_take (i := 22) (v := undef) rfl (by kernel_rfl) (by kernel_rfl) (by kernel_rfl) (fun _ _ _ h => h) (Or.inr ⟨by rfl, rfl⟩) hHeld ?_
                try simp only [Act.put, List.setIfInBounds_toArray, List.set_cons_zero, List.set_cons_succ, List.getElem_toArray, List.getElem_cons_zero, List.getElem_cons_succ]
                refine wpAnyH_take (i := 23) (v := .bool false) rfl (by kernel_rfl) (by kernel_rfl) (by kernel_rfl) (fun _ _ _ h => h) (Or.inl ⟨by rfl, fun W hS => by clear hS hHeld; go_simp⟩) hHeld ?_
                try simp only [Act.put, List.setIfInBounds_toArray, List.set_cons_zero, List.set_cons_succ, List.getElem_toArray, List.getElem_cons_zero, List.getElem_cons_succ]
                refine wpAnyH_take (i := 24) (v := .bool false) rfl (by kernel_rfl) (by kernel_rfl) (by kernel_rfl) (fun _ _ _ h => h) (Or.inl ⟨by rfl, fun W hS => by clear hS hHeld; go_simp⟩) hHeld ?_
                try simp only [Act.put, List.setIfInBounds_toArray, List.set_cons_zero, List.set_cons_succ, List.getElem_toArray, List.getElem_cons_zero, List.getElem_cons_succ]
                refine wpAnyH_take (i := 25) (v := .bool false) rfl (by kernel_rfl) (by kernel_rfl) (by kernel_rfl) (fun _ _ _ h => h) (Or.inl ⟨by rfl, fun W hS => by clear hS hHeld; go_simp⟩) hHeld ?_
                try simp only [Act.put, List.setIfInBounds_toArray, List.set_cons_zero, List.set_cons_succ, List.getElem_toArray, List.getElem_cons_zero, List.getElem_cons_succ]
                have HEq := hide (show (l.take (t + 1)).any (okI q mask (g1, g2)) = false by rw [HSn.out]; simp only [okI, heA, heB, Bool.true_or, Bool.false_or, Bool.true_and, Bool.false_and, Bool.and_true, Bool.and_false])
                refine wpAnyH_done (by kernel_rfl) ?_ _
                go_wp2
                go_roundw
                case rel => first | exact ⟨t + 1, by omega, by go_num, by rw [HEq.out], HBn'.out⟩ | exact ⟨_, _, _, ⟨t + 1, by omega, by go_num, by rw [HEq.out]⟩, rfl, rfl, rfl⟩
                case measure => simp [intOf]; omega
              | true =>
                refine wp_region_held_drew (S := fun W => W = w7.drew) (by kernel_rfl) rfl (fun hHeld => ?_)
                have HNw' := hide (show Blk w7.drew bx 26 #[.int .u64 g1, .int .u64 g2] from HNw.out)
                have HNn' := hide (show Blk w7.drew by_ 36 #[.int .u64 id, .slice V nv cv, .int .u64 tags] from HNn.out)
                have HBn' := hide (show Below w6.heap.size w6 w7.drew from HBn.out.drew)
                have HVr' := hide (show Rd (Sh.int .i32) w7.drew w5.heap.size V vec from HVr.out)
                have HY' := hide (show Rd (Sh.int .i32) w7.drew w7.drew.heap.size B q from HY.out.step (Below.step HBs.out HBn.out).drew)
                have HSz := hide (show w5.heap.size ≤ w7.drew.heap.size from (Below.step HBs.out HBn.out).drew.size)
                clear HNw HNn HBn HVr
                generalize w7.drew = W0 at *
                refine wpAnyH_take (i := 0) (v := .bool false) rfl (by kernel_rfl) (by kernel_rfl) (by kernel_rfl) (fun _ _ _ h => h) (Or.inl ⟨by rfl, fun W hS => by clear hS hHeld; go_simp⟩) hHeld ?_
                try simp only [Act.put, List.setIfInBounds_toArray, List.set_cons_zero, List.set_cons_succ, List.getElem_toArray, List.getElem_cons_zero, List.getElem_cons_succ]
                refine wpAnyH_take (i := 1) (v := .bool false) rfl (by kernel_rfl) (by kernel_rfl) (by kernel_rfl) (fun _ _ _ h => h) (Or.inl ⟨by rfl, fun W hS => by clear hS hHeld; go_simp⟩) hHeld ?_
                try simp only [Act.put, List.setIfInBounds_toArray, List.set_cons_zero, List.set_cons_succ, List.getElem_toArray, List.getElem_cons_zero, List.getElem_cons_succ]
                refine wpAnyH_take (i := 2) (v := .pointer (some ⟨by_, 0, none⟩)) rfl (by kernel_rfl) (by kernel_rfl) (by kernel_rfl) (fun _ _ _ h => h) (Or.inl ⟨by rfl, fun W hS => by clear hS hHeld; go_simp⟩) hHeld ?_
                try simp only [Act.put, List.setIfInBounds_toArray, List.set_cons_zero, List.set_cons_succ, List.getElem_toArray, List.getElem_cons_zero, List.getElem_cons_succ]
                refine wpAnyH_take (i := 3) (v := .int .u64 id) rfl (by kernel_rfl) (by kernel_rfl) (by kernel_rfl) (fun _ _ _ h => h) (Or.inl ⟨by rfl, fun W hS => by have z0 : W.cell? ⟨by_, 0, none⟩ = some (.int .u64 id) := by { rw [hS]; exact HNn'.out.cell 0 }; clear hS hHeld; go_simp⟩) hHeld ?_
                try simp only [Act.put, List.setIfInBounds_toArray, List.set_cons_zero, List.set_cons_succ, List.getElem_toArray, List.getElem_cons_zero, List.getElem_cons_succ]
                refine wpAnyH_take (i := 4) (v := .pointer (some ⟨bx, 1, none⟩)) rfl (by kernel_rfl) (by kernel_rfl) (by kernel_rfl) (fun _ _ _ h => h) (Or.inl ⟨by rfl, fun W hS => by clear hS hHeld; go_simp⟩) hHeld ?_
                try simp only [Act.put, List.setIfInBounds_toArray, List.set_cons_zero, List.set_cons_succ, List.getElem_toArray, List.getElem_cons_zero, List.getElem_cons_succ]
                refine wpAnyH_take (i := 5) (v := .int .u64 g2) rfl (by kernel_rfl) (by kernel_rfl) (by kernel_rfl) (fun _ _ _ h => h) (Or.inl ⟨by rfl, fun W hS => by have z0 : W.cell? ⟨bx, 1, none⟩ = some (.int .u64 g2) := by { rw [hS]; exact HNw'.out.cell 1 }; clear hS hHeld; go_simp⟩) hHeld ?_
                try simp only [Act.put, List.setIfInBounds_toArray, List.set_cons_zero, List.set_cons_succ, List.getElem_toArray, List.getElem_cons_zero, List.getElem_cons_succ]
                refine wpAnyH_take (i := 6) (v := .bool true) rfl (by kernel_rfl) (by kernel_rfl) (by kernel_rfl) (fun _ _ _ h => h) (Or.inl ⟨by rfl, fun W hS => by clear hS hHeld; go_simp⟩) hHeld ?_
                try simp only [Act.put, List.setIfInBounds_toArray, List.set_cons_zero, List.set_cons_succ, List.getElem_toArray, List.getElem_cons_zero, List.getElem_cons_succ]
                refine wpAnyH_take (i := 7) (v := .bool true) rfl (by kernel_rfl) (by kernel_rfl) (by kernel_rfl) (fun _ _ _ h => h) (Or.inl ⟨by rfl, fun W hS => by clear hS hHeld; go_simp⟩) hHeld ?_
                try simp only [Act.put, List.setIfInBounds_toArray, List.set_cons_zero, List.set_cons_succ, List.getElem_toArray, List.getElem_cons_zero, List.getElem_cons_succ]
                refine wpAnyH_take (i := 8) (v := .pointer (some ⟨by_, 2, none⟩)) rfl (by kernel_rfl) (by kernel_rfl) (by kernel_rfl) (fun _ _ _ h => h) (Or.inl ⟨by rfl, fun W hS => by clear hS hHeld; go_simp⟩) hHeld ?_
                try simp only [Act.put, List.setIfInBounds_toArray, List.set_cons_zero, List.set_cons_succ, List.getElem_toArray, List.getElem_cons_zero, List.getElem_cons_succ]
                refine wpAnyH_take (i := 9) (v := .int .u64 tags) rfl (by kernel_rfl) (by kernel_rfl) (by kernel_rfl) (fun _ _ _ h => h) (Or.inl ⟨by rfl, fun W hS => by have z0 : W.cell? ⟨by_, 2, none⟩ = some (.int .u64 tags) := by { rw [hS]; exact HNn'.out.cell 2 }; clear hS hHeld; go_simp⟩) hHeld ?_
                try simp only [Act.put, List.setIfInBounds_toArray, List.set_cons_zero, List.set_cons_succ, List.getElem_toArray, List.getElem_cons_zero, List.getElem_cons_succ]
                refine wpAnyH_take (i := 10) (v := .int .u64 mask) rfl (by kernel_rfl) (by kernel_rfl) (by kernel_rfl) (fun _ _ _ h => h) (Or.inl ⟨by rfl, fun W hS => by clear hS hHeld; go_simp⟩) hHeld ?_
                try simp only [Act.put, List.setIfInBounds_toArray, List.set_cons_zero, List.set_cons_succ, List.getElem_toArray, List.getElem_cons_zero, List.getElem_cons_succ]
                refine wpAnyH_take (i := 11) (v := .int .u64 (bits .and .u64 tags mask)) rfl (by kernel_rfl) (by kernel_rfl) (by kernel_rfl) (fun _ _ _ h => h) (Or.inl ⟨by rfl, fun W hS => by clear hS hHeld; go_simp⟩) hHeld ?_
                try simp only [Act.put, List.setIfInBounds_toArray, List.set_cons_zero, List.set_cons_succ, List.getElem_toArray, List.getElem_cons_zero, List.getElem_cons_succ]
                refine wpAnyH_take (i := 12) (v := .int .u64 mask) rfl (by kernel_rfl) (by kernel_rfl) (by kernel_rfl) (fun _ _ _ h => h) (Or.inl ⟨by rfl, fun W hS => by clear hS hHeld; go_simp⟩) hHeld ?_
                try simp only [Act.put, List.setIfInBounds_toArray, List.set_cons_zero, List.set_cons_succ, List.getElem_toArray, List.getElem_cons_zero, List.getElem_cons_succ]
                refine wpAnyH_take (i := 13) (v := .bool true) rfl (by kernel_rfl) (by kernel_rfl) (by kernel_rfl) (fun _ _ _ h => h) (Or.inl ⟨by rfl, fun W hS => by clear hS hHeld; go_simp⟩) hHeld ?_
                try simp only [Act.put, List.setIfInBounds_toArray, List.set_cons_zero, List.set_cons_succ, List.getElem_toArray, List.getElem_cons_zero, List.getElem_cons_succ]
                refine wpAnyH_take (i := 14) (v := .bool true) rfl (by kernel_rfl) (by kernel_rfl) (by kernel_rfl) (fun _ _ _ h => h) (Or.inl ⟨by rfl, fun W hS => by clear hS hHeld; go_simp⟩) hHeld ?_
                try simp only [Act.put, List.setIfInBounds_toArray, List.set_cons_zero, List.set_cons_succ, List.getElem_toArray, List.getElem_cons_zero, List.getElem_cons_succ]
                refine wpAnyH_take (i := 15) (v := .bool true) rfl (by kernel_rfl) (by kernel_rfl) (by kernel_rfl) (fun _ _ _ h => h) (Or.inl ⟨by rfl, fun W hS => by clear hS hHeld; go_simp⟩) hHeld ?_
                try simp only [Act.put, List.setIfInBounds_toArray, List.set_cons_zero, List.set_cons_succ, List.getElem_toArray, List.getElem_cons_zero, List.getElem_cons_succ]
                refine wpAnyH_take (i := 16) (v := .slice B m d) rfl (by kernel_rfl) (by kernel_rfl) (by kernel_rfl) (fun _ _ _ h => h) (Or.inl ⟨by rfl, fun W hS => by clear hS hHeld; go_simp⟩) hHeld ?_
                try simp only [Act.put, List.setIfInBounds_toArray, List.set_cons_zero, List.set_cons_succ, List.getElem_toArray, List.getElem_cons_zero, List.getElem_cons_succ]
                refine wpAnyH_take (i := 17) (v := .pointer (some ⟨by_, 1, none⟩)) rfl (by kernel_rfl) (by kernel_rfl) (by kernel_rfl) (fun _ _ _ h => h) (Or.inl ⟨by rfl, fun W hS => by clear hS hHeld; go_simp⟩) hHeld ?_
                try simp only [Act.put, List.setIfInBounds_toArray, List.set_cons_zero, List.set_cons_succ, List.getElem_toArray, List.getElem_cons_zero, List.getElem_cons_succ]
                refine wpAnyH_take (i := 18) (v := .slice V nv cv) rfl (by kernel_rfl) (by kernel_rfl) (by kernel_rfl) (fun _ _ _ h => h) (Or.inl ⟨by rfl, fun W hS => by have z0 : W.cell? ⟨by_, 1, none⟩ = some (.slice V nv cv) := by { rw [hS]; exact HNn'.out.cell 1 }; clear hS hHeld; go_simp⟩) hHeld ?_
                try simp only [Act.put, List.setIfInBounds_toArray, List.set_cons_zero, List.set_cons_succ, List.getElem_toArray, List.getElem_cons_zero, List.getElem_cons_succ]
                refine wpAnyH_take (i := 20) (v := .pointer (some ⟨bx, 0, none⟩)) rfl (by kernel_rfl) (by kernel_rfl) (by kernel_rfl) (fun _ _ _ h => h) (Or.inl ⟨by rfl, fun W hS => by clear hS hHeld; go_simp⟩) hHeld ?_
                try simp only [Act.put, List.setIfInBounds_toArray, List.set_cons_zero, List.set_cons_succ, List.getElem_toArray, List.getElem_cons_zero, List.getElem_cons_succ]
                refine wpAnyH_take (i := 21) (v := .int .u64 g1) rfl (by kernel_rfl) (by kernel_rfl) (by kernel_rfl) (fun _ _ _ h => h) (Or.inl ⟨by rfl, fun W hS => by have z0 : W.cell? ⟨bx, 0, none⟩ = some (.int .u64 g1) := by { rw [hS]; exact HNw'.out.cell 0 }; clear hS hHeld; go_simp⟩) hHeld ?_
                try simp only [Act.put, List.setIfInBounds_toArray, List.set_cons_zero, List.set_cons_succ, List.getElem_toArray, List.getElem_cons_zero, List.getElem_cons_succ]
                refine wpAnyH_ready (rs := [19]) (by kernel_rfl) (by simp) ?_
                refine AllReadyH.cons rfl (fun K hK => ?_) AllReadyH.nil
                try simp only [Act.put, List.setIfInBounds_toArray, List.set_cons_zero, List.set_cons_succ, List.getElem_toArray, List.getElem_cons_zero, List.getElem_cons_succ]
                go_simp
                go_at_call 14
                refine (dist_any B V m d nv cv q vec W0 HY'.out Hm.out HYI.out hd hm' (RdR.rd HVr'.out fun b hb => Nat.lt_of_lt_of_le hb HSz.out) HVN.out HVI.out hcv hcm).mono ?_
                rintro e wq ⟨rfl, rfl⟩
                refine hK.out _ _ rfl (fun hHeld2 => ?_)
                clear hK K hHeld
                have hHeld := hHeld2
                clear hHeld2
                try simp only [Act.put, List.setIfInBounds_toArray, List.set_cons_zero, List.set_cons_succ, List.getElem_toArray, List.getElem_cons_zero, List.getElem_cons_succ]
                refine wpAnyH_take (i := 22) (v := .bool (distOf q vec == g1)) rfl (by kernel_rfl) (by kernel_rfl) (by kernel_rfl) (fun _ _ _ h => h) (Or.inl ⟨by rfl, fun W hS => by clear hS hHeld; go_simp⟩) hHeld ?_
                try simp only [Act.put, List.setIfInBounds_toArray, List.set_cons_zero, List.set_cons_succ, List.getElem_toArray, List.getElem_cons_zero, List.getElem_cons_succ]
                refine wpAnyH_take (i := 23) (v := .bool (distOf q vec == g1)) rfl (by kernel_rfl) (by kernel_rfl) (by kernel_rfl) (fun _ _ _ h => h) (Or.inl ⟨by rfl, fun W hS => by clear hS hHeld; go_simp⟩) hHeld ?_
                try simp only [Act.put, List.setIfInBounds_toArray, List.set_cons_zero, List.set_cons_succ, List.getElem_toArray, List.getElem_cons_zero, List.getElem_cons_succ]
                refine wpAnyH_take (i := 24) (v := .bool (distOf q vec == g1)) rfl (by kernel_rfl) (by kernel_rfl) (by kernel_rfl) (fun _ _ _ h => h) (Or.inl ⟨by rfl, fun W hS => by clear hS hHeld; go_simp⟩) hHeld ?_
                try simp only [Act.put, List.setIfInBounds_toArray, List.set_cons_zero, List.set_cons_succ, List.getElem_toArray, List.getElem_cons_zero, List.getElem_cons_succ]
                refine wpAnyH_take (i := 25) (v := .bool (distOf q vec == g1)) rfl (by kernel_rfl) (by kernel_rfl) (by kernel_rfl) (fun _ _ _ h => h) (Or.inl ⟨by rfl, fun W hS => by clear hS hHeld; go_simp⟩) hHeld ?_
                try simp only [Act.put, List.setIfInBounds_toArray, List.set_cons_zero, List.set_cons_succ, List.getElem_toArray, List.getElem_cons_zero, List.getElem_cons_succ]
                have HeAB := hide (And.intro heA heB)
                clear heA heB
                have HEq := hide (show (l.take (t + 1)).any (okI q mask (g1, g2)) = (distOf q vec == g1) by rw [HSn.out]; simp only [okI, HeAB.out.1, HeAB.out.2, Bool.true_or, Bool.false_or, Bool.true_and, Bool.false_and, Bool.and_true, Bool.and_false])
                refine wpAnyH_done (by kernel_rfl) ?_ _
                go_wp2
                go_roundw
                case rel => first | exact ⟨t + 1, by omega, by go_num, by rw [HEq.out], HBn'.out⟩ | exact ⟨_, _, _, ⟨t + 1, by omega, by go_num, by rw [HEq.out]⟩, rfl, rfl, rfl⟩
                case measure => simp [intOf]; omega
        · have hT : (l.take t).any (okI q mask (g1, g2)) = true := by rw [List.take_of_length_le (by have := Hn.out; omega)]; exact HIN.out
          rw [hT]
          clear hT
          go_upto_region 17 with fail
          have HGw := hide (HN.out.below HBi.out HN.out.lt)
          have HPl := hide (place_le HPW.out HG.out)
          have HYc := hide (HRy.out.step HSt.out)
          have HXc := hide (HX.out.step HSt.out)
          have HQc := hide (HY.out.step HSt.out)
          have HPC := hide (show ∀ W, Rd SItem W W.heap.size A l → Rd (Sh.int .i32) W W.heap.size B q → Calls Try.prog 12 #[.slice A n c, .slice B m d, .int .u64 mask, .agg #[.int .u64 g1, .int .u64 g2]] W fun e w' => e = .returned (.int .i64 (placeM (g1, g2) h : Nat)) ∧ Below W.heap.size W w' from fun W h1 h2 => by
            have h3 := place13_any A B n c m d l q mask g1 g2 W h1 Hn.out HXI.out hc hm h2 Hm.out HYI.out hd hm' (by omega)
            rw [HH.out] at h3; exact h3)
          rcases j with _ | i
          · have bp : decide (((0 : Nat) : Int) < (placeM (g1, g2) h : Nat)) = false := by have := HPl.out; exact decide_eq_false (by omega)
            have bp2 : decide ((0 : Int) < (placeM (g1, g2) h : Nat)) = false := by have := HPl.out; exact decide_eq_false (by omega)
            have bp3 : placeM (g1, g2) h = 0 := by have := HPl.out; omega
            refine wp_region_held_drew (S := Below wr.heap.size wr) (by kernel_rfl) (Below.refl _ _).drew (fun hHeld => ?_)
            generalize World.drew _ = W0 at *
            refine wpAnyH_take (i := 0) (v := .bool true) rfl (by kernel_rfl) (by kernel_rfl) (by kernel_rfl) (fun _ _ _ h => h) (Or.inl ⟨by rfl, fun W hS => by clear hS hHeld; go_simp⟩) hHeld ?_
            try simp only [Act.put, List.setIfInBounds_toArray, List.set_cons_zero, List.set_cons_succ, List.getElem_toArray, List.getElem_cons_zero, List.getElem_cons_succ]
            refine wpAnyH_take (i := 1) (v := .bool false) rfl (by kernel_rfl) (by kernel_rfl) (by kernel_rfl) (fun _ _ _ h => h) (Or.inl ⟨by rfl, fun W hS => by clear hS hHeld; go_simp⟩) hHeld ?_
            try simp only [Act.put, List.setIfInBounds_toArray, List.set_cons_zero, List.set_cons_succ, List.getElem_toArray, List.getElem_cons_zero, List.getElem_cons_succ]
            refine wpAnyH_take (i := 2) (v := .bool false) rfl (by kernel_rfl) (by kernel_rfl) (by kernel_rfl) (fun _ _ _ h => h) (Or.inl ⟨by rfl, fun W hS => by clear hS hHeld; go_simp⟩) hHeld ?_
            try simp only [Act.put, List.setIfInBounds_toArray, List.set_cons_zero, List.set_cons_succ, List.getElem_toArray, List.getElem_cons_zero, List.getElem_cons_succ]
            refine wpAnyH_take (i := 3) (v := .slice A n c) rfl (by kernel_rfl) (by kernel_rfl) (by kernel_rfl) (fun _ _ _ h => h) (Or.inl ⟨by rfl, fun W hS => by clear hS hHeld; go_simp⟩) hHeld ?_
            try simp only [Act.put, List.setIfInBounds_toArray, List.set_cons_zero, List.set_cons_succ, List.getElem_toArray, List.getElem_cons_zero, List.getElem_cons_succ]
            refine wpAnyH_take (i := 4) (v := .slice B m d) rfl (by kernel_rfl) (by kernel_rfl) (by kernel_rfl) (fun _ _ _ h => h) (Or.inl ⟨by rfl, fun W hS => by clear hS hHeld; go_simp⟩) hHeld ?_
            try simp only [Act.put, List.setIfInBounds_toArray, List.set_cons_zero, List.set_cons_succ, List.getElem_toArray, List.getElem_cons_zero, List.getElem_cons_succ]
            refine wpAnyH_take (i := 5) (v := .int .u64 mask) rfl (by kernel_rfl) (by kernel_rfl) (by kernel_rfl) (fun _ _ _ h => h) (Or.inl ⟨by rfl, fun W hS => by clear hS hHeld; go_simp⟩) hHeld ?_
            try simp only [Act.put, List.setIfInBounds_toArray, List.set_cons_zero, List.set_cons_succ, List.getElem_toArray, List.getElem_cons_zero, List.getElem_cons_succ]
            refine wpAnyH_take (i := 6) (v := .agg #[.int .u64 g1, .int .u64 g2]) rfl (by kernel_rfl) (by kernel_rfl) (by kernel_rfl) (fun _ _ _ h => h) (Or.inl ⟨by rfl, fun W hS => by have hl := HGw.out.lt; have hk2 : ∀ j, W.cell? ⟨bx, j, none⟩ = wr.cell? ⟨bx, j, none⟩ := fun j => Below.cell hS hl; have z0 : W.cell? ⟨bx, 0, none⟩ = some (.int .u64 g1) := (hk2 0).trans (HGw.out.cell 0); have z1 : W.cell? ⟨bx, 1, none⟩ = some (.int .u64 g2) := (hk2 1).trans (HGw.out.cell 1); clear hk2 hl; clear hS hHeld; go_simp⟩) hHeld ?_
            try simp only [Act.put, List.setIfInBounds_toArray, List.set_cons_zero, List.set_cons_succ, List.getElem_toArray, List.getElem_cons_zero, List.getElem_cons_succ]
            refine wpAnyH_take (i := 8) (v := .int .i64 0) rfl (by kernel_rfl) (by kernel_rfl) (by kernel_rfl) (fun _ _ _ h => h) (Or.inl ⟨by rfl, fun W hS => by clear hS hHeld; go_simp⟩) hHeld ?_
            try simp only [Act.put, List.setIfInBounds_toArray, List.set_cons_zero, List.set_cons_succ, List.getElem_toArray, List.getElem_cons_zero, List.getElem_cons_succ]
            refine wpAnyH_ready (rs := [7]) (by kernel_rfl) (by simp) ?_
            refine AllReadyH.cons rfl (fun K hK => ?_) AllReadyH.nil
            try simp only [Act.put, List.setIfInBounds_toArray, List.set_cons_zero, List.set_cons_succ, List.getElem_toArray, List.getElem_cons_zero, List.getElem_cons_succ]
            go_simp
            go_at_call 12
            refine (HPC.out _ (HXc.out.step hHeld) (HQc.out.step hHeld)).mono ?_
            rintro e W1 ⟨rfl, hb⟩
            refine hK.out _ _ (Below.step hHeld hb) (fun hHeld2 => ?_)
            clear hK K hHeld
            have hHeld := hHeld2
            clear hHeld2
            try simp only [Act.put, List.setIfInBounds_toArray, List.set_cons_zero, List.set_cons_succ, List.getElem_toArray, List.getElem_cons_zero, List.getElem_cons_succ]
            clear hb
            refine wpAnyH_take (i := 9) (v := .bool false) rfl (by kernel_rfl) (by kernel_rfl) (by kernel_rfl) (fun _ _ _ h => h) (Or.inl ⟨by rfl, fun W hS => by clear hS hHeld; go_simp⟩) hHeld ?_
            try simp only [Act.put, List.setIfInBounds_toArray, List.set_cons_zero, List.set_cons_succ, List.getElem_toArray, List.getElem_cons_zero, List.getElem_cons_succ]
            refine wpAnyH_take (i := 10) (v := .bool false) rfl (by kernel_rfl) (by kernel_rfl) (by kernel_rfl) (fun _ _ _ h => h) (Or.inl ⟨by rfl, fun W hS => by clear hS hHeld; go_simp⟩) hHeld ?_
            try simp only [Act.put, List.setIfInBounds_toArray, List.set_cons_zero, List.set_cons_succ, List.getElem_toArray, List.getElem_cons_zero, List.getElem_cons_succ]
            refine wpAnyH_take (i := 11) (v := .bool false) rfl (by kernel_rfl) (by kernel_rfl) (by kernel_rfl) (fun _ _ _ h => h) (Or.inl ⟨by rfl, fun W hS => by clear hS hHeld; go_simp⟩) hHeld ?_
            try simp only [Act.put, List.setIfInBounds_toArray, List.set_cons_zero, List.set_cons_succ, List.getElem_toArray, List.getElem_cons_zero, List.getElem_cons_succ]
            refine wpAnyH_take (i := 12) (v := .int .i64 0) rfl (by kernel_rfl) (by kernel_rfl) (by kernel_rfl) (fun _ _ _ h => h) (Or.inl ⟨by rfl, fun W hS => by clear hS hHeld; go_simp⟩) hHeld ?_
            try simp only [Act.put, List.setIfInBounds_toArray, List.set_cons_zero, List.set_cons_succ, List.getElem_toArray, List.getElem_cons_zero, List.getElem_cons_succ]
            refine wpAnyH_take (i := 13) (v := .bool false) rfl (by kernel_rfl) (by kernel_rfl) (by kernel_rfl) (fun _ _ _ h => h) (Or.inl ⟨by rfl, fun W hS => by clear hS hHeld; go_simp⟩) hHeld ?_
            try simp only [Act.put, List.setIfInBounds_toArray, List.set_cons_zero, List.set_cons_succ, List.getElem_toArray, List.getElem_cons_zero, List.getElem_cons_succ]
            refine wpAnyH_take (i := 14) (v := .bool false) rfl (by kernel_rfl) (by kernel_rfl) (by kernel_rfl) (fun _ _ _ h => h) (Or.inl ⟨by rfl, fun W hS => by clear hS hHeld; go_simp⟩) hHeld ?_
            try simp only [Act.put, List.setIfInBounds_toArray, List.set_cons_zero, List.set_cons_succ, List.getElem_toArray, List.getElem_cons_zero, List.getElem_cons_succ]
            refine wpAnyH_take (i := 15) (v := undef) rfl (by kernel_rfl) (by kernel_rfl) (by kernel_rfl) (fun _ _ _ h => h) (Or.inr ⟨by rfl, rfl⟩) hHeld ?_
            try simp only [Act.put, List.setIfInBounds_toArray, List.set_cons_zero, List.set_cons_succ, List.getElem_toArray, List.getElem_cons_zero, List.getElem_cons_succ]
            refine wpAnyH_take (i := 16) (v := undef) rfl (by kernel_rfl) (by kernel_rfl) (by kernel_rfl) (fun _ _ _ h => h) (Or.inr ⟨by rfl, rfl⟩) hHeld ?_
            try simp only [Act.put, List.setIfInBounds_toArray, List.set_cons_zero, List.set_cons_succ, List.getElem_toArray, List.getElem_cons_zero, List.getElem_cons_succ]
            refine wpAnyH_take (i := 17) (v := undef) rfl (by kernel_rfl) (by kernel_rfl) (by kernel_rfl) (fun _ _ _ h => h) (Or.inr ⟨by rfl, rfl⟩) hHeld ?_
            try simp only [Act.put, List.setIfInBounds_toArray, List.set_cons_zero, List.set_cons_succ, List.getElem_toArray, List.getElem_cons_zero, List.getElem_cons_succ]
            refine wpAnyH_take (i := 18) (v := undef) rfl (by kernel_rfl) (by kernel_rfl) (by kernel_rfl) (fun _ _ _ h => h) (Or.inr ⟨by rfl, rfl⟩) hHeld ?_
            try simp only [Act.put, List.setIfInBounds_toArray, List.set_cons_zero, List.set_cons_succ, List.getElem_toArray, List.getElem_cons_zero, List.getElem_cons_succ]
            refine wpAnyH_take (i := 19) (v := undef) rfl (by kernel_rfl) (by kernel_rfl) (by kernel_rfl) (fun _ _ _ h => h) (Or.inr ⟨by rfl, rfl⟩) hHeld ?_
            try simp only [Act.put, List.setIfInBounds_toArray, List.set_cons_zero, List.set_cons_succ, List.getElem_toArray, List.getElem_cons_zero, List.getElem_cons_succ]
            refine wpAnyH_take (i := 20) (v := undef) rfl (by kernel_rfl) (by kernel_rfl) (by kernel_rfl) (fun _ _ _ h => h) (Or.inr ⟨by rfl, rfl⟩) hHeld ?_
            try simp only [Act.put, List.setIfInBounds_toArray, List.set_cons_zero, List.set_cons_succ, List.getElem_toArray, List.getElem_cons_zero, List.getElem_cons_succ]
            refine wpAnyH_take (i := 21) (v := undef) rfl (by kernel_rfl) (by kernel_rfl) (by kernel_rfl) (fun _ _ _ h => h) (Or.inr ⟨by rfl, rfl⟩) hHeld ?_
            try simp only [Act.put, List.setIfInBounds_toArray, List.set_cons_zero, List.set_cons_succ, List.getElem_toArray, List.getElem_cons_zero, List.getElem_cons_succ]
            refine wpAnyH_take (i := 22) (v := .bool false) rfl (by kernel_rfl) (by kernel_rfl) (by kernel_rfl) (fun _ _ _ h => h) (Or.inl ⟨by rfl, fun W hS => by clear hS hHeld; go_simp⟩) hHeld ?_
            try simp only [Act.put, List.setIfInBounds_toArray, List.set_cons_zero, List.set_cons_succ, List.getElem_toArray, List.getElem_cons_zero, List.getElem_cons_succ]
            refine wpAnyH_take (i := 23) (v := .bool false) rfl (by kernel_rfl) (by kernel_rfl) (by kernel_rfl) (fun _ _ _ h => h) (Or.inl ⟨by rfl, fun W hS => by clear hS hHeld; go_simp⟩) hHeld ?_
            try simp only [Act.put, List.setIfInBounds_toArray, List.set_cons_zero, List.set_cons_succ, List.getElem_toArray, List.getElem_cons_zero, List.getElem_cons_succ]
            refine wpAnyH_done (by kernel_rfl) ?_ _
            go_wp2
            go_roundw
            case rel => first | exact ⟨1, by omega, by go_num, hide (Below.step HSt.out hHeld)⟩ | exact ⟨_, _, _, _, _, _, ⟨1, by omega, by go_num, hide (Below.step HSt.out hHeld)⟩, rfl, rfl, rfl, rfl, rfl, rfl⟩
            case measure => simp [intOf]; omega
          · have bp : decide (((i + 1 : Nat) : Int) < (placeM (g1, g2) h : Nat)) = false := by have := HPl.out; exact decide_eq_false (by omega)
            have bp2 : decide ((i : Int) + 1 < (placeM (g1, g2) h : Nat)) = false := by have := HPl.out; exact decide_eq_false (by omega)
            have bq : decide ((0 : Int) < ((i + 1 : Nat) : Int)) = true := decide_eq_true (by omega)
            have bq2 : decide ((0 : Int) < (i : Int) + 1) = true := decide_eq_true (by omega)
            have gw : IntKind.i64.wrap (i : Int) = i := by simp [IntKind.wrap, IntKind.bits, IntKind.signed]; omega
            have u0 : (0 : Int) ≤ i := by omega
            have u1 : (i : Int) < ny := by omega
            obtain ⟨ad3, ⟨f1, f2⟩, e3, hb3, hv3, s0, s1⟩ := HYc.out.hcell (k := i) (by have := Hly.out; omega)
            injection e3 with e3
            subst e3
            have HQ := hide (And.intro s0 s1)
            have HP := hide (hits_step HPW.out (show h[i]? = some (f1, f2) by rw [List.getElem?_take, if_pos (by omega)] at hv3; exact hv3) HG.out)
            have HHC := hide (show ∀ W, Calls Try.prog 15 #[.agg #[.int .u64 g1, .int .u64 g2], .agg #[.int .u64 f1, .int .u64 f2]] W fun e w' => e = .returned (.bool false) ∧ Below W.heap.size W w' from fun W => by
              have h3 := hit_any (g1, g2) (f1, f2) W
              rw [HP.out] at h3; exact h3)
            clear s0 s1 hv3
            refine wp_region_held_drew (S := Below wr.heap.size wr) (by kernel_rfl) (Below.refl _ _).drew (fun hHeld => ?_)
            generalize World.drew _ = W0 at *
            refine wpAnyH_take (i := 0) (v := .bool true) rfl (by kernel_rfl) (by kernel_rfl) (by kernel_rfl) (fun _ _ _ h => h) (Or.inl ⟨by rfl, fun W hS => by clear hS hHeld; go_simp⟩) hHeld ?_
            try simp only [Act.put, List.setIfInBounds_toArray, List.set_cons_zero, List.set_cons_succ, List.getElem_toArray, List.getElem_cons_zero, List.getElem_cons_succ]
            refine wpAnyH_take (i := 1) (v := .bool false) rfl (by kernel_rfl) (by kernel_rfl) (by kernel_rfl) (fun _ _ _ h => h) (Or.inl ⟨by rfl, fun W hS => by clear hS hHeld; go_simp⟩) hHeld ?_
            try simp only [Act.put, List.setIfInBounds_toArray, List.set_cons_zero, List.set_cons_succ, List.getElem_toArray, List.getElem_cons_zero, List.getElem_cons_succ]
            refine wpAnyH_take (i := 2) (v := .bool false) rfl (by kernel_rfl) (by kernel_rfl) (by kernel_rfl) (fun _ _ _ h => h) (Or.inl ⟨by rfl, fun W hS => by clear hS hHeld; go_simp⟩) hHeld ?_
            try simp only [Act.put, List.setIfInBounds_toArray, List.set_cons_zero, List.set_cons_succ, List.getElem_toArray, List.getElem_cons_zero, List.getElem_cons_succ]
            refine wpAnyH_take (i := 3) (v := .slice A n c) rfl (by kernel_rfl) (by kernel_rfl) (by kernel_rfl) (fun _ _ _ h => h) (Or.inl ⟨by rfl, fun W hS => by clear hS hHeld; go_simp⟩) hHeld ?_
            try simp only [Act.put, List.setIfInBounds_toArray, List.set_cons_zero, List.set_cons_succ, List.getElem_toArray, List.getElem_cons_zero, List.getElem_cons_succ]
            refine wpAnyH_take (i := 4) (v := .slice B m d) rfl (by kernel_rfl) (by kernel_rfl) (by kernel_rfl) (fun _ _ _ h => h) (Or.inl ⟨by rfl, fun W hS => by clear hS hHeld; go_simp⟩) hHeld ?_
            try simp only [Act.put, List.setIfInBounds_toArray, List.set_cons_zero, List.set_cons_succ, List.getElem_toArray, List.getElem_cons_zero, List.getElem_cons_succ]
            refine wpAnyH_take (i := 5) (v := .int .u64 mask) rfl (by kernel_rfl) (by kernel_rfl) (by kernel_rfl) (fun _ _ _ h => h) (Or.inl ⟨by rfl, fun W hS => by clear hS hHeld; go_simp⟩) hHeld ?_
            try simp only [Act.put, List.setIfInBounds_toArray, List.set_cons_zero, List.set_cons_succ, List.getElem_toArray, List.getElem_cons_zero, List.getElem_cons_succ]
            refine wpAnyH_take (i := 6) (v := .agg #[.int .u64 g1, .int .u64 g2]) rfl (by kernel_rfl) (by kernel_rfl) (by kernel_rfl) (fun _ _ _ h => h) (Or.inl ⟨by rfl, fun W hS => by have hl := HGw.out.lt; have hk2 : ∀ j, W.cell? ⟨bx, j, none⟩ = wr.cell? ⟨bx, j, none⟩ := fun j => Below.cell hS hl; have z0 : W.cell? ⟨bx, 0, none⟩ = some (.int .u64 g1) := (hk2 0).trans (HGw.out.cell 0); have z1 : W.cell? ⟨bx, 1, none⟩ = some (.int .u64 g2) := (hk2 1).trans (HGw.out.cell 1); clear hk2 hl; clear hS hHeld; go_simp⟩) hHeld ?_
            try simp only [Act.put, List.setIfInBounds_toArray, List.set_cons_zero, List.set_cons_succ, List.getElem_toArray, List.getElem_cons_zero, List.getElem_cons_succ]
            refine wpAnyH_take (i := 8) (v := .int .i64 (i + 1 : Nat)) rfl (by kernel_rfl) (by kernel_rfl) (by kernel_rfl) (fun _ _ _ h => h) (Or.inl ⟨by rfl, fun W hS => by clear hS hHeld; go_simp⟩) hHeld ?_
            try simp only [Act.put, List.setIfInBounds_toArray, List.set_cons_zero, List.set_cons_succ, List.getElem_toArray, List.getElem_cons_zero, List.getElem_cons_succ]
            refine wpAnyH_ready (rs := [7]) (by kernel_rfl) (by simp) ?_
            refine AllReadyH.cons rfl (fun K hK => ?_) AllReadyH.nil
            try simp only [Act.put, List.setIfInBounds_toArray, List.set_cons_zero, List.set_cons_succ, List.getElem_toArray, List.getElem_cons_zero, List.getElem_cons_succ]
            go_simp
            go_at_call 12
            refine (HPC.out _ (HXc.out.step hHeld) (HQc.out.step hHeld)).mono ?_
            rintro e W1 ⟨rfl, hb⟩
            refine hK.out _ _ (Below.step hHeld hb) (fun hHeld2 => ?_)
            clear hK K hHeld
            have hHeld := hHeld2
            clear hHeld2
            try simp only [Act.put, List.setIfInBounds_toArray, List.set_cons_zero, List.set_cons_succ, List.getElem_toArray, List.getElem_cons_zero, List.getElem_cons_succ]
            clear hb
            refine wpAnyH_take (i := 9) (v := .bool false) rfl (by kernel_rfl) (by kernel_rfl) (by kernel_rfl) (fun _ _ _ h => h) (Or.inl ⟨by rfl, fun W hS => by clear hS hHeld; go_simp⟩) hHeld ?_
            try simp only [Act.put, List.setIfInBounds_toArray, List.set_cons_zero, List.set_cons_succ, List.getElem_toArray, List.getElem_cons_zero, List.getElem_cons_succ]
            refine wpAnyH_take (i := 10) (v := .bool false) rfl (by kernel_rfl) (by kernel_rfl) (by kernel_rfl) (fun _ _ _ h => h) (Or.inl ⟨by rfl, fun W hS => by clear hS hHeld; go_simp⟩) hHeld ?_
            try simp only [Act.put, List.setIfInBounds_toArray, List.set_cons_zero, List.set_cons_succ, List.getElem_toArray, List.getElem_cons_zero, List.getElem_cons_succ]
            refine wpAnyH_take (i := 11) (v := .bool false) rfl (by kernel_rfl) (by kernel_rfl) (by kernel_rfl) (fun _ _ _ h => h) (Or.inl ⟨by rfl, fun W hS => by clear hS hHeld; go_simp⟩) hHeld ?_
            try simp only [Act.put, List.setIfInBounds_toArray, List.set_cons_zero, List.set_cons_succ, List.getElem_toArray, List.getElem_cons_zero, List.getElem_cons_succ]
            refine wpAnyH_take (i := 12) (v := .int .i64 (i + 1 : Nat)) rfl (by kernel_rfl) (by kernel_rfl) (by kernel_rfl) (fun _ _ _ h => h) (Or.inl ⟨by rfl, fun W hS => by clear hS hHeld; go_simp⟩) hHeld ?_
            try simp only [Act.put, List.setIfInBounds_toArray, List.set_cons_zero, List.set_cons_succ, List.getElem_toArray, List.getElem_cons_zero, List.getElem_cons_succ]
            refine wpAnyH_take (i := 13) (v := .bool true) rfl (by kernel_rfl) (by kernel_rfl) (by kernel_rfl) (fun _ _ _ h => h) (Or.inl ⟨by rfl, fun W hS => by clear hS hHeld; go_simp⟩) hHeld ?_
            try simp only [Act.put, List.setIfInBounds_toArray, List.set_cons_zero, List.set_cons_succ, List.getElem_toArray, List.getElem_cons_zero, List.getElem_cons_succ]
            refine wpAnyH_take (i := 14) (v := .bool true) rfl (by kernel_rfl) (by kernel_rfl) (by kernel_rfl) (fun _ _ _ h => h) (Or.inl ⟨by rfl, fun W hS => by clear hS hHeld; go_simp⟩) hHeld ?_
            try simp only [Act.put, List.setIfInBounds_toArray, List.set_cons_zero, List.set_cons_succ, List.getElem_toArray, List.getElem_cons_zero, List.getElem_cons_succ]
            refine wpAnyH_take (i := 15) (v := .agg #[.int .u64 g1, .int .u64 g2]) rfl (by kernel_rfl) (by kernel_rfl) (by kernel_rfl) (fun _ _ _ h => h) (Or.inl ⟨by rfl, fun W hS => by have hl := HGw.out.lt; have hk2 : ∀ j, W.cell? ⟨bx, j, none⟩ = wr.cell? ⟨bx, j, none⟩ := fun j => Below.cell hS hl; have z0 : W.cell? ⟨bx, 0, none⟩ = some (.int .u64 g1) := (hk2 0).trans (HGw.out.cell 0); have z1 : W.cell? ⟨bx, 1, none⟩ = some (.int .u64 g2) := (hk2 1).trans (HGw.out.cell 1); clear hk2 hl; clear hS hHeld; go_simp⟩) hHeld ?_
            try simp only [Act.put, List.setIfInBounds_toArray, List.set_cons_zero, List.set_cons_succ, List.getElem_toArray, List.getElem_cons_zero, List.getElem_cons_succ]
            refine wpAnyH_take (i := 16) (v := .slice (some ad) ny cy) rfl (by kernel_rfl) (by kernel_rfl) (by kernel_rfl) (fun _ _ _ h => h) (Or.inl ⟨by rfl, fun W hS => by clear hS hHeld; go_simp⟩) hHeld ?_
            try simp only [Act.put, List.setIfInBounds_toArray, List.set_cons_zero, List.set_cons_succ, List.getElem_toArray, List.getElem_cons_zero, List.getElem_cons_succ]
            refine wpAnyH_take (i := 17) (v := .int .i64 (i + 1 : Nat)) rfl (by kernel_rfl) (by kernel_rfl) (by kernel_rfl) (fun _ _ _ h => h) (Or.inl ⟨by rfl, fun W hS => by clear hS hHeld; go_simp⟩) hHeld ?_
            try simp only [Act.put, List.setIfInBounds_toArray, List.set_cons_zero, List.set_cons_succ, List.getElem_toArray, List.getElem_cons_zero, List.getElem_cons_succ]
            refine wpAnyH_take (i := 18) (v := .int .i64 i) rfl (by kernel_rfl) (by kernel_rfl) (by kernel_rfl) (fun _ _ _ h => h) (Or.inl ⟨by rfl, fun W hS => by clear hS hHeld; go_simp⟩) hHeld ?_
            try simp only [Act.put, List.setIfInBounds_toArray, List.set_cons_zero, List.set_cons_succ, List.getElem_toArray, List.getElem_cons_zero, List.getElem_cons_succ]
            refine wpAnyH_take (i := 19) (v := .pointer (some (ad.add (i * 2)))) rfl (by kernel_rfl) (by kernel_rfl) (by kernel_rfl) (fun _ _ _ h => h) (Or.inl ⟨by rfl, fun W hS => by clear hS hHeld; go_simp⟩) hHeld ?_
            try simp only [Act.put, List.setIfInBounds_toArray, List.set_cons_zero, List.set_cons_succ, List.getElem_toArray, List.getElem_cons_zero, List.getElem_cons_succ]
            refine wpAnyH_take (i := 20) (v := .agg #[.int .u64 f1, .int .u64 f2]) rfl (by kernel_rfl) (by kernel_rfl) (by kernel_rfl) (fun _ _ _ h => h) (Or.inl ⟨by rfl, fun W hS => by have hk2 : ∀ p : Addr, p.block < wr.heap.size → W.cell? p = wr.cell? p := fun p hp => Below.cell hS hp; have z0 := (hk2 (ad.add (i * 2)) (by rw [block_of_add]; exact hb3)).trans HQ.out.1; have z1 := (hk2 ⟨(ad.add (i * 2)).block, (ad.add (i * 2)).off + 1, none⟩ (by show (ad.add (i * 2)).block < _; rw [block_of_add]; exact hb3)).trans HQ.out.2; clear hk2; clear hS hHeld; go_simp⟩) hHeld ?_
            try simp only [Act.put, List.setIfInBounds_toArray, List.set_cons_zero, List.set_cons_succ, List.getElem_toArray, List.getElem_cons_zero, List.getElem_cons_succ]
            refine wpAnyH_ready (rs := [21]) (by kernel_rfl) (by simp) ?_
            refine AllReadyH.cons rfl (fun K hK => ?_) AllReadyH.nil
            try simp only [Act.put, List.setIfInBounds_toArray, List.set_cons_zero, List.set_cons_succ, List.getElem_toArray, List.getElem_cons_zero, List.getElem_cons_succ]
            go_simp
            go_at_call 15
            refine (HHC.out _).mono ?_
            rintro e W2 ⟨rfl, hb⟩
            refine hK.out _ _ (Below.step hHeld hb) (fun hHeld2 => ?_)
            clear hK K hHeld
            have hHeld := hHeld2
            clear hHeld2
            try simp only [Act.put, List.setIfInBounds_toArray, List.set_cons_zero, List.set_cons_succ, List.getElem_toArray, List.getElem_cons_zero, List.getElem_cons_succ]
            clear hb
            refine wpAnyH_take (i := 22) (v := .bool false) rfl (by kernel_rfl) (by kernel_rfl) (by kernel_rfl) (fun _ _ _ h => h) (Or.inl ⟨by rfl, fun W hS => by clear hS hHeld; go_simp⟩) hHeld ?_
            try simp only [Act.put, List.setIfInBounds_toArray, List.set_cons_zero, List.set_cons_succ, List.getElem_toArray, List.getElem_cons_zero, List.getElem_cons_succ]
            refine wpAnyH_take (i := 23) (v := .bool false) rfl (by kernel_rfl) (by kernel_rfl) (by kernel_rfl) (fun _ _ _ h => h) (Or.inl ⟨by rfl, fun W hS => by clear hS hHeld; go_simp⟩) hHeld ?_
            try simp only [Act.put, List.setIfInBounds_toArray, List.set_cons_zero, List.set_cons_succ, List.getElem_toArray, List.getElem_cons_zero, List.getElem_cons_succ]
            refine wpAnyH_done (by kernel_rfl) ?_ _
            go_wp2
            go_roundw
            case rel => first | exact ⟨i + 1 + 1, by omega, by go_num, hide (Below.step HSt.out hHeld)⟩ | exact ⟨_, _, _, _, _, _, ⟨i + 1 + 1, by omega, by go_num, hide (Below.step HSt.out hHeld)⟩, rfl, rfl, rfl, rfl, rfl, rfl⟩
            case measure => simp [intOf]; omega
    · obtain rfl : j = ny := by omega
      have HX8 := hide (HX.out.step HB.out)
      have HY8 := hide (HY.out.step HB.out)
      have HRy8 := hide (HRy.out.step HB.out)
      have HW8 := hide (Below.step HW.out HB.out)
      clear HX HY HRy HW HB
      generalize wr = w8 at *
      go_upto_region 22 with fail
      go_loopw [18, 19, 129] (fun v _ i wr => ∃ (t : Nat) (cs : List Value), t ≤ n ∧ i = .int .i64 t ∧ Hid (wr.ownsRow w8.heap.size 36 3 v t cs) ∧ Hid (RowI w8 w8.heap.size (l.reverse.take t) cs) ∧ Hid (Below w8.heap.size w8 wr)) (fun _ _ i _ => n - (intOf i).toNat)
      case atStart => exact ⟨0, [], by omega, rfl, hide ⟨rfl, .inl ⟨rfl, rfl⟩⟩, hide (by simpa using RowI.nil w8 w8.heap.size), hide (Below.refl _ _)⟩
      case round =>
        obtain ⟨t, cs, ht, rfl, HO, HRow, HB⟩ := hrel
        by_cases htl : t < n
        · obtain ⟨ad, ⟨id, vec, tags⟩, V, cv, e2, hb8, hv, r0, r1, r2, hcv, hcm, hR⟩ := RdR.itcell HX8.out (k := n - 1 - t) (by have := Hn.out; omega)
          subst e2
          simp only at r0 r1 r2
          have z0 := (HB.out.cell (p := ad.add ((n - 1 - t) * 3)) (by rw [block_of_add]; exact hb8)).trans r0
          have z1 := (HB.out.cell (p := ⟨(ad.add ((n - 1 - t) * 3)).block, (ad.add ((n - 1 - t) * 3)).off + 1, none⟩) (by show (ad.add ((n - 1 - t) * 3)).block < _; rw [block_of_add]; exact hb8)).trans r1
          have z2 := (HB.out.cell (p := ⟨(ad.add ((n - 1 - t) * 3)).block, (ad.add ((n - 1 - t) * 3)).off + 2, none⟩) (by show (ad.add ((n - 1 - t) * 3)).block < _; rw [block_of_add]; exact hb8)).trans r2
          have HRow1 := hide (show RowI w8 w8.heap.size (l.reverse.take (t + 1)) (cs ++ [.int .u64 id, .slice V vec.length cv, .int .u64 tags]) by
            rw [take_snoc (x := (id, vec, tags)) ((rev_at Hn.out htl).trans hv)]
            exact HRow.out.snoc (item_rd (x := (id, vec, tags)) hcv hcm hR))
          clear r0 r1 r2 hv hR
          obtain ⟨s, hs⟩ : ∃ s, s = n - 1 - t := ⟨_, rfl⟩
          rw [← hs] at z0 z1 z2
          have s1 : IntKind.i64.wrap ((n : Int) - 1) = (n : Int) - 1 := by simp [IntKind.wrap, IntKind.bits, IntKind.signed]; omega
          have s2 : IntKind.i64.wrap ((n : Int) - 1 - (t : Int)) = (s : Int) := by simp [IntKind.wrap, IntKind.bits, IntKind.signed]; omega
          have s3 : (0 : Int) ≤ s := by omega
          have s4 : (s : Int) < n := by omega
          clear hs
          go_wp2_with (at_builtin; refine wpList_append_elem rfl _ _ 22 rfl w8.heap.size Try.underlying22 info_item rfl (by decide) _ t cs rfl HO.out _ _ rfl rfl (by simp [Value.oneCell']) (by simp only [maxLen]; omega) (by omega) HB.out.size ?_; intro v' w9 hown9 hgr9 _; have HO9 := hide hown9; have HB9 := hide (below_own HB.out HO.out HB.out.size hgr9); clear hown9 hgr9)
          go_roundw
          case rel => exact ⟨t + 1, cs ++ [.int .u64 id, .slice V vec.length cv, .int .u64 tags], by omega, by go_num, HO9, HRow1, HB9⟩
          case measure => simp [intOf]; omega
        · obtain rfl : t = n := by omega
          obtain ⟨Ab, cb, hvb, hcb, hmb⟩ := own_form HO.out
          subst hvb
          have HBo := HB
          have HBk := hide (show Rd SItem wr wr.heap.size Ab l.reverse from by
            have h1 := HRow.out
            rw [List.take_of_length_le (by rw [List.length_reverse]; have := Hn.out; omega)] at h1
            exact h1.rd (Nat.le_refl _) HB.out HO.out)
          clear HO HRow HB
          rcases Nat.eq_zero_or_pos j with h0 | h0
          · subst h0
            have HBz := hide (Below.refl wr.heap.size wr)
            have HKS := hide (show ∀ W, Rd SItem W W.heap.size Ab l.reverse → Rd (Sh.int .i32) W W.heap.size B q → Calls Try.prog 8 #[.slice Ab t cb, .slice B m d, .int .u64 mask, .int .i64 (max a b)] W fun e w' => ∃ v, e = .returned v ∧ NewL SH W (h.take 0) v w' from fun W h1 h2 => by
              have h3 := search_any Ab B t cb m d l.reverse q mask (max a b) W h1 (by rw [List.length_reverse, Hn.out]) (fun it hit => HXI.out it (by simpa using hit)) hcb hmb h2 Hm.out HYI.out hd hm' (by omega)
              rw [HREV.out, HEY.out] at h3; exact h3)
            go_wp2_with fail
            refine (HKS.out _ (HBk.out.step HBz.out) (HY8.out.step (Below.step HBo.out HBz.out))).mono ?_
            rintro e w20 ⟨v, rfl, hN⟩
            obtain ⟨Az, nz, cz, rfl, hlz, hcz, hmz, hrz, hb⟩ := hN
            have HRz := hide (hrz.rd (B := w20.heap.size) fun b hb => hb.2)
            have HLz := hide hlz
            have HB20 := hide (Below.step (Below.step HBo.out HBz.out) hb)
            clear hrz hlz hb
            go_wp2_with fail
            refine (sameHits_any Az Ay nz cz 0 cy (h.take 0) (h.take 0) w20 HRz.out HLz.out hcz hmz (HRy8.out.step HB20.out) Hly.out hcy hmy).mono ?_
            rintro e w21 ⟨rfl, hd⟩
            have hb := hd.below
            rw [decide_eq_true (rfl : h.take 0 = h.take 0)]
            clear hd
            go_wp2
            go_ret
            exact ⟨rfl, Below.step (Below.step HW8.out HB20.out) hb⟩
          · obtain ⟨i, rfl⟩ : ∃ i, j = i + 1 := ⟨j - 1, by omega⟩
            have bq : decide ((0 : Int) < ((i + 1 : Nat) : Int)) = true := decide_eq_true (by omega)
            have bq2 : decide ((0 : Int) < (i : Int) + 1) = true := decide_eq_true (by omega)
            have gw : IntKind.i64.wrap (i : Int) = i := by simp [IntKind.wrap, IntKind.bits, IntKind.signed]; omega
            have u0 : (0 : Int) ≤ i := by omega
            have u1 : (i : Int) < (i + 1 : Nat) := by omega
            obtain ⟨ad3, ⟨f1, f2⟩, e3, hb3, hv3, s0, s1⟩ := (HRy8.out.step HBo.out).hcell (k := i) (by have := Hly.out; omega)
            subst e3
            simp only at s0 s1
            have HNr := hide (near_long HPW.out (show h[i]? = some (f1, f2) by rw [List.getElem?_take, if_pos (by omega)] at hv3; exact hv3))
            clear hv3
            have HKW := hide (show ∀ W, Rd SItem W W.heap.size A l → Rd (Sh.int .i32) W W.heap.size B q → Calls Try.prog 10 #[.slice A t c, .slice B m d, .int .u64 mask, .int .u64 f1] W fun e w' => ∃ v, e = .returned v ∧ NewL SH W (nearM f1 h) v w' from fun W h1 h2 => by
              have h3 := within_any A B t c m d l q mask f1 W h1 Hn.out HXI.out hc hm h2 Hm.out HYI.out hd hm' (by omega)
              rw [HH.out] at h3; exact h3)
            go_wp2_with fail
            refine (HKW.out wr (HX8.out.step HBo.out) (HY8.out.step HBo.out)).mono ?_
            rintro e w10 ⟨v, rfl, hN⟩
            obtain ⟨Aw, nw, cw, rfl, hlw, hcw, hmw, hrw, hb⟩ := hN
            have HRw := hide (hrw.rd (B := w10.heap.size) fun b hb => hb.2)
            have HLw := hide hlw
            have HB10 := hide hb
            clear hrw hb s0 s1
            have hnw : i + 1 ≤ nw := by have := HNr.out.1; omega
            have bw : decide ((nw : Int) < ((i + 1 : Nat) : Int)) = false := decide_eq_false (by omega)
            have bw2 : decide ((nw : Int) < (i : Int) + 1) = false := decide_eq_false (by omega)
            have hiw : i + 1 ≤ cw := by omega
            have HTk := hide (show decide ((nearM f1 h).take (i + 1) = h.take (i + 1)) = true from decide_eq_true HNr.out.2)
            clear hlw
            go_upto_region 30 with (go_at_call 7; refine (sameHits_any Aw (some ad3) (i + 1) cw (i + 1) cy ((nearM f1 h).take (i + 1)) (h.take (i + 1)) w10 (HRw.out.take _) (by rw [List.length_take, HLw.out]; omega) hiw hmw (HRy8.out.step (Below.step HBo.out HB10.out)) Hly.out hcy hmy).mono ?_; rintro e w11 ⟨rfl, hd⟩; rw [HTk.out]; have HBz := hide (Below.step HB10.out hd.below); clear hd)
            generalize some ad3 = Ay at *
            have HKS := hide (show ∀ W, Rd SItem W W.heap.size Ab l.reverse → Rd (Sh.int .i32) W W.heap.size B q → Calls Try.prog 8 #[.slice Ab t cb, .slice B m d, .int .u64 mask, .int .i64 (max a b)] W fun e w' => ∃ v, e = .returned v ∧ NewL SH W (h.take (i + 1)) v w' from fun W h1 h2 => by
              have h3 := search_any Ab B t cb m d l.reverse q mask (max a b) W h1 (by rw [List.length_reverse, Hn.out]) (fun it hit => HXI.out it (by simpa using hit)) hcb hmb h2 Hm.out HYI.out hd hm' (by omega)
              rw [HREV.out, HEY.out] at h3; exact h3)
            go_wp2_with fail
            refine (HKS.out _ (HBk.out.step HBz.out) (HY8.out.step (Below.step HBo.out HBz.out))).mono ?_
            rintro e w20 ⟨v, rfl, hN⟩
            obtain ⟨Az, nz, cz, rfl, hlz, hcz, hmz, hrz, hb⟩ := hN
            have HRz := hide (hrz.rd (B := w20.heap.size) fun b hb => hb.2)
            have HLz := hide hlz
            have HB20 := hide (Below.step (Below.step HBo.out HBz.out) hb)
            clear hrz hlz hb
            go_wp2_with fail
            refine (sameHits_any Az Ay nz cz (i + 1) cy (h.take (i + 1)) (h.take (i + 1)) w20 HRz.out HLz.out hcz hmz (HRy8.out.step HB20.out) Hly.out hcy hmy).mono ?_
            rintro e w21 ⟨rfl, hd⟩
            have hb := hd.below
            rw [decide_eq_true (rfl : h.take (i + 1) = h.take (i + 1))]
            clear hd
            go_wp2
            go_ret
            exact ⟨rfl, Below.step (Below.step HW8.out HB20.out) hb⟩
end Go.Proofs.Ytclpmpikeadnpaa
