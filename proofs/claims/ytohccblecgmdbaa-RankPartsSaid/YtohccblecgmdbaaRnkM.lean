/-
  The package rank: slices.Compact at hits. Conditions: the row is the call's own; at most a million hits.
-/
import Derived.Test.YtohccblecgmdbaaRnkL
namespace Go.Proofs.Ytohccblecgmdbaa
open Go.RowKit

set_option maxHeartbeats 4000000 in
theorem compact2_any (base g n cap : Nat) (t : List Hit) (w : World) (hR : RowH w base g n cap t) (h2 : 2 ≤ n) (h6 : n ≤ 1000000) (hm : cap ≤ 9223372036854775807) :
    Calls Try.prog 26 #[.slice (some ⟨g, 0, none⟩) n cap] w fun e w' =>
      e = .returned (.slice (some ⟨g, 0, none⟩) (dd t).length cap) ∧ (∀ R : Nat → Prop, R g → RdR SH w' R (some ⟨g, 0, none⟩) (dd t)) ∧ Below g w w' := by
  have hgl := hR.lt
  have hnc : n ≤ cap := by obtain ⟨_, _, _, _, _, h, _⟩ := hR.blk; exact h
  have HR := hide hR
  have Hn := hide hR.len
  have HD1 := hide (dd_one t)
  clear hR
  go_enter Try.func26, Try.ntmps26
  go_wp2
  go_loopw [3] (fun s3 wr => ∃ k : Nat, k + 1 ≤ n ∧ s3 = .int .i64 (k + 1 : Nat) ∧ Hid (dd (t.take (k + 1)) = t.take (k + 1)) ∧ Drew w wr) (fun s3 _ => n - (intOf s3).toNat)
  case atStart => exact ⟨0, by omega, rfl, HD1, Drew.refl _⟩
  case round =>
    obtain ⟨k, hk, rfl, HD, j, rfl⟩ := hrel
    by_cases hlt : k + 1 < n
    · obtain ⟨⟨x1, x2⟩, hv⟩ : ∃ v, t[k]? = some v := ⟨_, List.getElem?_eq_getElem (by have := Hn.out; omega)⟩
      obtain ⟨⟨y1, y2⟩, hu⟩ : ∃ v, t[k + 1]? = some v := ⟨_, List.getElem?_eq_getElem (by have := Hn.out; omega)⟩
      have q0 : w.cell? ⟨g, k * 2, none⟩ = some (.int .u64 x1) := (HR.out.cells hv).1
      have q1 : w.cell? ⟨g, k * 2 + 1, none⟩ = some (.int .u64 x2) := (HR.out.cells hv).2
      have r0 : w.cell? ⟨g, (k + 1) * 2, none⟩ = some (.int .u64 y1) := (HR.out.cells hu).1
      have r1 : w.cell? ⟨g, (k + 1) * 2 + 1, none⟩ = some (.int .u64 y2) := (HR.out.cells hu).2
      have HV := hide hv
      have HU := hide hu
      have g0 : (0 : Int) ≤ k := by omega
      have g1 : (k : Int) < n := by omega
      have g2 : (k : Int) + 1 < n := by omega
      have g3 : ¬ ((k : Int) + 1 < 0) := by omega
      have g4 : (0 : Int) ≤ (k : Int) + 1 := by omega
      have gw : IntKind.i64.wrap (k : Int) = k := by simp [IntKind.wrap, IntKind.bits, IntKind.signed]; omega
      clear hv hu
      by_cases e : ((x1, x2) : Hit) = (y1, y2)
      · have he := run_eql_hit y1 y2 x1 x2 (hit_same e.symm)
        have HC := hide (CI.start HV.out (e ▸ HU.out) HD.out)
        clear e HD
        go_upto_region 6 with fail
        go_quiet (fail)
        go_wp2
        go_loopw [3, 5] (fun s3 s5 wr => ∃ (i q : Nat) (l : List Hit), s3 = .int .i64 i ∧ s5 = .int .i64 (q + 1 : Nat) ∧ k + 1 + (q + 1) ≤ n ∧ i < k + 1 + (q + 1) ∧ Hid (CI t (k + 1 + q + 1) i l) ∧ Hid (RowH wr base g n cap l) ∧ Hid (Below g w wr)) (fun _ s5 _ => n - (intOf s5).toNat)
        case atStart => exact ⟨k + 1, 0, t, rfl, rfl, by omega, by omega, HC, hide (HR.out.below (below_drewN (Below.refl w.heap.size w) _) hgl), hide (below_drewN (Below.refl g w) _)⟩
        case round =>
          obtain ⟨i, q, l, rfl, rfl, hq, hi, HI, HRw, HBw⟩ := hrel
          have hll := HRw.out.len
          have HL := hide hll
          clear q0 q1 r0 r1 he
          by_cases hlq : k + 1 + (q + 1) < n
          · obtain ⟨⟨u1, u2⟩, hu⟩ : ∃ v, l[k + 1 + q]? = some v := ⟨_, List.getElem?_eq_getElem (by omega)⟩
            obtain ⟨⟨v1, v2⟩, hv⟩ : ∃ v, l[k + 1 + q + 1]? = some v := ⟨_, List.getElem?_eq_getElem (by omega)⟩
            obtain ⟨⟨z1, z2⟩, hz⟩ : ∃ v, l[i]? = some v := ⟨_, List.getElem?_eq_getElem (by omega)⟩
            have q0 : wr.cell? ⟨g, (k + 1) * 2 + q * 2, none⟩ = some (.int .u64 u1) := by have h := (HRw.out.cells hu).1; rwa [show (k + 1 + q) * 2 = (k + 1) * 2 + q * 2 by omega] at h
            have q1 : wr.cell? ⟨g, (k + 1) * 2 + q * 2 + 1, none⟩ = some (.int .u64 u2) := by have h := (HRw.out.cells hu).2; rwa [show (k + 1 + q) * 2 = (k + 1) * 2 + q * 2 by omega] at h
            have r0 : wr.cell? ⟨g, (k + 1) * 2 + (q + 1) * 2, none⟩ = some (.int .u64 v1) := by have h := (HRw.out.cells hv).1; rwa [show (k + 1 + q + 1) * 2 = (k + 1) * 2 + (q + 1) * 2 by omega] at h
            have r1 : wr.cell? ⟨g, (k + 1) * 2 + (q + 1) * 2 + 1, none⟩ = some (.int .u64 v2) := by have h := (HRw.out.cells hv).2; rwa [show (k + 1 + q + 1) * 2 = (k + 1) * 2 + (q + 1) * 2 by omega] at h
            have d0 : wr.cell? ⟨g, i * 2, none⟩ = some (.int .u64 z1) := (HRw.out.cells hz).1
            have d1 : wr.cell? ⟨g, i * 2 + 1, none⟩ = some (.int .u64 z2) := (HRw.out.cells hz).2
            have f0 := HRw.out.frozen (i * 2)
            have f1 := HRw.out.frozen (i * 2 + 1)
            have HV := hide hv
            have HU := hide hu
            have p0 : (0 : Int) ≤ q := by omega
            have p1 : (q : Int) < (n - (k + 1) : Nat) := by omega
            have p2 : (q : Int) + 1 < (n - (k + 1) : Nat) := by omega
            have p3 : ¬ ((q : Int) + 1 < 0) := by omega
            have p4 : (0 : Int) ≤ (q : Int) + 1 := by omega
            have pw : IntKind.i64.wrap (q : Int) = q := by simp [IntKind.wrap, IntKind.bits, IntKind.signed]; omega
            clear hv hu hz
            by_cases e : ((u1, u2) : Hit) = (v1, v2)
            · have he := run_neq_hit v1 v2 u1 u2 (hit_same e.symm)
              have HE := hide (HI.out.skip HU.out (e ▸ HV.out))
              clear e
              go_upto_region 11 with fail
              go_quiet (fail)
              go_wp2
              go_roundw
              case rel => exact ⟨i, q + 1, l, rfl, by go_num, by omega, by omega, HE, hide (HRw.out.below (below_drewN (Below.refl wr.heap.size wr) _) HRw.out.lt), hide (below_drewN HBw.out _)⟩
              case measure => simp [intOf]; omega
            · have he := run_neq_hit v1 v2 u1 u2 (hit_other (Ne.symm e))
              have HE := hide (HI.out.keep HU.out HV.out e)
              have w0 : (0 : Int) ≤ i := by omega
              have w1 : (i : Int) < n := by omega
              clear e
              go_upto_region 11 with fail
              go_quiet (fail)
              go_wp2
              go_roundw
              case rel => exact ⟨i + 1, q + 1, l.set i (v1, v2), by go_num, by go_num, by omega, by omega, HE, hide ((HRw.out.below (below_drewN (Below.refl wr.heap.size wr) _) HRw.out.lt).set (by omega) (v1, v2)), hide (((below_drewN HBw.out _).setCell (Nat.le_refl _) _).setCell (Nat.le_refl _) _)⟩
              case measure => simp [intOf]; omega
          · have hq2 : k + 1 + (q + 1) = n := by omega
            have hin : i < n := by omega
            obtain ⟨w7, hw7, h7, hb7⟩ := HRw.out.clear hin 0 (cap - i)
            have HL := hide (show dd t = l.take i by rw [HI.out.2.2.2.1, List.take_of_length_le (by have := Hn.out; omega)])
            have hi' : (i : Int) ≤ n := by omega
            have H7 := hide h7
            have HB7 := hide (HBw.out.trans hb7)
            have p2 : ¬ ((q : Int) + 1 < (n - (k + 1) : Nat)) := by omega
            clear h7 hb7
            go_wp2
            go_ret
            exact ⟨by rw [HL.out, List.length_take, hll, Nat.min_eq_left (Nat.le_of_lt hin)]; rfl, fun R hr => by rw [HL.out]; exact H7.out R hr, HB7.out⟩
      · have he := run_eql_hit y1 y2 x1 x2 (hit_other (Ne.symm e))
        have HE := hide (show dd (t.take (k + 1 + 1)) = t.take (k + 1 + 1) by rw [dd_next HV.out HU.out, if_neg e, HD.out, ← take_snoc HU.out])
        clear e HD
        go_upto_region 6 with fail
        go_quiet (fail)
        go_wp2
        go_roundw
        case rel => exact ⟨k + 1, by omega, by go_num, HE, by first | exact ⟨_, rfl⟩ | exact drewN_drewN' _ _ _⟩
        case measure => simp [intOf]; omega
    · obtain rfl : k + 1 = n := by omega
      have HE := hide (show dd t = t by have h := HD.out; rwa [List.take_of_length_le (by have := Hn.out; omega)] at h)
      have hg1 : ¬ ((k : Int) + 1 < ((k + 1 : Nat) : Int)) := by omega
      go_wp2
      go_ret
      refine ⟨by rw [HE.out, Hn.out]; rfl, fun R hr => by rw [HE.out]; exact (HR.out.below (below_drewN (Below.refl w.heap.size w) j) hgl).rdr hr, below_drewN (Below.refl g w) j⟩
end Go.Proofs.Ytohccblecgmdbaa
