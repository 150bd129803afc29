/-
  The package recall: how many were found: the document's; by how much what was found is farther: both. Conditions: the slices read as lists of hits.
-/
import Derived.Test.YtojanklgjdjniaaRecC
import Derived.Laws.Externs
import Derived.Deep.RegionLaw
namespace Go.Proofs.Ytojanklgjdjniaa
open Go.RowKit

/-- how many of the truth were found -/
def cntR (f t : List Hit) : Nat := (t.filter fun h => decide (h ∈ f)).length
theorem cntR_snoc {f t : List Hit} {k : Nat} {x : Hit} (h : t[k]? = some x) : cntR f (t.take (k + 1)) = cntR f (t.take k) + if x ∈ f then 1 else 0 := by
  unfold cntR
  rw [take_snoc h, List.filter_append, List.length_append]
  by_cases e : x ∈ f
  · rw [if_pos e, List.filter_cons_of_pos (by simpa using e)]; simp
  · rw [if_neg e, List.filter_cons_of_neg (by simpa using e)]; simp
theorem cntR_le (f t : List Hit) : cntR f t ≤ t.length := List.length_filter_le _ _
set_option maxHeartbeats 2000000 in
theorem refRCount_any (A B : Option Addr) (n c m d : Nat) (f t : List Hit) (k : Int) (w : World) (hx : Rd SH w w.heap.size A f) (hn : f.length = n) (hc : n ≤ c) (hm : c ≤ 9223372036854775807)
    (hy : Rd SH w w.heap.size B t) (hn' : t.length = m) (hd : m ≤ d) (hm' : d ≤ 9223372036854775807) :
    Calls Try.prog 6 #[.slice A n c, .slice B m d, .int .i64 k] w fun e w' => e = .returned (.tuple #[.int .i64 (cntR (f.take (fstN k n)) (t.take (fstN k m)) : Nat), .int .i64 (fstN k m : Nat)]) ∧ Below w.heap.size w w' := by
  have HX := hide hx
  have HY := hide hy
  have Hn := hide hn
  have Hm := hide hn'
  have F1 := fun W => refFirst_any A n c k W hc hm
  have F2 := fun W => refFirst_any B m d k W hd hm'
  have HPl := hide (show (f.take (fstN k n)).length = fstN k n by rw [List.length_take]; have := fstN_le k n; omega)
  have HQl := hide (show (t.take (fstN k m)).length = fstN k m by rw [List.length_take]; have := fstN_le k m; omega)
  have hpn := fstN_le k n
  have hqm := fstN_le k m
  generalize fstN k n = p at *
  generalize fstN k m = q at *
  clear hx hy hn hn'
  go_enter Try.func6, Try.ntmps6
  go_upto_region 3 with (go_at_call 18; refine (F2 _).mono ?_; rintro e w1 ⟨rfl, rfl⟩)
  go_loopw [8, 10, 15] (fun u _ i wr => ∃ j : Nat, j ≤ q ∧ i = .int .i64 j ∧ u = .int .i64 (cntR (f.take p) (t.take j) : Nat) ∧ Hid (Below w.heap.size w wr)) (fun _ _ i _ => q - (intOf i).toNat)
  case atStart => exact ⟨0, by omega, rfl, rfl, hide (Below.refl _ _)⟩
  case round =>
    obtain ⟨j, hj, rfl, rfl, hB⟩ := hrel
    by_cases hlt : j < q
    · obtain ⟨ad, ⟨x1, x2⟩, rfl, _, hv, q0, q1⟩ := (HY.out.below hB.out (Nat.le_refl _)).hcell (k := j) (by have := Hm.out; omega)
      simp only at q0 q1
      have g0 : (0 : Int) ≤ j := by omega
      have g1 : (j : Int) < q := by omega
      have HB1 := hide (hB.out.trans ((below1 wr (.cells #[.int .u64 x1, .int .u64 x2] 35)).mono hB.out.size))
      have HN := hide (Blk.new wr 35 #[.int .u64 x1, .int .u64 x2])
      have HSn := hide (cntR_snoc (f := f.take p) hv)
      have hcl : cntR (f.take p) (t.take j) < q := by have := cntR_le (f.take p) (t.take j); rw [List.length_take] at this; omega
      have Hq63 := hide (show q ≤ 9223372036854775807 by omega)
      clear hv
      go_upto_region 5 with fail
      generalize wr.alloc (.cells #[.int .u64 x1, .int .u64 x2] 35) = w2 at *
      have HP := hide (((HX.out.below HB1.out (Nat.le_refl _)).more HB1.out.size).take p)
      have z0 : w2.cell? ⟨wr.heap.size, 0, none⟩ = some (.int .u64 x1) := HN.out.cell 0
      have z1 : w2.cell? ⟨wr.heap.size, 1, none⟩ = some (.int .u64 x2) := HN.out.cell 1
      generalize wr.heap.size = bx at *
      generalize hCn : cntR (f.take p) (t.take j) = u at *
      have HCn := hide hCn
      clear hCn
      by_cases e : (x1, x2) ∈ f.take p
      · rw [if_pos e] at HSn
        have HC := hide (fun W (h : Rd SH W W.heap.size A (f.take p)) => has_any A p c (f.take p) x1 x2 W h HPl.out (by omega) hm)
        rw [decide_eq_true e] at HC
        have hw1 : IntKind.i64.wrap ((u : Int) + 1) = ((u + 1 : Nat) : Int) := by rw [IntKind.wrap_i64]; have := Hq63.out; omega
        clear e
        go_region_law (first
          | (go_simp; go_at_call 18; refine (F1 _).mono ?_; rintro e w5 ⟨rfl, rfl⟩)
          | (go_simp; go_at_call 19; refine (HC.out _ HP.out.drew).mono ?_; rintro e w6 ⟨rfl, hb⟩; have HB6 := hide (HB1.out.drew.trans (hb.mono HB1.out.size)); clear hb))
        all_goals
          go_wp2
          refine ⟨⟨j + 1, by omega, by go_num, by rw [HSn.out]; go_num, HB6⟩, ?_⟩
          simp [intOf]; omega
      · rw [if_neg e] at HSn
        have HC := hide (fun W (h : Rd SH W W.heap.size A (f.take p)) => has_any A p c (f.take p) x1 x2 W h HPl.out (by omega) hm)
        rw [decide_eq_false e] at HC
        clear e
        go_region_law (first
          | (go_simp; go_at_call 18; refine (F1 _).mono ?_; rintro e w5 ⟨rfl, rfl⟩)
          | (go_simp; go_at_call 19; refine (HC.out _ HP.out.drew).mono ?_; rintro e w6 ⟨rfl, hb⟩; have HB6 := hide (HB1.out.drew.trans (hb.mono HB1.out.size)); clear hb))
        all_goals
          go_wp2
          refine ⟨⟨j + 1, by omega, by go_num, by rw [HSn.out]; rfl, HB6⟩, ?_⟩
          simp [intOf]; omega
    · obtain rfl : j = q := by omega
      go_wp2_with (go_at_call 18; refine (F2 _).mono ?_; rintro e w1 ⟨rfl, rfl⟩)
      go_ret2
      exact ⟨rfl, hB.out⟩
end Go.Proofs.Ytojanklgjdjniaa
