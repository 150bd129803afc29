/-
  The package recall: how many of the truth were found: the program. Conditions: the slices read as lists of hits.
-/
import Derived.Test.YtggbokgacffamabRecI
namespace Go.Proofs.Ytggbokgacffamab
open Go.RowKit ChangeMaps

theorem count_pos_iff' {l : List Hit} {h : Hit} : 0 < l.count h ↔ h ∈ l := List.count_pos_iff
set_option maxHeartbeats 2000000 in
theorem eRCount_any (A B : Option Addr) (n c m d : Nat) (f t : List Hit) (k : Int) (w : World) (hx : Rd SH w w.heap.size A f) (hn : f.length = n) (hc : n ≤ c) (hm : c ≤ 9223372036854775807) (hf : ∀ h ∈ f, wfH h)
    (hy : Rd SH w w.heap.size B t) (hn' : t.length = m) (hd : m ≤ d) (hm' : d ≤ 9223372036854775807) (ht : ∀ h ∈ t, wfH h) :
    Calls Try.prog 6 #[.slice A n c, .slice B m d, .int .i64 k] w fun e w' => e = .returned (.tuple #[.int .i64 (cntR (f.take (fstN k n)) (t.take (fstN k m)) : Nat), .int .i64 (fstN k m : Nat)]) ∧ Below w.heap.size w w' := by
  have HX := hide (hx.take (fstN k n))
  have HY := hide hy
  have Hm := hide hn'
  have HWf := hide (show ∀ h ∈ f.take (fstN k n), wfH h from fun h hh => hf h (List.mem_of_mem_take hh))
  have HWt := hide ht
  have F1 := fun W => first_any A n c k W hc hm
  have F2 := fun W => first_any B m d k W hd hm'
  have HPl := hide (show (f.take (fstN k n)).length = fstN k n by rw [List.length_take]; have := fstN_le k n; omega)
  have HPc := hide (show fstN k n ≤ c by have := fstN_le k n; omega)
  have hqm := fstN_le k m
  generalize fstN k n = p at *
  generalize fstN k m = q at *
  clear hx hy hn hn' hf ht
  generalize f.take p = fp at *
  have C1 := hide (set_any A p c fp w HX.out HPl.out HPc.out hm HWf.out)
  go_enter Try.func6, Try.ntmps6
  go_upto_region 5 with (first
    | (go_at_call 15; first | (with_reducible refine Calls.mono (F1 _) ?_; rintro e w1 ⟨rfl, rfl⟩) | (with_reducible refine Calls.mono (F2 _) ?_; rintro e w1 ⟨rfl, rfl⟩))
    | (go_at_call 14; refine C1.out.mono ?_; rintro e w2 ⟨rfl, hMp, hBp⟩; have HM2 := hide hMp; have HB2 := hide hBp; clear hMp hBp))
  have hb0 := HM2.out.lt
  go_loopw [9, 12, 22] (fun u _ i wr => ∃ j : Nat, j ≤ q ∧ i = .int .i64 j ∧ u = .int .i64 (cntR fp (t.take j) : Nat) ∧ Hid (MapAt wr w.heap.size fp) ∧ Hid (Below w.heap.size w wr)) (fun _ _ i _ => q - (intOf i).toNat)
  case atStart => exact ⟨0, by omega, rfl, rfl, HM2, HB2⟩
  case round =>
    obtain ⟨j, hj, rfl, rfl, HT, HBl⟩ := hrel
    by_cases hlt : j < q
    · obtain ⟨ad, ⟨x1, x2⟩, rfl, _, hv, q0, q1⟩ := (HY.out.below HBl.out (Nat.le_refl _)).hcell (k := j) (by have := Hm.out; omega)
      simp only at q0 q1
      have hwx := hide (HWt.out _ (List.mem_of_getElem? hv))
      have g0 : (0 : Int) ≤ j := by omega
      have g1 : (j : Int) < q := by omega
      have HB1 := hide (HBl.out.trans ((below1 wr (.cells #[.int .u64 x1, .int .u64 x2] 36)).mono HBl.out.size))
      have HN := hide (Blk.new wr 36 #[.int .u64 x1, .int .u64 x2])
      have HT1 := hide (HT.out.below (below1 wr (.cells #[.int .u64 x1, .int .u64 x2] 36)) HT.out.lt)
      have HSn := hide (cntR_snoc (f := fp) hv)
      have hcl : cntR fp (t.take j) < q := by have := cntR_le fp (t.take j); rw [List.length_take] at this; omega
      clear hv HT
      go_upto_region 7 with fail
      generalize wr.alloc (.cells #[.int .u64 x1, .int .u64 x2] 36) = w2 at *
      have L1 := HT1.out.look hwx.out
      have z0 : w2.cell? ⟨wr.heap.size, 0, none⟩ = some (.int .u64 x1) := HN.out.cell 0
      have z1 : w2.cell? ⟨wr.heap.size, 1, none⟩ = some (.int .u64 x2) := HN.out.cell 1
      generalize wr.heap.size = b1 at *
      generalize hCn : cntR fp (t.take j) = u at *
      have HCn := hide hCn
      clear hCn
      have e1 : IntKind.i64.wrap ((u : Int) + 1) = ((u + 1 : Nat) : Int) := by rw [IntKind.wrap_i64]; have := Hm.out; omega
      by_cases e : (x1, x2) ∈ fp
      · rw [if_pos e] at HSn
        have hp := count_pos_iff'.2 e
        clear e
        generalize List.count (x1, x2) fp = v at *
        have hp1 : (0 : Int) < v := by omega
        go_wp2
        all_goals
          go_roundw
          case rel => exact ⟨j + 1, by omega, by go_num, by rw [HSn.out]; first | exact i64_eq e1 | rfl | exact i64_eq (by omega), HT1, HB1⟩
          case measure => simp [intOf]; omega
      · rw [if_neg e] at HSn
        have hp : List.count (x1, x2) fp = 0 := List.count_eq_zero.2 e
        rw [hp] at L1
        clear hp e
        go_wp2
        all_goals
          go_roundw
          case rel => exact ⟨j + 1, by omega, by go_num, by rw [HSn.out]; rfl, HT1, HB1⟩
          case measure => simp [intOf]; omega
    · obtain rfl : j = q := by omega
      go_wp2
      go_ret2
      exact ⟨rfl, HBl.out⟩
end Go.Proofs.Ytggbokgacffamab
