/-
  The package recall: the part of all pairs together: the program. Conditions: the slice reads as a list of pairs.
-/
import Derived.Test.YtggbokgacffamabRecG
namespace Go.Proofs.Ytggbokgacffamab
open Go.RowKit

theorem part_cells {W : World} {g : Nat} {a b c d : Int} (h : a = b) (k : c = d) (hk : Blk W g 49 #[.int .i64 a, .int .i64 c]) : Blk W g 49 #[.int .i64 b, .int .i64 d] := by subst h k; exact hk
set_option maxHeartbeats 2000000 in
theorem eScore_any (A : Option Addr) (n c : Nat) (l : List (Int × Int)) (w : World) (hx : Rd SPr w w.heap.size A l) (hn : l.length = n) (hc : n ≤ c) (hm : c ≤ 9223372036854775807) :
    Calls Try.prog 11 #[.slice A n c] w fun e w' => e = .returned (.int .i64 (scoF l)) ∧ Below w.heap.size w w' := by
  have HX := hide hx
  have Hn := hide hn
  have HF := hide (show scoF l = perF (hA (scoK l n).1 (scoK l n).2) (hB (scoK l n).2) by rw [← hn]; rfl)
  clear hx hn
  go_enter Try.func11, Try.ntmps11
  go_wp2
  go_loopw [5, 6, 9] (fun _ _ i wr => ∃ j : Nat, j ≤ n ∧ i = .int .i64 j ∧ Hid (Blk wr w.heap.size 49 #[.int .i64 (scoK l j).1, .int .i64 (scoK l j).2]) ∧ Hid (Below w.heap.size w wr)) (fun _ _ i _ => n - (intOf i).toNat)
  case atStart => exact ⟨0, by omega, rfl, hide (Blk.new _ _ _), hide (below1 _ _)⟩
  case round =>
    obtain ⟨j, hj, rfl, HT, HBl⟩ := hrel
    by_cases hlt : j < n
    · obtain ⟨ad, ⟨x1, x2⟩, rfl, _, hv, q0, q1⟩ := (HX.out.below HBl.out (Nat.le_refl _)).pcell (k := j) (by have := Hn.out; omega)
      simp only at q0 q1
      have g0 : (0 : Int) ≤ j := by omega
      have g1 : (j : Int) < n := by omega
      have HB1 := hide (HBl.out.trans ((below1 wr (.cells #[.int .i64 x1, .int .i64 x2] 40)).mono HBl.out.size))
      have HN := hide (Blk.new wr 40 #[.int .i64 x1, .int .i64 x2])
      have HT1 := hide (HT.out.alloc (.cells #[.int .i64 x1, .int .i64 x2] 40))
      have hbx := hide HT.out.lt
      have HSn := hide (scoK_snoc hv)
      have hok := scoK_ok l j
      have hok2 := hA_le x1 x2
      have hok3 := hB_le x2
      clear hv HT
      generalize hCn : scoK l j = s at *
      have HCn := hide hCn
      clear hCn
      obtain ⟨s1, s2⟩ := s
      simp only [scoS] at *
      go_upto_region 5 with fail
      generalize wr.alloc (.cells #[.int .i64 x1, .int .i64 x2] 40) = w2 at *
      have z0 : w2.cell? ⟨wr.heap.size, 0, none⟩ = some (.int .i64 x1) := HN.out.cell 0
      have z1 : w2.cell? ⟨wr.heap.size, 1, none⟩ = some (.int .i64 x2) := HN.out.cell 1
      generalize wr.heap.size = b1 at *
      have F1 := fun W => held_any x1 x2 W
      generalize hA x1 x2 = a at *
      generalize hB x2 = b at *
      go_upto_region 6 with (go_at_call 16; refine (F1 _).mono ?_; rintro e w5 ⟨rfl, hbl5⟩; have HB5 := hide (HB1.out.trans (hbl5.mono HB1.out.size)); have HT5 := hide (HT1.out.below hbl5 HT1.out.lt); clear hbl5 z0 z1 q0 q1)
      have HN6 := hide (Blk.new w5 49 #[.int .i64 a, .int .i64 b])
      have HT6 := hide (HT5.out.alloc (.cells #[.int .i64 a, .int .i64 b] 49))
      have HB6 := hide (HB5.out.trans ((below1 w5 (.cells #[.int .i64 a, .int .i64 b] 49)).mono HB5.out.size))
      have hne := HT5.out.lt
      generalize w5.alloc (.cells #[.int .i64 a, .int .i64 b] 49) = w6 at *
      have y0 : w6.cell? ⟨w5.heap.size, 0, none⟩ = some (.int .i64 a) := HN6.out.cell 0
      have y1 : w6.cell? ⟨w5.heap.size, 1, none⟩ = some (.int .i64 b) := HN6.out.cell 1
      have x0 : w6.cell? ⟨w.heap.size, 0, none⟩ = some (.int .i64 s1) := HT6.out.cell 0
      have x1' : w6.cell? ⟨w.heap.size, 1, none⟩ = some (.int .i64 s2) := HT6.out.cell 1
      have f0 : w6.frozen? ⟨w.heap.size, 0, none⟩ = false := HT6.out.frozen 0
      have f1 : w6.frozen? ⟨w.heap.size, 1, none⟩ = false := HT6.out.frozen 1
      generalize w5.heap.size = b5 at *
      by_cases hb : b < 1
      · rw [if_pos hb] at HSn
        have d1 : decide (0 < b) = false := by simp; omega
        go_wp2
        go_roundw
        case rel => exact ⟨j + 1, by omega, by go_num, by rw [HSn.out]; exact HT6, HB6⟩
        case measure => simp [intOf]; omega
      · rw [if_neg hb] at HSn
        have d1 : decide (0 < b) = true := by simp; omega
        have e1 : IntKind.i64.wrap (s1 + a) = s1 + a := by rw [IntKind.wrap_i64]; omega
        have e2 : IntKind.i64.wrap (s2 + b) = s2 + b := by rw [IntKind.wrap_i64]; omega
        go_wp2
        all_goals refine ⟨⟨j + 1, by omega, by go_num, ?_, ?_⟩, ?_⟩
        all_goals first
          | (simp [intOf]; omega)
          | exact hide ((HB6.out.setCell (Nat.le_refl _) _).setCell (Nat.le_refl _) _)
          | (rw [HSn.out]; exact hide (part_cells (by simp only; omega) (by simp only; omega) ((HT6.out.set_ 0 _).set_ 1 _)))
    · obtain rfl : j = n := by omega
      have hok := scoK_ok l j
      have z0 : wr.cell? ⟨w.heap.size, 0, none⟩ = some (.int .i64 (scoK l j).1) := HT.out.cell 0
      have z1 : wr.cell? ⟨w.heap.size, 1, none⟩ = some (.int .i64 (scoK l j).2) := HT.out.cell 1
      go_wp2_with (first | (go_at_call 16; refine (held_any _ _ _).mono ?_; rintro e w1 ⟨rfl, hbl1⟩; have HB1 := hide (HBl.out.trans (hbl1.mono HBl.out.size)); clear hbl1 z0 z1) | (go_at_call 17; refine (permille_any _ _ _ (hA_le _ _).1 (hA_le _ _).2 (hB_le _)).mono ?_; rintro e w2 ⟨rfl, hbl2⟩; have HB2 := hide (HB1.out.trans (hbl2.mono HB1.out.size)); clear hbl2))
      go_ret
      exact ⟨by rw [HF.out]; rfl, HB2.out⟩
end Go.Proofs.Ytggbokgacffamab
