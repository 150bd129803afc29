/-
  The package explore: of: what turns leave. Condition: the slice reads as a list of ints.
-/
import Derived.Test.YtpnekmkbedhooaaExpJ
namespace Go.Proofs.Ytpnekmkbedhooaa
open Go.RowKit

set_option maxHeartbeats 6000000 in
theorem eof_any (A : Option Addr) (n c : Nat) (xs : List Int) (w : World) (hx : I64s w w.heap.size A xs) (hn : xs.length = n) (hc : n ≤ c) (hm : c ≤ 9223372036854775807) :
    Calls Try.prog 15 #[.slice A n c] w (OfGives w xs) := by
  have hz := z17
  have HX := hide hx
  have Hn := hide hn
  have HR0 := hide (show Lf ((w.alloc (.cells (ics .i64 (fun _ => 0) 17) 45)).alloc (.cells (ics .i64 (fun _ => 0) 17) 45)) w.heap.size (fun _ => 0) from Blk.alloc (Blk.new _ _ _) _)
  have HL0 := hide (show Lf ((w.alloc (.cells (ics .i64 (fun _ => 0) 17) 45)).alloc (.cells (ics .i64 (fun _ => 0) 17) 45)) (w.heap.size + 1) (leftF ((tn xs).take 0)) by
    show Blk _ _ _ _
    rw [List.take_zero, leftF_nil]; exact heap_alloc2_new _ _ _)
  have HB0 := hide (below2 w (.cells (ics .i64 (fun _ => 0) 17) 45) (.cells (ics .i64 (fun _ => 0) 17) 45))
  clear hx hn
  have FIN := fun (wr : World) (h : Hid (Below w.heap.size w wr)) (f : Nat → Int) (hno : ¬ okT xs) => hide (show OfGives w xs (.returned (.tuple #[.agg (ics .i64 f 17), .bool false])) (wr.setRow w.heap.size (ics .i64 f 17)) from ⟨.inr ⟨hno, _, rfl⟩, below_setRow h.out (Nat.le_refl _) _⟩)
  rcases Nat.lt_or_ge 16 n with h16 | h16
  · have hd : decide ((16 : Int) < n) = true := by simp; omega
    have hno : ¬ okT xs := fun h => by have := h.1; have := Hn.out; omega
    have HF := FIN _ HB0 (leftF ((tn xs).take 0)) hno
    clear FIN hno h16
    go_enter Try.func15, Try.ntmps15
    go_upto_region 2 with fail
    generalize (w.alloc (.cells (ics .i64 (fun _ => 0) 17) 45)).alloc (.cells (ics .i64 (fun _ => 0) 17) 45) = w1 at *
    go_wp2_with (first | (refine wpList_load_row rfl 45 (.tmp 4) rfl (w.heap.size + 1) rfl 45 _ (0, 0) _ HL0.out Try.underlying45 rfl (i17 _) ?_) | (refine wpList_store_row rfl 45 (.tmp 2) (.tmp 10) rfl w.heap.size rfl 45 _ _ rfl HR0.out (i17 _) (by simp [ics]) (ics_one _ _ _) ?_))
    all_goals
      refine bodyPost_ret (results_cell_row_tmp rfl _ _ w.heap.size 45 _ (0, 0) _ rfl (setRow_heap _ _ _ _ _ _ HR0.out) Try.underlying45 rfl (i17 _)) rfl ?_
      exact HF.out
  have hd : decide ((16 : Int) < n) = false := by simp; omega
  go_enter Try.func15, Try.ntmps15
  go_upto_region 2 with fail
  generalize (w.alloc (.cells (ics .i64 (fun _ => 0) 17) 45)).alloc (.cells (ics .i64 (fun _ => 0) 17) 45) = w1 at *
  generalize hG : w.heap.size = r at *
  have HGE := hide hG
  clear hG
  go_wp2_with fail
  go_loopw [13] (fun i wr => ∃ k : Nat, k ≤ n ∧ i = .int .i64 k ∧ Hid (Lf wr r (fun _ => 0)) ∧ Hid (Lf wr (r + 1) (leftF ((tn xs).take k))) ∧ Hid (Below r w wr) ∧ Hid (∀ j x, j < k → xs[j]? = some x → x ≤ 64) ∧ Hid (sumTo (tn xs) k ≤ 64 * k)) (fun i _ => n - (intOf i).toNat)
  case atStart => exact ⟨0, by omega, rfl, HR0, HL0, HB0, hide (fun j x h => by omega), hide (by rw [sumTo_zero]; omega)⟩
  case round =>
    obtain ⟨k, hk, rfl, hR, hL, hB, hA, hS⟩ := hrel
    clear HR0 HL0 HB0
    by_cases hlt : k < n
    · obtain ⟨ad, x, rfl, _, hv, q0⟩ := (RdR.below HX.out hB.out (fun b hb => hb)).icell (k := k) (by have := Hn.out; omega)
      have g0 : (0 : Int) ≤ k := by omega
      have g1 : (k : Int) < n := by omega
      have g2 : (k : Int) < 16 := by omega
      have Hv := hide hv
      have Hlt := hide (show k < (tn xs).length by rw [tn_len, Hn.out]; exact hlt)
      have HSS := hide (sumTo_succ Hlt.out)
      have HLS := hide (leftF_set Hlt.out (by rw [tn_len, Hn.out]; exact h16))
      rw [tn_at hv] at HSS HLS
      clear hv
      by_cases h64 : 64 < x
      · have hno : ¬ okT xs := fun h => by have := h.2.1 x (List.mem_of_getElem? Hv.out); omega
        have HF := FIN _ hB (leftF ((tn xs).take k)) hno
        have hd2 : decide ((64 : Int) < x) = true := by simp; omega
        clear FIN hno
        go_wp2_with (first | (refine wpList_load_row rfl 45 (.tmp 4) rfl (r + 1) rfl 45 _ (0, 0) _ hL.out Try.underlying45 rfl (i17 _) ?_) | (refine wpList_store_row rfl 45 (.tmp 2) (.tmp 20) rfl r rfl 45 _ _ rfl hR.out (i17 _) (by simp [ics]) (ics_one _ _ _) ?_))
        all_goals
          refine bodyPost_ret (results_cell_row_tmp rfl _ _ r 45 _ (0, 0) _ rfl (setRow_heap _ _ _ _ _ _ hR.out) Try.underlying45 rfl (i17 _)) rfl ?_
          exact HF.out
      · have hd2 : decide ((64 : Int) < x) = false := by simp; omega
        have HA2 := hide (show ∀ j y, j < k + 1 → xs[j]? = some y → y ≤ 64 from fun j y hj hy => by
          rcases Nat.lt_or_ge j k with h | h
          · exact hA.out j y h hy
          · obtain rfl : j = k := by omega
            rw [Hv.out] at hy; injection hy with hy; omega)
        have HS2 := hide (show sumTo (tn xs) (k + 1) ≤ 64 * (k + 1) by have := HSS.out; have := hS.out; omega)
        have Hs : IntKind.i64.wrap (((sumTo (tn xs) k : Nat) : Int) + ((x.toNat : Nat) : Int)) = (sumTo (tn xs) (k + 1) : Nat) := by rw [HSS.out, IntKind.wrap_i64]; have := hS.out; omega
        obtain ⟨sk, hsk⟩ : ∃ sk : Int, sk = ((sumTo (tn xs) k : Nat) : Int) := ⟨_, rfl⟩
        have HS16 := hide (show leftF ((tn xs).take k) 16 = sk by rw [hsk]; rfl)
        rw [← hsk] at Hs
        clear hsk HSS FIN
        by_cases hx0 : x < 0
        · have HV := hide (show ((x.toNat : Nat) : Int) = 0 by omega)
          rw [HV.out] at HLS Hs
          generalize hE : sumTo (tn xs) (k + 1) = S2 at *
          have HE := hide hE
          clear hE
          have q1 : wr.cell? ⟨r + 1, k, none⟩ = some (.int .i64 (leftF ((tn xs).take k) k)) := by rw [hL.out.cell, ics_get _ _ _ _ (by omega)]
          have f1 := hL.out.frozen k
          have HL5 := hide (hL.out.set_ k (.int .i64 0))
          have q2 : (wr.setCell ⟨r + 1, k, none⟩ (.int .i64 0)).cell? ⟨r + 1, 16, none⟩ = some (.int .i64 sk) := by
            rw [World.cell?_setCell_other _ _ _ _ (by intro e; injection e with _ e; omega), hL.out.cell, ics_get _ _ _ _ (by omega), HS16.out]
          have q3 : (wr.setCell ⟨r + 1, k, none⟩ (.int .i64 0)).cell? ⟨r + 1, k, none⟩ = some (.int .i64 0) := by
            rw [HL5.out.cell, Array.getElem?_setIfInBounds_self_of_lt (by rw [ics_size]; omega)]
          have f2 := HL5.out.frozen 16
          have HR5 := hide (hR.out.far (p := ⟨r + 1, k, none⟩) (by simp) (.int .i64 0))
          have HB5 := hide (hB.out.setCell (p := ⟨r + 1, k, none⟩) (Nat.le_succ r) (.int .i64 0))
          rw [Int.add_zero] at Hs
          have Hs' : wrap64 sk = ((S2 : Nat) : Int) := by rw [wrap64_i64]; exact Hs
          clear hS
          go_upto_region 10 with fail
          generalize wr.setCell ⟨r + 1, k, none⟩ (.int .i64 0) = w5 at *
          go_still_tail 8, (by kernel_rfl)
          change wpList _ _ _ _ _ w5.drew
          have q6 : w5.drew.cell? ⟨r + 1, 16, none⟩ = some (.int .i64 sk) := q2
          have f6 : w5.drew.frozen? ⟨r + 1, 16, none⟩ = false := f2
          have HL6 := hide (show Blk w5.drew (r + 1) _ _ from HL5.out)
          have HR6 := hide (show Lf w5.drew r _ from HR5.out)
          have HB6 := hide (show Below r w w5.drew from below_drewN HB5.out 1)
          generalize w5.drew = w6 at *
          have HL7 := hide (HL6.out.set_ 16 (.int .i64 (S2 : Nat)))
          rw [HLS.out] at HL7
          have HR7 := hide (HR6.out.far (p := ⟨r + 1, 16, none⟩) (by simp) (.int .i64 (S2 : Nat)))
          have HB7 := hide (HB6.out.setCell (p := ⟨r + 1, 16, none⟩) (Nat.le_succ r) (.int .i64 (S2 : Nat)))
          clear q1 q2 q3 f1 f2
          go_wp2
          go_roundw
          case rel => exact ⟨k + 1, by omega, by go_num, HR7, HL7, HB7, HA2, hide (by rw [HE.out]; exact HS2.out)⟩
          case measure => simp [intOf]; omega
        · have HV := hide (show ((x.toNat : Nat) : Int) = x by omega)
          rw [HV.out] at HLS Hs
          generalize hE : sumTo (tn xs) (k + 1) = S2 at *
          have HE := hide hE
          clear hE
          have q1 : wr.cell? ⟨r + 1, k, none⟩ = some (.int .i64 (leftF ((tn xs).take k) k)) := by rw [hL.out.cell, ics_get _ _ _ _ (by omega)]
          have f1 := hL.out.frozen k
          have HL5 := hide (hL.out.set_ k (.int .i64 x))
          have q2 : (wr.setCell ⟨r + 1, k, none⟩ (.int .i64 x)).cell? ⟨r + 1, 16, none⟩ = some (.int .i64 sk) := by
            rw [World.cell?_setCell_other _ _ _ _ (by intro e; injection e with _ e; omega), hL.out.cell, ics_get _ _ _ _ (by omega), HS16.out]
          have q3 : (wr.setCell ⟨r + 1, k, none⟩ (.int .i64 x)).cell? ⟨r + 1, k, none⟩ = some (.int .i64 x) := by
            rw [HL5.out.cell, Array.getElem?_setIfInBounds_self_of_lt (by rw [ics_size]; omega)]
          have f2 := HL5.out.frozen 16
          have HR5 := hide (hR.out.far (p := ⟨r + 1, k, none⟩) (by simp) (.int .i64 x))
          have HB5 := hide (hB.out.setCell (p := ⟨r + 1, k, none⟩) (Nat.le_succ r) (.int .i64 x))
          have Hs' := Hs
          rw [← wrap64_i64] at Hs'
          clear hS
          go_upto_region 10 with fail
          generalize wr.setCell ⟨r + 1, k, none⟩ (.int .i64 x) = w5 at *
          go_still_tail 8, (by kernel_rfl)
          change wpList _ _ _ _ _ w5.drew
          have q6 : w5.drew.cell? ⟨r + 1, 16, none⟩ = some (.int .i64 sk) := q2
          have f6 : w5.drew.frozen? ⟨r + 1, 16, none⟩ = false := f2
          have HL6 := hide (show Blk w5.drew (r + 1) _ _ from HL5.out)
          have HR6 := hide (show Lf w5.drew r _ from HR5.out)
          have HB6 := hide (show Below r w w5.drew from below_drewN HB5.out 1)
          generalize w5.drew = w6 at *
          have HL7 := hide (HL6.out.set_ 16 (.int .i64 (S2 : Nat)))
          rw [HLS.out] at HL7
          have HR7 := hide (HR6.out.far (p := ⟨r + 1, 16, none⟩) (by simp) (.int .i64 (S2 : Nat)))
          have HB7 := hide (HB6.out.setCell (p := ⟨r + 1, 16, none⟩) (Nat.le_succ r) (.int .i64 (S2 : Nat)))
          clear q1 q2 q3 f1 f2
          go_wp2
          go_roundw
          case rel => exact ⟨k + 1, by omega, by go_num, HR7, HL7, HB7, HA2, hide (by rw [HE.out]; exact HS2.out)⟩
          case measure => simp [intOf]; omega
    · obtain rfl : n = k := by omega
      have HN := hide (show (tn xs).take n = tn xs from List.take_of_length_le (by rw [tn_len, Hn.out]; exact Nat.le_refl _))
      rw [HN.out] at hL
      have HAll := hide (show ∀ x ∈ xs, x ≤ 64 from fun x hx => by
        obtain ⟨j, hj, e⟩ := List.mem_iff_getElem.1 hx
        exact hA.out j x (by have := Hn.out; omega) (by rw [List.getElem?_eq_getElem hj, e]))
      have HE9 := hide (show ∀ w9 : World, Below r w w9 → OfGives w xs (.returned (.tuple #[.agg (ics .i64 (leftF (tn xs)) 17), .bool (decide (leftF (tn xs) 16 ≤ 64))])) w9 from fun w9 h => ⟨by
        by_cases hs : (tn xs).sum ≤ 64
        · have hd4 : decide (leftF (tn xs) 16 ≤ 64) = true := by rw [show leftF (tn xs) 16 = (((tn xs).sum : Nat) : Int) from rfl]; simp; omega
          rw [hd4]; exact .inl ⟨⟨by have := Hn.out; omega, HAll.out, hs⟩, rfl⟩
        · have hd4 : decide (leftF (tn xs) 16 ≤ 64) = false := by rw [show leftF (tn xs) 16 = (((tn xs).sum : Nat) : Int) from rfl]; simp; omega
          rw [hd4]; exact .inr ⟨fun h => hs h.2.2, _, rfl⟩, by rw [HGE.out]; exact h⟩)
      generalize leftF (tn xs) = F at *
      have HR9 : Hid (Lf (put17 wr r F).drew r F) := hide (Blk.drew (put17_blk hR.out F))
      have HB9 : Hid (Below r w (put17 wr r F).drew) := hide (Below.drew (put17_below hB.out (Nat.le_refl _) F))
      have HF := hide (HE9.out _ HB9.out)
      have hc : ∀ i, i < 17 → wr.cell? ⟨r + 1, i, none⟩ = some (.int .i64 (F i)) := fun i hi => by rw [hL.out.cell, ics_get _ _ _ _ hi]
      have hr : ∀ i, i < 17 → wr.cell? ⟨r, i, none⟩ = some (.int .i64 0) := fun i hi => by rw [hR.out.cell, ics_get _ _ _ _ hi]
      have hf : ∀ i, wr.frozen? ⟨r, i, none⟩ = false := fun i => hR.out.frozen i
      clear FIN HE9 HAll hA hS
      go_upto_region 12 with fail
      go_region
      all_goals
        clear hc hr hf
        rw [← put17_eq wr r F]
        generalize (put17 wr r F).drew = w9 at *
        go_wp2
        refine bodyPost_ret (results_cell_row_tmp rfl _ _ r 45 (ics .i64 F 17) (0, 0) _ rfl HR9.out Try.underlying45 rfl (i17 _)) rfl ?_
        exact HF.out
end Go.Proofs.Ytpnekmkbedhooaa
