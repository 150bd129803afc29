/-
  The package vec: the middle of some vectors. Conditions: the slices read as lists of int32s, not too many.
-/
import Derived.Test.YtodlbbcgplhihagVecB
namespace Go.Proofs.Ytodlbbcgplhihag
open Go.RowKit

abbrev LL (w : World) (B : Nat) (A : Option Addr) (l : List (List Int)) : Prop := Rd (Sh.list (Sh.int .i32)) w B A l
/-- the sums of the columns, behind k rows and j more components -/
def sumsAt (l : List (List Int)) (k j : Nat) : Nat → Int := stp (fun i => colTo l i k) (fun i => colTo l i (k + 1)) j
def mids (l : List (List Int)) (i : Nat) : Int := colTo l i l.length / (l.length : Int)
theorem meanR_yes {l : List (List Int)} (h : meanB l = true) : meanR l = (List.range (l.getD 0 []).length).map (mids l) := by unfold meanR; rw [if_pos h]; rfl
def MeanGives (w : World) (l : List (List Int)) (e : Ending) (w' : World) : Prop := ∃ v, e = .returned (.tuple #[v, .int .i64 (meanE l)]) ∧ NewInts .i32 w (meanR l) v w'
theorem meanGives_no {w w' : World} {l : List (List Int)} (h : meanB l = false) (hb : Below w.heap.size w w') : MeanGives w l (.returned (.tuple #[.slice none 0 0, .int .i64 7])) w' :=
  ⟨.slice none 0 0, by simp [meanE, h], by rw [show meanR l = [] by simp [meanR, h]]; exact NewInts.nil hb⟩
theorem i32_get {l : List (List Int)} (h : ∀ v ∈ l, I32 v) {k : Nat} {v : List Int} (hv : l[k]? = some v) : I32 v := h v (List.mem_of_getElem? hv)
theorem colTo_next {l : List (List Int)} {k : Nat} {v : List Int} (hv : l[k]? = some v) (i : Nat) : colTo l i (k + 1) = colTo l i k + cmpAt v i := by
  simp [colTo, List.getD_eq_getElem?_getD, hv]

set_option maxHeartbeats 4000000 in
theorem mean_any (A : Option Addr) (n c : Nat) (l : List (List Int)) (w : World) (hx : LL w w.heap.size A l) (hn : l.length = n) (hc : n ≤ c) (hm : c ≤ 9223372036854775807)
    (hi : ∀ v ∈ l, I32 v) (h6 : n ≤ 1000000) (hlen : ∀ v ∈ l, v.length ≤ 1000000) :
    Calls Try.prog 22 #[.slice A n c] w (MeanGives w l) := by
  have Hn := hide hn
  have HI := hide hi
  rcases Nat.eq_zero_or_pos n with h0 | h0
  · subst h0
    have hB : meanB l = false := by rw [List.eq_nil_of_length_eq_zero hn]; rfl
    have HF := hide (meanGives_no hB (Below.refl w.heap.size w))
    clear hx hn hi hlen hB
    go_enter Try.func22, Try.ntmps22
    go_wp2
    go_ret2
    exact HF.out
  obtain ⟨ad, x0, A0, c0, rfl, hb0, hx0, k0, k1, k2, k3⟩ := hx.slc (k := 0) (by omega)
  have hx0' : l.getD 0 [] = x0 := by rw [List.getD_eq_getElem?_getD, hx0]; rfl
  have hlm := hlen x0 (List.mem_of_getElem? hx0)
  generalize hm0 : x0.length = m at *
  have hmk := fun W => run_make_rep (P := Try.prog) Try.underlying56 (e := 2) (z := .int .i64 0) (by_ := 8) (by kernel_rfl) rfl .i64 .i64 m m (Nat.le_refl _) (by omega) (by omega) W
  have hnn : ((n : Int) == 0) = false := by rw [beq_eq_false_iff_ne]; omega
  have HX := hide hx
  have HX0 := hide hx0'
  have HM0 := hide hm0
  have S0 := hide (show Blk (w.alloc (.cells (rep m (.int .i64 0)) 2)) w.heap.size 2 (ics .i64 (sumsAt l 0 0) m) ∧ Below w.heap.size w (w.alloc (.cells (rep m (.int .i64 0)) 2)) by
    refine ⟨?_, (Below.refl _ _).alloc (Nat.le_refl _) _⟩
    unfold sumsAt
    rw [ics_stp0, show ics .i64 (fun i => colTo l i 0) m = rep m (.int .i64 0) by rw [ics_zero]; rfl]
    exact Blk.new _ _ _)
  rw [add_zero'] at k0
  clear hx hx0 hx0' hm0 hn hi
  go_enter Try.func22, Try.ntmps22
  go_wp2
  clear k0
  go_loopw [24] (fun i wr => ∃ k : Nat, k ≤ n ∧ i = .int .i64 k ∧ Hid (∀ (j : Nat) (v : List Int), j < k → l[j]? = some v → v.length = m) ∧ Hid (Blk wr w.heap.size 2 (ics .i64 (sumsAt l k 0) m) ∧ Below w.heap.size w wr)) (fun i _ => n - (intOf i).toNat)
  case atStart => exact ⟨0, by omega, rfl, hide (fun j v h => by omega), S0⟩
  case round =>
    obtain ⟨k, hk, rfl, hev, hS⟩ := hrel
    clear S0
    by_cases hlt : k < n
    · obtain ⟨ad', v, A', c', e', _, hv, q0, q1, q2, q3⟩ := (HX.out.below hS.out.2 (Nat.le_refl _)).slc (k := k) (by have := Hn.out; omega)
      injection e' with e'
      subst e'
      have hvi := hide (i32_get HI.out hv)
      have HV := hide hv
      have g0 : (0 : Int) ≤ k := by omega
      have g1 : (k : Int) < n := by omega
      by_cases hvl : v.length = m
      · have HQ := hide q3
        have hne : ((m : Int) != m) = false := by simp
        rw [hvl] at q0 q1
        have HVL := hide hvl
        clear hv q3 hvl
        go_wp2
        clear q0
        obtain ⟨wo, rfl⟩ : ∃ wo : World, wo = wr := ⟨_, rfl⟩
        go_loopw [35] (fun i wr => ∃ j : Nat, j ≤ m ∧ i = .int .i64 j ∧ Hid (Blk wr w.heap.size 2 (ics .i64 (sumsAt l k j) m) ∧ Below w.heap.size w wr)) (fun i _ => m - (intOf i).toNat)
        case atStart => exact ⟨0, by omega, rfl, hS⟩
        case round =>
          obtain ⟨j, hj, rfl, hT⟩ := hrel
          by_cases hjm : j < m
          · obtain ⟨ad2, x, rfl, hb2, hx1, c1⟩ := HQ.out.icell (k := j) (by have := HVL.out; omega)
            have bx := hvi.out x (List.mem_of_getElem? hx1)
            have bs := colTo_le HI.out j k
            have hcell : wr.cell? ⟨w.heap.size, j, none⟩ = some (.int .i64 (colTo l j k)) := by rw [hT.out.1.cell, ics_get _ _ _ _ hjm]; simp [sumsAt, stp]
            have hfr := hT.out.1.frozen j
            have c2 : wr.cell? (ad2.add j) = some (.int .i32 x) := (hT.out.2.cell (by rw [block_of_add]; exact hb2)).trans ((hS.out.2.cell (by rw [block_of_add]; exact hb2)).symm.trans c1)
            have hst := ics_stp .i64 (fun i => colTo l i k) (fun i => colTo l i (k + 1)) m j
            rw [colTo_next HV.out, cmpAt_of hx1] at hst
            have HST := hide hst
            have j0 : (0 : Int) ≤ j := by omega
            have j1 : (j : Int) < m := by omega
            clear c1 hx1 hst
            go_wp2
            go_roundw
            case rel => exact ⟨j + 1, by omega, by go_num, hide ⟨by rw [show sumsAt l k (j + 1) = stp (fun i => colTo l i k) (fun i => colTo l i (k + 1)) (j + 1) from rfl, ← HST.out]; exact hT.out.1.set_ _ _, hT.out.2.setCell (Nat.le_refl _) _⟩⟩
            case measure => simp [intOf]; omega
          · obtain rfl : j = m := by omega
            go_wp2
            go_roundw
            case rel => exact ⟨k + 1, by omega, by go_num, hide (fun i v' hi' hv' => by
              rcases Nat.lt_or_ge i k with h | h
              · exact hev.out i v' h hv'
              · obtain rfl : i = k := by omega
                rw [HV.out] at hv'; injection hv' with hv'; rw [← hv']; exact HVL.out), hide ⟨by
              have := hT.out.1
              unfold sumsAt at this ⊢
              rw [ics_stpm] at this
              rw [ics_stp0]; exact this, hT.out.2⟩⟩
            case measure => simp [intOf]; omega
      · have HF := hide (meanGives_no (meanB_no hv (by rw [HX0.out, HM0.out]; exact hvl)) hS.out.2)
        have hne : ((v.length : Int) != m) = true := by rw [bne_iff_ne]; omega
        clear q3 hv hvl
        go_wp2
        go_ret2
        exact HF.out
    · obtain rfl : n = k := by omega
      have hB : meanB l = true := meanB_yes (by rw [Hn.out]; exact h0) fun j v hv => by
        rw [HX0.out, HM0.out]
        exact hev.out j v (by have := (List.getElem?_eq_some_iff.1 hv).1; have := Hn.out; omega) hv
      have HB := hide hB
      have hmk2 := fun W => run_make_rep (P := Try.prog) Try.underlying27 (e := 21) (z := .int .i32 0) (by_ := 4) (by kernel_rfl) rfl .i64 .i64 m m (Nat.le_refl _) (by omega) (by omega) W
      have S2 := hide (show Blk (wr.alloc (.cells (rep m (.int .i32 0)) 21)) w.heap.size 2 (ics .i64 (fun i => colTo l i n) m) ∧ Blk (wr.alloc (.cells (rep m (.int .i32 0)) 21)) wr.heap.size 21 (ics .i32 (stp (fun _ => 0) (mids l) 0) m) ∧ Below w.heap.size w (wr.alloc (.cells (rep m (.int .i32 0)) 21)) by
        refine ⟨?_, ?_, hS.out.2.alloc hS.out.2.size _⟩
        · have := hS.out.1.alloc (.cells (rep m (.int .i32 0)) 21)
          unfold sumsAt at this
          rwa [ics_stp0] at this
        · rw [ics_stp0, ← ics_zero]; exact Blk.new _ _ _)
      have hlt' := hS.out.1.lt
      clear hmk hB
      go_upto_region 18 with fail
      generalize wr.alloc (.cells (rep m (.int .i32 0)) 21) = w2 at *
      generalize wr.heap.size = Q at *
      clear hmk2 hS
      go_loopw [57] (fun i wr => ∃ j : Nat, j ≤ m ∧ i = .int .i64 j ∧ Hid (Blk wr w.heap.size 2 (ics .i64 (fun i => colTo l i n) m) ∧ Blk wr Q 21 (ics .i32 (stp (fun _ => 0) (mids l) j) m) ∧ Below w.heap.size w wr)) (fun i _ => m - (intOf i).toNat)
      case atStart => exact ⟨0, by omega, rfl, S2⟩
      case round =>
        obtain ⟨j, hj, rfl, hT⟩ := hrel
        clear S2
        by_cases hjm : j < m
        · have hcell : wr.cell? ⟨w.heap.size, j, none⟩ = some (.int .i64 (colTo l j n)) := by rw [hT.out.1.cell, ics_get _ _ _ _ hjm]
          have hcell2 : wr.cell? ⟨Q, j, none⟩ = some (.int .i32 0) := by rw [hT.out.2.1.cell, ics_get _ _ _ _ hjm]; simp [stp]
          have hfr := hT.out.2.1.frozen j
          have bs := colTo_le HI.out j n
          have bm := mean_i32 HI.out (by have := Hn.out; omega) j
          have fl := floor_step (colTo l j n) n (by omega)
          have tb := tdiv_bound (colTo l j n) n (by omega) 2147483648000000 (by omega) (by omega)
          have HST := hide (ics_stp .i32 (fun _ => 0) (mids l) m j)
          have hmid : mids l j = colTo l j n / (n : Int) := by unfold mids; rw [Hn.out]
          rw [Hn.out] at bm
          rw [hmid] at HST
          have j0 : (0 : Int) ≤ j := by omega
          have j1 : (j : Int) < m := by omega
          have n1 : (1 : Int) ≤ n := by omega
          clear hmid
          generalize colTo l j n = s at *
          generalize hq : s.tdiv n = q at *
          generalize hd : s / (n : Int) = d at *
          obtain ⟨⟨tb1, tb2⟩, tb3, tb4⟩ := tb
          obtain ⟨bm1, bm2⟩ := bm
          obtain ⟨fl1, fl2⟩ := fl
          have HD := hide hd
          clear hd
          by_cases hlt : s < q * n
          · have e := fl1 hlt
            clear fl1 fl2
            have HE := hide e
            have q1 : -2147483648 ≤ q - 1 := by omega
            have q2 : q - 1 ≤ 2147483647 := by omega
            have hdl : decide (s < q * n) = true := decide_eq_true hlt
            clear e bm1 bm2
            go_wp2
            go_roundw
            case rel => exact ⟨j + 1, by omega, by go_num, hide ⟨hT.out.1.far (by show w.heap.size ≠ Q; omega) _, by rw [← HST.out, HE.out]; exact hT.out.2.1.set_ _ _, hT.out.2.2.setCell (Nat.le_of_lt hlt') _⟩⟩
            case measure => simp [intOf]; omega
          · have e := fl2 hlt
            clear fl1 fl2
            have HE := hide e
            have q1 : -2147483648 ≤ q := by omega
            have q2 : q ≤ 2147483647 := by omega
            have hdl : decide (s < q * n) = false := decide_eq_false hlt
            clear e bm1 bm2
            go_wp2
            go_roundw
            case rel => exact ⟨j + 1, by omega, by go_num, hide ⟨hT.out.1.far (by show w.heap.size ≠ Q; omega) _, by rw [← HST.out, HE.out]; exact hT.out.2.1.set_ _ _, hT.out.2.2.setCell (Nat.le_of_lt hlt') _⟩⟩
            case measure => simp [intOf]; omega
        · obtain rfl : m = j := by omega
          go_wp2
          go_ret2
          refine ⟨_, by rw [show meanE l = 0 by simp [meanE, HB.out]]; rfl, ?_⟩
          have hb := hT.out.2.1
          rw [ics_stpm] at hb
          exact ⟨_, _, _, rfl, by rw [meanR_yes HB.out, HX0.out, HM0.out]; simp, Nat.le_refl _, by omega,
            intR_blk hb ⟨Nat.le_of_lt hlt', hb.lt⟩ (by rw [meanR_yes HB.out, HX0.out, HM0.out]), hT.out.2.2⟩
end Go.Proofs.Ytodlbbcgplhihag
