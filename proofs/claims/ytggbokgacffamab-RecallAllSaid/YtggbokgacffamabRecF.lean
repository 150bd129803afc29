/-
  The package recall: by how much what was found is farther: both. Conditions: the slices read as lists of hits.
-/
import Derived.Test.YtggbokgacffamabRecE
import Derived.Laws.Externs
namespace Go.Proofs.Ytggbokgacffamab
open Go.RowKit

def hM (n : Nat) : Nat := min n 18446744073709551615
/-- by how much the first k are farther -/
def behK (f t : List Hit) : Nat → Nat
  | 0 => 0
  | k + 1 => behK f t k + ((f.getD k (0, 0)).1 - (t.getD k (0, 0)).1).toNat
theorem behK_mono (f t : List Hit) {j k : Nat} (h : j ≤ k) : behK f t j ≤ behK f t k := by
  induction k with
  | zero => obtain rfl : j = 0 := by omega
            exact Nat.le_refl _
  | succ k ih =>
    rcases Nat.lt_or_ge j (k + 1) with h' | h'
    · have := ih (by omega); simp only [behK]; omega
    · obtain rfl : j = k + 1 := by omega
      exact Nat.le_refl _
theorem behK_snoc {f t : List Hit} {k : Nat} {x y : Hit} (h : f[k]? = some x) (h' : t[k]? = some y) : behK f t (k + 1) = behK f t k + (x.1 - y.1).toNat := by
  simp [behK, List.getD_eq_getElem?_getD, h, h']
theorem behK_great {f t : List Hit} {j k : Nat} (hj : j ≤ k) (h : 18446744073709551615 < behK f t j) : hM (behK f t k) = 18446744073709551615 := by
  have := behK_mono f t hj; unfold hM; omega
theorem behK_small {f t : List Hit} {k : Nat} (h : behK f t k ≤ 18446744073709551615) : hM (behK f t k) = behK f t k := by unfold hM; omega

theorem run_add64_small {x y : Int} (hx : 0 ≤ x) (hy : 0 ≤ y) (h : x + y < 18446744073709551616) (w : World) :
    (callFunc 22 #[.int .u64 x, .int .u64 y, .int .u64 0]).run Try.prog w = .ok (.value (.tuple #[.int .u64 (x + y), .int .u64 0])) w := by
  rw [run_callFunc_extern Try.func22 (by kernel_rfl) (by kernel_rfl) (by kernel_rfl) (e := add64Entry) (by kernel_rfl), run_add64 x y 0 hx hy (by omega) (by omega)]
  simp only [Result.andThen]
  rw [show (x + y + 0) % 18446744073709551616 = x + y by omega, show (x + y + 0) / 18446744073709551616 = 0 by omega]
theorem run_add64_great {x y : Int} (hx : 0 ≤ x) (hy : 0 ≤ y) (hx1 : x < 18446744073709551616) (hy1 : y < 18446744073709551616) (h : 18446744073709551616 ≤ x + y) (w : World) :
    (callFunc 22 #[.int .u64 x, .int .u64 y, .int .u64 0]).run Try.prog w = .ok (.value (.tuple #[.int .u64 (x + y - 18446744073709551616), .int .u64 1])) w := by
  rw [run_callFunc_extern Try.func22 (by kernel_rfl) (by kernel_rfl) (by kernel_rfl) (e := add64Entry) (by kernel_rfl), run_add64 x y 0 hx hy (by omega) (by omega)]
  simp only [Result.andThen]
  rw [show (x + y + 0) % 18446744073709551616 = x + y - 18446744073709551616 by omega, show (x + y + 0) / 18446744073709551616 = 1 by omega]

set_option maxHeartbeats 2000000 in
theorem behind_any (A B : Option Addr) (n c m d : Nat) (f t : List Hit) (k : Int) (w : World) (hx : Rd SH w w.heap.size A f) (hn : f.length = n) (hc : n ≤ c) (hm : c ≤ 9223372036854775807) (hf : ∀ h ∈ f, wfH h)
    (hy : Rd SH w w.heap.size B t) (hn' : t.length = m) (hd : m ≤ d) (hm' : d ≤ 9223372036854775807) (ht : ∀ h ∈ t, wfH h) :
    Calls Try.prog 10 #[.slice A n c, .slice B m d, .int .i64 k] w fun e w' => e = .returned (.int .u64 (hM (behK f t (min (fstN k n) (fstN k m))) : Nat)) ∧ Drew w w' := by
  have HX := hide hx
  have HY := hide hy
  have Hn := hide hn
  have Hm := hide hn'
  have HWf := hide hf
  have HWt := hide ht
  have F1 := fun W => first_any A n c k W hc hm
  have F2 := fun W => first_any B m d k W hd hm'
  have hpn := fstN_le k n
  have hqm := fstN_le k m
  generalize fstN k n = p at *
  generalize fstN k m = q at *
  clear hx hy hn hn' hf ht
  by_cases hpq : q < p
  · rw [Nat.min_eq_right (Nat.le_of_lt hpq)]
    go_enter Try.func10, Try.ntmps10
    go_upto_region 4 with (go_at_call 15; first | (with_reducible refine Calls.mono (F1 _) ?_; rintro e w1 ⟨rfl, rfl⟩) | (with_reducible refine Calls.mono (F2 _) ?_; rintro e w1 ⟨rfl, rfl⟩))
    go_loopw [9, 10, 11, 23] (fun u _ _ i wr => ∃ j : Nat, j ≤ q ∧ i = .int .i64 j ∧ u = .int .u64 (behK f t j : Nat) ∧ Hid (behK f t j ≤ 18446744073709551615) ∧ Drew w wr) (fun _ _ _ i _ => q - (intOf i).toNat)
    case atStart => exact ⟨0, by omega, rfl, rfl, hide (by simp [behK]), Drew.refl _⟩
    case round =>
      obtain ⟨j, hj, rfl, rfl, hS, z, rfl⟩ := hrel
      by_cases hlt : j < q
      · obtain ⟨ad, ⟨x1, x2⟩, rfl, _, hv, q0, q1⟩ := HX.out.hcell (k := j) (by have := Hn.out; omega)
        obtain ⟨ad2, ⟨y1, y2⟩, rfl, _, hu, r0, r1⟩ := HY.out.hcell (k := j) (by have := Hm.out; omega)
        have Wx := hide (HWf.out _ (List.mem_of_getElem? hv))
        have Wy := hide (HWt.out _ (List.mem_of_getElem? hu))
        have HSn := hide (behK_snoc hv hu)
        have hwx := Wx.out.1
        have hwy := Wy.out.1
        simp only at q0 q1 r0 r1 HSn hwx hwy
        clear hv hu q1 r1
        have g0 : (0 : Int) ≤ j := by omega
        have g1 : (j : Int) < q := by omega
        have g2 : (j : Int) < p := by omega
        have g3 : (j : Int) < q := by omega
        generalize hb : behK f t j = s at *
        have HE := hide hb
        clear hb
        have hS9 := hS.out
        by_cases hgt : x1 ≤ y1
        · have d1 : decide (y1 < x1) = false := by simp; omega
          have HSe := hide (show behK f t (j + 1) = s by rw [HSn.out, show (x1 - y1).toNat = 0 by omega]; rfl)
          go_upto_region 6 with fail
          go_quiet (fail)
          go_wp2
          go_roundw
          case rel => exact ⟨j + 1, by omega, by go_num, by rw [HSe.out], hide (by rw [HSe.out]; exact hS9), by first | exact ⟨_, rfl⟩ | exact drewN_drewN' _ _ _ | exact ⟨_, by simp only [World.drewN_drewN]; rfl⟩⟩
          case measure => simp [intOf]; omega
        · have d1 : decide (y1 < x1) = true := by simp; omega
          have hsub : IntKind.u64.wrap (x1 - y1) = x1 - y1 := by rw [IntKind.wrap_u64]; omega
          have HD := hide (show behK f t (j + 1) = s + (x1 - y1).toNat from HSn.out)
          by_cases ho : s + (x1 - y1).toNat ≤ 18446744073709551615
          · have hadd := run_add64_small (x := s) (y := x1 - y1) (by omega) (by omega) (by omega)
            have HSe := hide (show ((behK f t (j + 1) : Nat) : Int) = s + (x1 - y1) by rw [HSn.out]; omega)
            have HSf := hide (show behK f t (j + 1) ≤ 18446744073709551615 by rw [HSn.out]; exact ho)
            clear ho
            go_upto_region 6 with fail
            go_quiet (fail)
            go_upto_region 7 with fail
            go_quiet (fail)
            go_wp2
            go_roundw
            case rel => exact ⟨j + 1, by omega, by go_num, by rw [HSe.out], HSf, by first | exact ⟨_, rfl⟩ | exact drewN_drewN' _ _ _ | exact ⟨_, by simp only [World.drewN_drewN]; rfl⟩⟩
            case measure => simp [intOf]; omega
          · have hadd := run_add64_great (x := s) (y := x1 - y1) (by omega) (by omega) (by omega) (by omega) (by omega)
            have HF := hide (behK_great (f := f) (t := t) (j := j + 1) (k := q) (by omega) (by rw [HSn.out]; omega))
            clear ho
            go_upto_region 6 with fail
            go_quiet (fail)
            go_upto_region 7 with fail
            go_quiet (fail)
            go_wp2
            go_ret
            exact ⟨by rw [HF.out]; rfl, by first | exact ⟨_, rfl⟩ | exact drewN_drewN' _ _ _ | exact ⟨_, by simp only [World.drewN_drewN]; rfl⟩⟩
      · obtain rfl : j = q := by omega
        have HF := hide (behK_small hS.out)
        go_wp2
        go_ret
        exact ⟨by rw [HF.out]; rfl, by first | exact ⟨_, rfl⟩ | exact drewN_drewN' _ _ _ | exact ⟨_, by simp only [World.drewN_drewN]; rfl⟩⟩
  · rw [Nat.min_eq_left (Nat.le_of_not_lt hpq)]
    go_enter Try.func10, Try.ntmps10
    go_upto_region 4 with (go_at_call 15; first | (with_reducible refine Calls.mono (F1 _) ?_; rintro e w1 ⟨rfl, rfl⟩) | (with_reducible refine Calls.mono (F2 _) ?_; rintro e w1 ⟨rfl, rfl⟩))
    go_loopw [9, 10, 11, 23] (fun u _ _ i wr => ∃ j : Nat, j ≤ p ∧ i = .int .i64 j ∧ u = .int .u64 (behK f t j : Nat) ∧ Hid (behK f t j ≤ 18446744073709551615) ∧ Drew w wr) (fun _ _ _ i _ => p - (intOf i).toNat)
    case atStart => exact ⟨0, by omega, rfl, rfl, hide (by simp [behK]), Drew.refl _⟩
    case round =>
      obtain ⟨j, hj, rfl, rfl, hS, z, rfl⟩ := hrel
      by_cases hlt : j < p
      · obtain ⟨ad, ⟨x1, x2⟩, rfl, _, hv, q0, q1⟩ := HX.out.hcell (k := j) (by have := Hn.out; omega)
        obtain ⟨ad2, ⟨y1, y2⟩, rfl, _, hu, r0, r1⟩ := HY.out.hcell (k := j) (by have := Hm.out; omega)
        have Wx := hide (HWf.out _ (List.mem_of_getElem? hv))
        have Wy := hide (HWt.out _ (List.mem_of_getElem? hu))
        have HSn := hide (behK_snoc hv hu)
        have hwx := Wx.out.1
        have hwy := Wy.out.1
        simp only at q0 q1 r0 r1 HSn hwx hwy
        clear hv hu q1 r1
        have g0 : (0 : Int) ≤ j := by omega
        have g1 : (j : Int) < p := by omega
        have g2 : (j : Int) < p := by omega
        have g3 : (j : Int) < q := by omega
        generalize hb : behK f t j = s at *
        have HE := hide hb
        clear hb
        have hS9 := hS.out
        by_cases hgt : x1 ≤ y1
        · have d1 : decide (y1 < x1) = false := by simp; omega
          have HSe := hide (show behK f t (j + 1) = s by rw [HSn.out, show (x1 - y1).toNat = 0 by omega]; rfl)
          go_upto_region 6 with fail
          go_quiet (fail)
          go_wp2
          go_roundw
          case rel => exact ⟨j + 1, by omega, by go_num, by rw [HSe.out], hide (by rw [HSe.out]; exact hS9), by first | exact ⟨_, rfl⟩ | exact drewN_drewN' _ _ _ | exact ⟨_, by simp only [World.drewN_drewN]; rfl⟩⟩
          case measure => simp [intOf]; omega
        · have d1 : decide (y1 < x1) = true := by simp; omega
          have hsub : IntKind.u64.wrap (x1 - y1) = x1 - y1 := by rw [IntKind.wrap_u64]; omega
          have HD := hide (show behK f t (j + 1) = s + (x1 - y1).toNat from HSn.out)
          by_cases ho : s + (x1 - y1).toNat ≤ 18446744073709551615
          · have hadd := run_add64_small (x := s) (y := x1 - y1) (by omega) (by omega) (by omega)
            have HSe := hide (show ((behK f t (j + 1) : Nat) : Int) = s + (x1 - y1) by rw [HSn.out]; omega)
            have HSf := hide (show behK f t (j + 1) ≤ 18446744073709551615 by rw [HSn.out]; exact ho)
            clear ho
            go_upto_region 6 with fail
            go_quiet (fail)
            go_upto_region 7 with fail
            go_quiet (fail)
            go_wp2
            go_roundw
            case rel => exact ⟨j + 1, by omega, by go_num, by rw [HSe.out], HSf, by first | exact ⟨_, rfl⟩ | exact drewN_drewN' _ _ _ | exact ⟨_, by simp only [World.drewN_drewN]; rfl⟩⟩
            case measure => simp [intOf]; omega
          · have hadd := run_add64_great (x := s) (y := x1 - y1) (by omega) (by omega) (by omega) (by omega) (by omega)
            have HF := hide (behK_great (f := f) (t := t) (j := j + 1) (k := p) (by omega) (by rw [HSn.out]; omega))
            clear ho
            go_upto_region 6 with fail
            go_quiet (fail)
            go_upto_region 7 with fail
            go_quiet (fail)
            go_wp2
            go_ret
            exact ⟨by rw [HF.out]; rfl, by first | exact ⟨_, rfl⟩ | exact drewN_drewN' _ _ _ | exact ⟨_, by simp only [World.drewN_drewN]; rfl⟩⟩
      · obtain rfl : j = p := by omega
        have HF := hide (behK_small hS.out)
        go_wp2
        go_ret
        exact ⟨by rw [HF.out]; rfl, by first | exact ⟨_, rfl⟩ | exact drewN_drewN' _ _ _ | exact ⟨_, by simp only [World.drewN_drewN]; rfl⟩⟩

end Go.Proofs.Ytggbokgacffamab
