/-
  The package quant: the sum of a code's distances; equal tables; small books. Conditions: the slices read as lists.
-/
import Derived.Test.YtojanklgjdjniacQuaG
namespace Go.Proofs.Ytojanklgjdjniac
open Go.RowKit

/-- a table's entry -/
def entT (t : List (List Int)) (code : List Int) (i : Nat) : Int := (t.getD i []).getD (code.getD i 0).toNat 0
def farK (t : List (List Int)) (code : List Int) : Nat → Int
  | 0 => 0
  | k + 1 => farK t code k + entT t code k
def okT (t : List (List Int)) (code : List Int) : Prop := code.length = t.length ∧ ∀ (i : Nat) (r : List Int) (n : Int), t[i]? = some r → code[i]? = some n → inR n r.length
def U64L (t : List (List Int)) : Prop := ∀ r ∈ t, ∀ x ∈ r, 0 ≤ x ∧ x < 18446744073709551616
theorem entT_of {t : List (List Int)} {code : List Int} {i : Nat} {r : List Int} {n : Nat} {x : Int} (h : t[i]? = some r) (hn : code[i]? = some (n : Int)) (hx : r[n]? = some x) : entT t code i = x := by
  simp [entT, List.getD_eq_getElem?_getD, h, hn, hx]

set_option maxHeartbeats 4000000 in
theorem far_any (A C : Option Addr) (n c m d : Nat) (t : List (List Int)) (code : List Int) (w : World) (hx : Rd (Sh.list (Sh.int .u64)) w w.heap.size A t) (hn : t.length = n) (hc : n ≤ c) (hm : c ≤ 9223372036854775807) (hu : U64L t)
    (hy : Rd (Sh.int .i64) w w.heap.size C code) (hn' : code.length = m) (hd : m ≤ d) (hm' : d ≤ 9223372036854775807) :
    Calls Try.prog 11 #[.slice A n c, .slice C m d] w fun e w' => ((okT t code ∧ e = .returned (.tuple #[.int .u64 (held (farK t code m)), .int .i64 0])) ∨ (¬ okT t code ∧ e = .returned (.tuple #[.int .u64 0, .int .i64 6]))) ∧ w = w' := by
  by_cases hlen : m = n
  case neg =>
    have hno : ¬ okT t code := fun h => hlen (by rw [← hn, ← hn']; exact h.1)
    have hb0 : ((m : Int) != n) = true := by rw [bne_iff_ne]; omega
    clear hx hy hn hn' hlen hu
    go_enter Try.func11, Try.ntmps11
    go_wp2
    go_ret2
    exact ⟨.inr ⟨hno, rfl⟩, rfl⟩
  subst hlen
  have HX := hide hx
  have HY := hide hy
  have Hn := hide hn
  have Hm := hide hn'
  have HU := hide hu
  clear hx hy hn hn' hu
  go_enter Try.func11, Try.ntmps11
  go_wp2
  go_loopw [6, 7, 8, 9, 10, 18] (fun s o _ _ _ x wr => ∃ (k : Nat) (sv ov : Int), k ≤ m ∧ x = .int .i64 k ∧ s = .int .u64 sv ∧ o = .int .u64 ov ∧ (0 ≤ sv ∧ sv < 18446744073709551616) ∧ Hid ((ov = 0 ∧ sv = farK t code k) ∨ (ov = 1 ∧ 18446744073709551616 ≤ farK t code k)) ∧ Hid (∀ (i : Nat) (r : List Int) (n : Int), i < k → t[i]? = some r → code[i]? = some n → inR n r.length) ∧ w = wr) (fun _ _ _ _ _ x _ => m - (intOf x).toNat)
  case atStart => exact ⟨0, 0, 0, by omega, rfl, rfl, rfl, by omega, hide (.inl ⟨rfl, rfl⟩), hide (fun i p n h => absurd h (by omega)), by first | rfl | trivial⟩
  case round =>
    obtain ⟨k, sv, ov, hk, rfl, rfl, rfl, hs, HSO, HIr, rfl⟩ := hrel
    by_cases hlt : k < m
    · obtain ⟨ad, r, Ar, cr, rfl, _, hv, q0, hl1, hl2, hr⟩ := HX.out.slc (k := k) (by have := Hn.out; omega)
      obtain ⟨adc, n, rfl, _, hcn, q1⟩ := HY.out.icell (k := k) (by have := Hm.out; omega)
      have g0 : (0 : Int) ≤ k := by omega
      have g1 : (k : Int) < m := by omega
      by_cases hin : inR n r.length
      · obtain ⟨j, rfl⟩ : ∃ j : Nat, n = j := ⟨n.toNat, by have := hin.1; omega⟩
        have hjl : j < r.length := by have := hin.2; omega
        obtain ⟨adr, x, rfl, _, hxv, q2⟩ := hr.icell (k := j) hjl
        have hxb := HU.out r (List.mem_of_getElem? hv) x (List.mem_of_getElem? hxv)
        have HFn := hide (show farK t code (k + 1) = farK t code k + x by simp only [farK]; rw [entT_of hv hcn hxv])
        have HI1 := hide (show ∀ (i : Nat) (p' : List Int) (n' : Int), i < k + 1 → t[i]? = some p' → code[i]? = some n' → inR n' p'.length from fun i p' n' hi h1 h2 => by
          rcases Nat.lt_or_ge i k with h | h
          · exact HIr.out i p' n' h h1 h2
          · obtain rfl : i = k := by omega
            rw [hv] at h1; injection h1 with h1; rw [hcn] at h2; injection h2 with h2
            subst h1 h2; exact hin)
        have j0 : (0 : Int) ≤ j := by omega
        have j1 : (j : Int) < r.length := by omega
        have j2 : ¬ (r.length : Int) ≤ j := by omega
        clear hv hcn hr hxv hin
        generalize r.length = rl at *
        by_cases hov : sv + x < 18446744073709551616
        · have hadd := run_add64_small hs.1 hxb.1 hov
          rcases HSO.out with ⟨rfl, e⟩ | ⟨rfl, e⟩
          · have HS1 := hide (show ((0 : Int) = 0 ∧ sv + x = farK t code (k + 1)) ∨ ((0 : Int) = 1 ∧ 18446744073709551616 ≤ farK t code (k + 1)) from .inl ⟨rfl, by rw [HFn.out, e]⟩)
            clear e
            go_wp2
            go_roundw
            case rel => exact ⟨k + 1, sv + x, 0, by omega, by go_num, rfl, rfl, by omega, HS1, HI1, by first | rfl | trivial⟩
            case measure => simp [intOf]; omega
          · have HS1 := hide (show ((1 : Int) = 0 ∧ sv + x = farK t code (k + 1)) ∨ ((1 : Int) = 1 ∧ 18446744073709551616 ≤ farK t code (k + 1)) from .inr ⟨rfl, by rw [HFn.out]; omega⟩)
            clear e
            go_wp2
            go_roundw
            case rel => exact ⟨k + 1, sv + x, 1, by omega, by go_num, rfl, rfl, by omega, HS1, HI1, by first | rfl | trivial⟩
            case measure => simp [intOf]; omega
        · have hadd := run_add64_great hs.1 hxb.1 hs.2 hxb.2 (by omega)
          have HS1 := hide (show ((1 : Int) = 0 ∧ sv + x - 18446744073709551616 = farK t code (k + 1)) ∨ ((1 : Int) = 1 ∧ 18446744073709551616 ≤ farK t code (k + 1)) from .inr ⟨rfl, by rw [HFn.out]; rcases HSO.out with ⟨_, e⟩ | ⟨_, e⟩ <;> omega⟩)
          rcases HSO.out with ⟨rfl, e⟩ | ⟨rfl, e⟩
          · clear e
            go_wp2
            go_roundw
            case rel => exact ⟨k + 1, sv + x - 18446744073709551616, 1, by omega, by go_num, rfl, rfl, by omega, HS1, HI1, by first | rfl | trivial⟩
            case measure => simp [intOf]; omega
          · clear e
            go_wp2
            go_roundw
            case rel => exact ⟨k + 1, sv + x - 18446744073709551616, 1, by omega, by go_num, rfl, rfl, by omega, HS1, HI1, by first | rfl | trivial⟩
            case measure => simp [intOf]; omega
      · have HNO := hide (show ¬ okT t code from fun h => hin (h.2 k r n hv hcn))
        clear hv hcn hr
        generalize r.length = rl at *
        by_cases hneg : n < 0
        · go_wp2
          go_ret2
          exact ⟨.inr ⟨HNO.out, rfl⟩, rfl⟩
        · have hge : (rl : Int) ≤ n := by unfold inR at hin; omega
          go_wp2
          go_ret2
          exact ⟨.inr ⟨HNO.out, rfl⟩, rfl⟩
    · obtain rfl : k = m := by omega
      have HOK := hide (show okT t code from ⟨by rw [Hn.out, Hm.out], fun i p n h1 h2 => HIr.out i p n (by have := (List.getElem?_eq_some_iff.1 h1).1; have := Hn.out; omega) h1 h2⟩)
      rcases HSO.out with ⟨rfl, e⟩ | ⟨rfl, e⟩
      · have HF := hide (show held (farK t code k) = sv by rw [← e]; exact held_small hs.2)
        clear e
        go_wp2
        go_ret2
        exact ⟨.inl ⟨HOK.out, by rw [HF.out]; rfl⟩, rfl⟩
      · have HF := hide (show held (farK t code k) = 18446744073709551615 from held_great e)
        clear e
        go_wp2
        go_ret2
        exact ⟨.inl ⟨HOK.out, by rw [HF.out]; rfl⟩, rfl⟩

def smallB (b : Book) : Bool := decide (b.length ≤ 70) && b.all fun p => decide (p.length ≤ 300) && p.all fun c => decide (c.length ≤ 50)
set_option maxHeartbeats 2000000 in
theorem qsmall_any (A : Option Addr) (n c : Nat) (b : Book) (w : World) (hx : Rd SPart w w.heap.size A b) (hn : b.length = n) (hc : n ≤ c) (hm : c ≤ 9223372036854775807) :
    Calls Try.prog 5 #[.slice A n c] w fun e w' => (∃ r, e = .returned (.bool r)) ∧ w = w' := by
  have HX := hide hx
  have Hn := hide hn
  clear hx hn
  by_cases h7 : 70 < (n : Int)
  · go_enter Try.func5, Try.ntmps5
    go_wp2
    go_ret
    exact ⟨⟨_, rfl⟩, rfl⟩
  go_enter Try.func5, Try.ntmps5
  go_wp2
  go_loopw [4, 6, 12, 19, 20, 21] (fun _ _ x _ _ _ wr => ∃ k : Nat, k ≤ n ∧ x = .int .i64 k ∧ w = wr) (fun _ _ x _ _ _ _ => n - (intOf x).toNat)
  case atStart => exact ⟨0, by omega, rfl, by first | rfl | trivial⟩
  case round =>
    obtain ⟨k, hk, rfl, rfl⟩ := hrel
    by_cases hlt : k < n
    · obtain ⟨ad, p, Ap, cp, rfl, _, hv, q0, hl1, hl2, hrp⟩ := HX.out.slc (k := k) (by have := Hn.out; omega)
      have HP := hide hrp
      have g0 : (0 : Int) ≤ k := by omega
      have g1 : (k : Int) < n := by omega
      clear hv hrp
      generalize hpl : p.length = pl at *
      have HPL := hide hpl
      clear hpl
      by_cases h3 : 300 < (pl : Int)
      · go_wp2
        go_ret
        exact ⟨⟨_, rfl⟩, rfl⟩
      go_wp2
      go_loopw [6, 21] (fun _ y wq => ∃ j : Nat, j ≤ pl ∧ y = .int .i64 j ∧ w = wq) (fun _ y _ => pl - (intOf y).toNat)
      case atStart => exact ⟨0, by omega, rfl, by first | rfl | trivial⟩
      case round =>
        obtain ⟨j, hj, rfl, rfl⟩ := hrel
        by_cases hltj : j < pl
        · obtain ⟨adp, v, Av, cv, rfl, _, hvv, q1, hv1, hv2, hrv⟩ := HP.out.slc (k := j) (by have := HPL.out; omega)
          have j0 : (0 : Int) ≤ j := by omega
          have j1 : (j : Int) < pl := by omega
          clear hvv hrv
          generalize v.length = vl at *
          by_cases h5 : 50 < (vl : Int)
          · go_wp2
            go_ret
            exact ⟨⟨_, rfl⟩, rfl⟩
          go_wp2
          go_roundw
          case rel => exact ⟨j + 1, by omega, by go_num, by first | rfl | trivial⟩
          case measure => simp [intOf]; omega
        · obtain rfl : j = pl := by omega
          go_wp2
          go_roundw
          case rel => exact ⟨k + 1, by omega, by go_num, by first | rfl | trivial⟩
          case measure => simp [intOf]; omega
    · obtain rfl : k = n := by omega
      go_wp2
      go_ret
      exact ⟨⟨_, rfl⟩, rfl⟩
end Go.Proofs.Ytojanklgjdjniac
