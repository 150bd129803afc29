/-
  The document's distance. Conditions: the slices read as lists of int32s.
-/
import Derived.Test.YtggbokgacffamaaVecD
namespace Go.Proofs.Ytggbokgacffamaa
open Go.RowKit

set_option maxHeartbeats 1000000 in
theorem refVAt_any (A : Option Addr) (n c : Nat) (xs : List Int) (i : Nat) (w : World) (hx : I32s w w.heap.size A xs) (hn : xs.length = n) (hxi : I32 xs) :
    Calls Try.prog 34 #[.slice A n c, .int .i64 i] w fun e w' => e = .returned (.int .i64 (cmpAt xs i)) ∧ w = w' := by
  by_cases h : i < n
  · obtain ⟨ad, x, rfl, _, hx1, c1⟩ := hx.icell (k := i) (by omega)
    have HS := hide (cmpAt_of hx1)
    obtain ⟨b1, b2⟩ := hxi x (List.mem_of_getElem? hx1)
    have h0 : (0 : Int) ≤ i := by omega
    have h1 : (i : Int) < n := by omega
    clear hx hn hx1
    go_enter Try.func34, Try.ntmps34
    go_wp2
    go_ret
    exact ⟨by rw [HS.out]; rfl, rfl⟩
  · have HS := hide (cmpAt_out (xs := xs) (i := i) (by omega))
    have h1 : (n : Int) ≤ i := by omega
    clear hx hn
    go_enter Try.func34, Try.ntmps34
    go_wp2
    go_ret
    exact ⟨by rw [HS.out]; rfl, rfl⟩
theorem sq_self (x : Int) : sq x x = 0 := by simp [sq]
theorem sq_ab {x y : Int} (hl : sq x y < 18446744073709551616) : IntKind.u64.wrap ((x - y) * (x - y)) = sq x y := by
  have := sq_nonneg x y
  unfold sq at *
  rw [IntKind.wrap_u64, Int.emod_eq_of_lt this hl]
theorem sq_ba {x y : Int} (hl : sq x y < 18446744073709551616) : IntKind.u64.wrap ((y - x) * (y - x)) = sq x y := by
  rw [sq_comm] at *
  exact sq_ab hl
theorem u64_over {a b : Int} (h : 18446744073709551616 ≤ a + b) (h2 : a < 18446744073709551616) (h3 : b < 18446744073709551616) (h0 : 0 ≤ a) : IntKind.u64.wrap (a + b) = a + b - 18446744073709551616 := by
  rw [IntKind.wrap_u64]; omega
set_option maxHeartbeats 2000000 in
theorem refDist_any (A B : Option Addr) (n c m d : Nat) (xs ys : List Int) (w : World) (hx : I32s w w.heap.size A xs) (hn : xs.length = n) (hxi : I32 xs) (hc : n ≤ c) (hm : c ≤ 9223372036854775807)
    (hy : I32s w w.heap.size B ys) (hn' : ys.length = m) (hyi : I32 ys) (hd : m ≤ d) (hm' : d ≤ 9223372036854775807) :
    Calls Try.prog 24 #[.slice A n c, .slice B m d] w fun e w' => e = .returned (.int .u64 (distOf xs ys)) ∧ w = w' := by
  have Hn := hide hn
  have Hm := hide hn'
  have HX := hide hxi
  have HY := hide hyi
  have CA := hide (fun (i : Nat) => refVAt_any A n c xs i w hx hn hxi)
  have CB := hide (fun (i : Nat) => refVAt_any B m d ys i w hy hn' hyi)
  have HE := hide (show distOf xs ys = held (sqTo xs ys (max n m)) by unfold distOf; rw [Hn.out, Hm.out])
  generalize hq : max n m = q at *
  rcases (show (q = n ∧ m ≤ n) ∨ (q = m ∧ n < m) by omega) with ⟨rfl, hnm⟩ | ⟨rfl, hnm⟩
  all_goals
    clear hx hy hn hn' hxi hyi hq
    go_enter Try.func24, Try.ntmps24
    go_wp2
    go_loopw [5, 6] (fun s i wr => ∃ k : Nat, k ≤ q ∧ i = .int .i64 k ∧ s = .int .u64 (sqTo xs ys k) ∧ sqTo xs ys k < 18446744073709551616 ∧ w = wr) (fun _ i _ => q - (intOf i).toNat)
    case atStart => exact ⟨0, by omega, rfl, rfl, by simp [sqTo], by first | rfl | trivial⟩
    case round =>
      obtain ⟨k, hk, rfl, rfl, hs, rfl⟩ := hrel
      have hs0 := sqTo_nonneg xs ys k
      by_cases hlt : k < q
      · have h0 : (0 : Int) ≤ k := by omega
        have h1 : (k : Int) < q := by omega
        obtain ⟨bx1, bx2⟩ := cmpAt_le HX.out k
        obtain ⟨by1, by2⟩ := cmpAt_le HY.out k
        have bq := sq_nonneg (cmpAt xs k) (cmpAt ys k)
        have bl := sq_lt ⟨bx1, bx2⟩ ⟨by1, by2⟩
        have CAk := hide (CA.out k)
        have CBk := hide (CB.out k)
        have HS := hide (show sqTo xs ys (k + 1) = sqTo xs ys k + sq (cmpAt xs k) (cmpAt ys k) from rfl)
        have HG := hide (sqTo_mono xs ys (show k + 1 ≤ q by omega))
        generalize cmpAt xs k = x at *
        generalize cmpAt ys k = y at *
        have w1 := sq_ab bl
        have w2 := sq_ba bl
        rcases (show x = y ∨ (x < y ∧ ¬ y < x) ∨ (y < x ∧ ¬ x < y) by omega) with rfl | hxy
        · go_wp2_with (go_at_call 34; (first | (with_reducible refine Calls.mono CAk.out ?_) | (with_reducible refine Calls.mono CBk.out ?_)); rintro e _ ⟨rfl, rfl⟩)
          go_roundw
          case rel => exact ⟨k + 1, by omega, by go_num, by rw [HS.out, sq_self, Int.add_zero], by rw [HS.out, sq_self]; omega, by first | rfl | trivial⟩
          case measure => simp [intOf]; omega
        rcases hxy with ⟨hxy, hyx⟩ | ⟨hyx, hxy⟩
        all_goals
          by_cases ho : sqTo xs ys k + sq x y < 18446744073709551616
          · go_wp2_with (go_at_call 34; (first | (with_reducible refine Calls.mono CAk.out ?_) | (with_reducible refine Calls.mono CBk.out ?_)); rintro e _ ⟨rfl, rfl⟩)
            go_roundw
            case rel => exact ⟨k + 1, by omega, by go_num, by rw [HS.out], by rw [HS.out]; exact ho, by first | rfl | trivial⟩
            case measure => simp [intOf]; omega
          · have w3 := u64_over (a := sqTo xs ys k) (b := sq x y) (by omega) hs bl hs0
            go_wp2_with (go_at_call 34; (first | (with_reducible refine Calls.mono CAk.out ?_) | (with_reducible refine Calls.mono CBk.out ?_)); rintro e _ ⟨rfl, rfl⟩)
            go_ret
            exact ⟨by rw [HE.out, held_great (by have := HS.out; have := HG.out; omega)]; rfl, rfl⟩
      · obtain rfl : q = k := by omega
        have HF := hide (held_small hs)
        go_wp2
        go_ret
        exact ⟨by rw [HE.out, HF.out]; rfl, rfl⟩
end Go.Proofs.Ytggbokgacffamaa
