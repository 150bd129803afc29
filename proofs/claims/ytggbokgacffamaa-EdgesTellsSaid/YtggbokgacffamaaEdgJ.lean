/-
  The package edges: Without. Conditions: the slice reads as a list of ints; at most a million of them.
-/
import Derived.Test.YtggbokgacffamaaEdgI
namespace Go.Proofs.Ytggbokgacffamaa
open Go.RowKit

theorem deleteFunc_own (base n b5 : Nat) (v : Value) (x : Int) (t : List Int) (w : World) (hO : w.ownsRow base 3 1 v n (fcs encI t)) (h5 : Blk w b5 3 #[.int .i64 x]) (hb5 : b5 < base) :
    Calls Try.prog 27 #[v, .func (.func 29) #[] #[.pointer (some ⟨b5, 0, none⟩)]] w fun e w' =>
      ∃ A m c, e = .returned (.slice A m c) ∧ (woF t x).length = m ∧ m ≤ c ∧ c ≤ 9223372036854775807 ∧ RdR (Sh.int .i64) w' (Btw base w'.heap.size) A (woF t x) ∧ Below base w w' := by
  have hl : t.length = n := by have := hO.1; rw [fcsI, List.length_map] at this; omega
  rcases Nat.eq_zero_or_pos n with h0 | h0
  · subst h0
    have ht : t = [] := List.eq_nil_of_length_eq_zero hl
    subst ht
    obtain ⟨A, c, rfl, h1, h3⟩ := own_form hO
    have HC := hide (indexFunc_any x b5 A 0 c [] w h5 RdR.nil rfl h1 h3)
    have HW : woF [] x = [] := rfl
    clear hO h5
    go_enter Try.func27, Try.ntmps27
    go_wp2_with fail
    refine HC.out.mono ?_
    rintro e _ ⟨h | ⟨k, _, h, _⟩, rfl⟩
    · obtain ⟨rfl, _⟩ := h
      clear HC
      go_wp2
      go_ret
      exact ⟨A, 0, c, rfl, rfl, h1, h3, RdR.nil, Below.refl _ _⟩
    · simp at h
  · obtain ⟨g, cap, rfl, hg, hlt⟩ := hO.form h0
    have hR : RowN w base g n cap t := hO
    obtain ⟨_, cur, _, _, _, hnc, hcm⟩ := hR.blk
    refine (deleteFunc_any base g cap n b5 x t w hR (by simpa [maxLen] using hcm) h5 (by omega)).mono ?_
    rintro e w' ⟨rfl, h1, hb⟩
    refine ⟨_, _, _, rfl, rfl, ?_, by simpa [maxLen] using hcm, h1 _ ⟨hg, ?_⟩, hb.mono hg⟩
    · have := List.length_filter_le (fun y => decide (y ≠ x)) t
      unfold woF; omega
    · have := hb.size; omega
set_option maxHeartbeats 1000000 in
theorem eWithout_any (A : Option Addr) (n c : Nat) (l : List Int) (x : Int) (w : World) (hx : Rd (Sh.int .i64) w w.heap.size A l) (hn : l.length = n) (hc : n ≤ c) (hm : c ≤ 9223372036854775807) (h6 : n ≤ 1000000) :
    Calls Try.prog 15 #[.slice A n c, .int .i64 x] w fun e w' => ∃ v, e = .returned v ∧ NewL (Sh.int .i64) w (woF l x) v w' := by
  have HN := hide (Blk.new w 3 #[.int .i64 x])
  have HB := hide (below1 w (.cells #[.int .i64 x] 3))
  have HL := hide (show w.heap.size < (w.alloc (.cells #[.int .i64 x] 3)).heap.size by simp)
  have HX := hide (hx.step HB.out)
  have Hn := hide hn
  clear hx hn
  go_enter Try.func15, Try.ntmps15
  go_upto_region 1 with fail
  generalize w.alloc (.cells #[.int .i64 x] 3) = w0 at *
  have HC := hide (cloneI_any A n c l w0 HX.out Hn.out hc hm h6)
  go_wp2_with fail
  refine HC.out.mono ?_
  rintro e w1 ⟨v, rfl, ho, hb⟩
  have HD := hide (deleteFunc_own w0.heap.size n w.heap.size v x l w1 ho (HN.out.below hb HN.out.lt) HL.out)
  have HB1 := hide hb
  clear HC ho hb
  go_wp2_with fail
  refine HD.out.mono ?_
  rintro e w2 ⟨A', m', c', rfl, h1, h2, h3, h4, h5⟩
  have HF := hide (show NewL (Sh.int .i64) w (woF l x) (.slice A' m' c') w2 from ⟨A', m', c', rfl, h1, h2, h3, RdR.more h4 (fun b hb => ⟨Nat.le_trans HB.out.size hb.1, hb.2⟩), HB.out.trans ((HB1.out.trans h5).mono HB.out.size)⟩)
  clear h1 h2 h3 h4 h5 HD
  go_wp2
  go_ret
  exact ⟨_, rfl, HF.out⟩
end Go.Proofs.Ytggbokgacffamaa
