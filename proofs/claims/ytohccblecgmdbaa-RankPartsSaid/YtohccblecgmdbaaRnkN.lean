/-
  The package rank: Merge. Conditions: the slices read as lists of hits; at most some hundred thousand hits.
-/
import Derived.Test.YtohccblecgmdbaaRnkM
import Derived.Test.YtohccblecgmdbaaRnkK
namespace Go.Proofs.Ytohccblecgmdbaa
open Go.RowKit

theorem dd_short {l : List Hit} (h : l.length < 2) : dd l = l := by
  rcases l with _ | ⟨x, _ | ⟨y, l⟩⟩
  · rfl
  · simp [dd]
  · simp only [List.length_cons] at h; omega
set_option maxHeartbeats 1000000 in
theorem compact_any (base : Nat) (v : Value) (n : Nat) (l : List Hit) (w : World) (ho : w.ownsRow base 34 2 v n (fcs encH l)) (h6 : n ≤ 1000000) :
    Calls Try.prog 26 #[v] w fun e w' =>
      ∃ A m c, e = .returned (.slice A m c) ∧ (dd l).length = m ∧ m ≤ c ∧ c ≤ 9223372036854775807 ∧ RdR SH w' (Btw base w'.heap.size) A (dd l) ∧ Below base w w' := by
  have hl : l.length = n := by have := ho.1; rw [flatH.clen] at this; exact Nat.eq_of_mul_eq_mul_right flatH.pos this
  by_cases h2 : 2 ≤ n
  · obtain ⟨g, cap, rfl, hg, hlt⟩ := ho.form (by omega)
    have hR : RowH w base g n cap l := ho
    obtain ⟨_, cur, _, _, _, hnc, hcm⟩ := hR.blk
    refine (compact2_any base g n cap l w hR h2 h6 (by simpa [maxLen] using hcm)).mono ?_
    rintro e w' ⟨rfl, h1, hb⟩
    refine ⟨_, _, _, rfl, rfl, ?_, by simpa [maxLen] using hcm, h1 _ ⟨hg, ?_⟩, hb.mono hg⟩
    · have := dd_len l; omega
    · have := hb.size; omega
  · obtain ⟨A, c, rfl, h1, h3⟩ := own_form ho
    have HO := hide (flatH.own ho)
    have HD := hide (dd_short (l := l) (by omega))
    have hn2 : (n : Int) < 2 := by omega
    have Hl := hide hl
    clear ho hl
    go_enter Try.func26, Try.ntmps26
    go_wp2
    go_ret
    exact ⟨A, n, c, rfl, by rw [HD.out, Hl.out], h1, h3, by rw [HD.out]; exact HO.out, Below.refl _ _⟩
set_option maxHeartbeats 1000000 in
theorem merge_any (A B : Option Addr) (n c m d : Nat) (l k : List Hit) (w : World) (hx : Rd SH w w.heap.size A l) (hn : l.length = n) (hc : n ≤ c) (hm : c ≤ 9223372036854775807)
    (hy : Rd SH w w.heap.size B k) (hn' : k.length = m) (hd : m ≤ d) (hm' : d ≤ 9223372036854775807) (h6 : n ≤ 400000) (h7 : m ≤ 400000) :
    Calls Try.prog 13 #[.slice A n c, .slice B m d] w fun e w' => ∃ v, e = .returned v ∧ NewL SH w (dd (srtH (l ++ k))) v w' := by
  have HX := hide hx
  have HY := hide hy
  have Hn := hide hn
  have Hm := hide hn'
  have HB0 := hide (below1 w (.cells #[.slice A n c, .slice B m d] 23))
  have HN := hide (Blk.new w 23 #[.slice A n c, .slice B m d])
  clear hx hy hn hn'
  go_enter Try.func13, Try.ntmps13
  go_wp2_with fail
  generalize w.alloc (.cells #[.slice A n c, .slice B m d] 23) = w1 at *
  have HC := hide (concat_any w.heap.size A B n c m d l k w1 HN.out (RdR.rd (Rd.below HX.out HB0.out (Nat.le_refl _)) fun b hb => Nat.lt_of_lt_of_le hb HB0.out.size) Hn.out hc hm (RdR.rd (Rd.below HY.out HB0.out (Nat.le_refl _)) fun b hb => Nat.lt_of_lt_of_le hb HB0.out.size) Hm.out hd hm' h6 h7)
  refine HC.out.mono ?_
  rintro e w2 ⟨v, rfl, ho, hb⟩
  have HB2 := hide (HB0.out.trans (hb.mono HB0.out.size))
  have HS := hide (sortH_any _ v (n + m) (l ++ k) w2 ho (by omega))
  have HO := hide ho
  have HB1 := hide hb
  clear ho hb HC
  go_wp2_with fail
  refine HS.out.mono ?_
  rintro e w3 ⟨rfl, ho3, hg3⟩
  have HB3 := hide (HB0.out.trans ((below_own HB1.out HO.out HB1.out.size hg3).mono HB0.out.size))
  have HB13 := hide (below_own HB1.out HO.out HB1.out.size hg3)
  have HC := hide (compact_any _ v (n + m) (srtH (l ++ k)) w3 ho3 (by omega))
  clear ho3 hg3 HS
  go_wp2_with fail
  refine HC.out.mono ?_
  rintro e w4 ⟨A', m', c', rfl, h1, h2, h3, h4, h5⟩
  have HF := hide (show NewL SH w (dd (srtH (l ++ k))) (.slice A' m' c') w4 from ⟨A', m', c', rfl, h1, h2, h3, RdR.more h4 (fun b hb => ⟨Nat.le_trans HB0.out.size hb.1, hb.2⟩), HB0.out.trans ((HB13.out.trans h5).mono HB0.out.size)⟩)
  clear h1 h2 h3 h4 h5 HC
  go_wp2
  go_ret
  exact ⟨_, rfl, HF.out⟩
end Go.Proofs.Ytohccblecgmdbaa
