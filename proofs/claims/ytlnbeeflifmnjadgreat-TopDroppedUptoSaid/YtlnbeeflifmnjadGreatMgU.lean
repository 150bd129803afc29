/-
  Texts of one part, put together. No condition.
-/
import Derived.Test.YtlnbeeflifmnjadGreatMgH
import Derived.Test.YtlnbeeflifmnjadGreatRowN
import Derived.Lib.SlBuf
/-
  The package edges: the reference's With and Without. Conditions: the slices read as lists of ints; at most a million of them.
-/
namespace Go.Proofs.YtlnbeeflifmnjadGreat
open Go.RowKit

/-- a list with a number, and without it -/
def withF (l : List Int) (x : Int) : List Int := if x ∈ l then l else l ++ [x]
def woF (l : List Int) (x : Int) : List Int := l.filter fun y => decide (y ≠ x)
theorem woF_snoc {l : List Int} {k : Nat} {x y : Int} (h : l[k]? = some y) : woF (l.take (k + 1)) x = woF (l.take k) x ++ if y = x then [] else [y] := by
  unfold woF
  rw [List.take_add_one, h, List.filter_append]
  by_cases e : y = x <;> simp [e]
theorem woF_le (l : List Int) (x : Int) (k : Nat) : (woF (l.take k) x).length ≤ k := by
  have := List.length_filter_le (fun y => decide (y ≠ x)) (l.take k)
  rw [List.length_take] at this
  unfold woF; omega
end Go.Proofs.YtlnbeeflifmnjadGreat

/-
  The package edges: the reference's With. Conditions: the slice reads as a list of ints; at most a million of them.
-/
namespace Go.Proofs.YtlnbeeflifmnjadGreat
open Go.RowKit

theorem Rd.step {α : Type} {S : Sh α} {w w' : World} {A : Option Addr} {l : List α} (h : Rd S w w.heap.size A l) (hb : Below w.heap.size w w') : Rd S w' w'.heap.size A l :=
  RdR.rd (Rd.below h hb (Nat.le_refl _)) fun _ hl => Nat.lt_of_lt_of_le hl hb.size
end Go.Proofs.YtlnbeeflifmnjadGreat

/-
  The package edges: what Without calls: the closure, slices.Clone, slices.IndexFunc at ints. Conditions: the slices read as lists of ints.
-/
namespace Go.Proofs.YtlnbeeflifmnjadGreat
open Go.RowKit

theorem without1_any (y x : Int) (b5 : Nat) (w : World) (h5 : Blk w b5 3 #[.int .i64 x]) :
    Calls Tryz.prog 43 #[.int .i64 y, .pointer (some ⟨b5, 0, none⟩)] w fun e w' => e = .returned (.bool (y == x)) ∧ w = w' := by
  have z2 : w.cell? ⟨b5, 0, none⟩ = some (.int .i64 x) := h5.cell 0
  clear h5
  go_enter Tryz.func43, Tryz.ntmps43
  go_wp2
  go_ret
  exact ⟨rfl, rfl⟩
set_option maxHeartbeats 1000000 in
theorem cloneI_any (A : Option Addr) (n c : Nat) (l : List Int) (w : World) (hx : Rd (Sh.int .i64) w w.heap.size A l) (hn : l.length = n) (hc : n ≤ c) (hm : c ≤ 9223372036854775807) (h6 : n ≤ 1048576) :
    Calls Tryz.prog 41 #[.slice A n c] w fun e w' => ∃ v, e = .returned v ∧ w'.ownsRow w.heap.size 3 1 v n (fcs encI l) ∧ Below w.heap.size w w' := by
  have he := fun (W : World) (a : Option Addr) (n c : Nat) => Lib.run_eql_slice_nil W 44 3 a n c 0 0 Tryz.underlying44
  rcases A with _ | ad
  · have hl : l = [] := by
      rcases l with _ | ⟨x, l⟩
      · rfl
      · obtain ⟨_, h, _⟩ := hx (by simp)
        cases h
    subst hl
    obtain rfl : n = 0 := by simpa using hn.symm
    go_enter Tryz.func41, Tryz.ntmps41
    go_wp2
    go_ret
    exact ⟨_, rfl, ⟨rfl, .inl ⟨rfl, rfl⟩⟩, Below.refl _ _⟩
  · have HB := hide (below1 w (.cells #[] 3))
    have HR := hide (flatI.reads (fun _ h => h) (Rd.step hx HB.out) hn)
    have HO := hide (own_start w 3 1)
    obtain ⟨i1, hi1, hz1⟩ := Option.map_eq_some_iff.1 info_intE
    simp only [Prod.mk.injEq] at hz1
    have HI := hide hi1
    have HZ := hide hz1.1
    have HS := hide hz1.2.1
    have HY := hide hz1.2.2
    clear hx hn hi1 hz1
    go_enter Tryz.func41, Tryz.ntmps41
    go_wp2_with (at_builtin; refine wpList_append_any _ rfl _ _ 44 rfl w.heap.size 3 i1 _ 1 8 Tryz.underlying44 HI.out HZ.out HS.out HY.out rfl (by decide) _ 0 [] rfl HO.out _ (some ad) n c (fcs encI l) rfl HR.out (flatI.ones l) (by simp only [maxLen]; omega) (by omega) HB.out.size ?_; intro v' w9 hown9 hgr9 _; have HO9 := hide hown9; have HB9 := hide (below_own HB.out HO.out HB.out.size hgr9); clear hown9 hgr9)
    all_goals go_ret
    all_goals exact ⟨_, rfl, by have h := HO9.out; rwa [Nat.zero_add] at h, HB9.out⟩
end Go.Proofs.YtlnbeeflifmnjadGreat

/-
  The package edges: slices.IndexFunc at ints, by the closure of Without. Conditions: the slice reads as a list of ints.
-/
namespace Go.Proofs.YtlnbeeflifmnjadGreat
open Go.RowKit

set_option maxHeartbeats 1000000 in
theorem indexFunc_any (x : Int) (b5 : Nat) (A : Option Addr) (n c : Nat) (l : List Int) (w : World) (h5 : Blk w b5 3 #[.int .i64 x])
    (hx : Rd (Sh.int .i64) w w.heap.size A l) (hn : l.length = n) (hc : n ≤ c) (hm : c ≤ 9223372036854775807) :
    Calls Tryz.prog 55 #[.slice A n c, .func (.func 43) #[] #[.pointer (some ⟨b5, 0, none⟩)]] w fun e w' =>
      ((e = .returned (.int .i64 (-1)) ∧ x ∉ l) ∨ ∃ k : Nat, e = .returned (.int .i64 (k : Int)) ∧ l[k]? = some x ∧ x ∉ l.take k) ∧ w = w' := by
  have HX := hide hx
  have Hn := hide hn
  have HC := hide (fun y => without1_any y x b5 w h5)
  clear hx hn h5
  go_enter Tryz.func55, Tryz.ntmps55
  go_wp2
  go_loopw [5, 8] (fun _ i wr => ∃ j : Nat, j ≤ n ∧ i = .int .i64 j ∧ Hid (x ∉ l.take j) ∧ wr = w) (fun _ i _ => n - (intOf i).toNat)
  case atStart => exact ⟨0, by omega, rfl, hide (by simp), rfl⟩
  case round =>
    obtain ⟨j, hj, rfl, HA, rfl⟩ := hrel
    by_cases hlt : j < n
    · obtain ⟨ad, y, rfl, _, hv, q0⟩ := RdR.icell HX.out (k := j) (by have := Hn.out; omega)
      have g0 : (0 : Int) ≤ j := by omega
      have g1 : (j : Int) < n := by omega
      have HV := hide hv
      clear hv
      by_cases e : y = x
      · have HE := hide e
        have he : (y == x) = true := by simpa using e
        clear e
        go_wp2_with (go_at_call 43; refine (HC.out _).mono ?_; rintro e _ ⟨rfl, rfl⟩)
        go_ret
        exact ⟨.inr ⟨j, rfl, by rw [← HE.out]; exact HV.out, HA.out⟩, rfl⟩
      · have HS := hide (show x ∉ l.take (j + 1) by rw [mem_take_snoc HV.out]; rintro (h | h); exact HA.out h; exact e h.symm)
        have he : (y == x) = false := by simpa using e
        clear e
        go_wp2_with (go_at_call 43; refine (HC.out _).mono ?_; rintro e _ ⟨rfl, rfl⟩)
        go_roundw
        case rel => exact ⟨j + 1, by omega, by go_num, HS, by first | exact rfl | trivial⟩
        case measure => simp [intOf]; omega
    · obtain rfl : j = n := by omega
      go_wp2
      go_ret
      exact ⟨.inl ⟨rfl, by have h := HA.out; rwa [List.take_of_length_le (by have := Hn.out; omega)] at h⟩, rfl⟩
end Go.Proofs.YtlnbeeflifmnjadGreat

/-
  The package edges: rows of ints in a block of the call's own; the builtin clear. No condition.
-/
namespace Go.Proofs.YtlnbeeflifmnjadGreat
open Go.RowKit

end Go.Proofs.YtlnbeeflifmnjadGreat

/-
  The package edges: slices.DeleteFunc at ints. Conditions: the row is the call's own.
-/
namespace Go.Proofs.YtlnbeeflifmnjadGreat
open Go.RowKit

end Go.Proofs.YtlnbeeflifmnjadGreat

/-
  The package edges: slices.DeleteFunc at ints. Conditions: the row is the call's own.
-/
namespace Go.Proofs.YtlnbeeflifmnjadGreat
open Go.RowKit

theorem woF_none {l : List Int} {x : Int} (h : x ∉ l) : woF l x = l := List.filter_eq_self.2 fun y hy => decide_eq_true fun e => h (e ▸ hy)
theorem take_snocI {l : List Int} {k : Nat} {x : Int} (h : l[k]? = some x) : l.take (k + 1) = l.take k ++ [x] := by
  rw [List.take_add_one, h]; rfl
/-- what DeleteFunc's loop keeps -/
def KN (x : Int) (t : List Int) (j i : Nat) (l : List Int) : Prop := l.length = t.length ∧ i < j ∧ j ≤ t.length ∧ l.take i = woF (t.take j) x ∧ ∀ k, j ≤ k → l[k]? = t[k]?
theorem KN.start {x : Int} {t : List Int} {k : Nat} (hx : t[k]? = some x) (ha : x ∉ t.take k) : KN x t (k + 1) k t := by
  have hk := (List.getElem?_eq_some_iff.1 hx).1
  exact ⟨rfl, by omega, by omega, by rw [woF_snoc hx, if_pos rfl, List.append_nil, woF_none ha], fun _ _ => rfl⟩
theorem KN.skip {x : Int} {t : List Int} {j i : Nat} {l : List Int} (h : KN x t j i l) (hx : t[j]? = some x) : KN x t (j + 1) i l := by
  have hk := (List.getElem?_eq_some_iff.1 hx).1
  obtain ⟨h1, h2, h3, h4, h5⟩ := h
  exact ⟨h1, by omega, by omega, by rw [woF_snoc hx, if_pos rfl, List.append_nil]; exact h4, fun k hk => h5 k (by omega)⟩
theorem KN.keep {x y : Int} {t : List Int} {j i : Nat} {l : List Int} (h : KN x t j i l) (hy : t[j]? = some y) (e : y ≠ x) : KN x t (j + 1) (i + 1) (l.set i y) := by
  have hk := (List.getElem?_eq_some_iff.1 hy).1
  obtain ⟨h1, h2, h3, h4, h5⟩ := h
  refine ⟨by simpa using h1, by omega, by omega, ?_, fun k hk => ?_⟩
  · rw [woF_snoc hy, if_neg e, ← h4, take_snocI (x := y) (by rw [List.getElem?_set, if_pos rfl, if_pos (by omega)])]
    rw [List.take_set, List.set_eq_of_length_le (by rw [List.length_take]; omega)]
  · rw [List.getElem?_set, if_neg (by omega)]; exact h5 k (by omega)
set_option maxHeartbeats 2000000 in
theorem deleteFunc_any (base g cap n b5 : Nat) (x : Int) (t : List Int) (w : World) (hR : RowN w base g n cap t) (hm : cap ≤ 9223372036854775807) (h5 : Blk w b5 3 #[.int .i64 x]) (hb5 : b5 < g) :
    Calls Tryz.prog 42 #[.slice (some ⟨g, 0, none⟩) n cap, .func (.func 43) #[] #[.pointer (some ⟨b5, 0, none⟩)]] w fun e w' =>
      e = .returned (.slice (some ⟨g, 0, none⟩) (woF t x).length cap) ∧ (∀ R : Nat → Prop, R g → RdR (Sh.int .i64) w' R (some ⟨g, 0, none⟩) (woF t x)) ∧ Below g w w' := by
  have hgl := hR.lt
  have hn := hR.len
  have hnc : n ≤ cap := by obtain ⟨_, _, _, _, _, h, _⟩ := hR.blk; exact h
  have HC := indexFunc_any x b5 (some ⟨g, 0, none⟩) n cap t w h5 (hR.rdr (R := fun b => b < w.heap.size) hgl) hn hnc hm
  have HR := hide hR
  have Hn := hide hn
  have H5 := hide h5
  clear hR hn h5
  by_cases hin : x ∈ t
  · have HC1 := hide (Calls.mono HC (R' := fun e w' => (∃ k : Nat, e = .returned (.int .i64 (k : Int)) ∧ t[k]? = some x ∧ x ∉ t.take k) ∧ w = w') (by
      rintro e w' ⟨h | h, hw⟩
      · exact (h.2 hin).elim
      · exact ⟨h, hw⟩))
    clear HC hin
    go_enter Tryz.func42, Tryz.ntmps42
    go_wp2_with fail
    refine HC1.out.mono ?_
    rintro e w1 ⟨⟨k, rfl, hx, hk⟩, rfl⟩
    have HK := hide (KN.start hx hk)
    have hkn : k < n := by have := (List.getElem?_eq_some_iff.1 hx).1; have := Hn.out; omega
    have hne : ((k : Int) == -1) = false := beq_eq_false_iff_ne.2 (by omega)
    clear hx hk HC1
    go_upto_region 5 with fail
    go_loopw [5, 6, 7] (fun s5 s6 _ wr => ∃ (i j : Nat) (l : List Int), s5 = .int .i64 i ∧ s6 = .int .i64 j ∧ j ≤ n ∧ i < j ∧ Hid (KN x t j i l) ∧ Hid (RowN wr base g n cap l) ∧ Hid (Below g w wr)) (fun _ j _ _ => n - (intOf j).toNat)
    case atStart => exact ⟨k, k + 1, t, rfl, by first | rfl | go_num, by omega, by omega, HK, HR, hide (Below.refl _ _)⟩
    case round =>
      obtain ⟨i, j, l, rfl, rfl, hj, hij, HI, HRw, HBl⟩ := hrel
      have hln : l.length = n := HRw.out.len
      by_cases hlt : j < n
      · obtain ⟨y, hv⟩ : ∃ v, l[j]? = some v := ⟨_, List.getElem?_eq_getElem (by omega)⟩
        obtain ⟨z, hu⟩ : ∃ v, l[i]? = some v := ⟨_, List.getElem?_eq_getElem (by omega)⟩
        have q0 : wr.cell? ⟨g, j, none⟩ = some (.int .i64 y) := HRw.out.cell hv
        have d0 : wr.cell? ⟨g, i, none⟩ = some (.int .i64 z) := HRw.out.cell hu
        have f0 := HRw.out.frozen i
        have HV := hide (show t[j]? = some y by rw [← HI.out.2.2.2.2 j (Nat.le_refl _)]; exact hv)
        have g0 : (0 : Int) ≤ j := by omega
        have g1 : (j : Int) < n := by omega
        have g2 : (0 : Int) ≤ i := by omega
        have g3 : (i : Int) < n := by omega
        have HC := hide (without1_any y x b5 wr (H5.out.below HBl.out hb5))
        clear hv hu hln
        by_cases e : y = x
        · have HE := hide (HI.out.skip (by rw [← e]; exact HV.out))
          have he : (y == x) = true := by simpa using e
          clear e
          go_wp2_with (go_at_call 43; refine HC.out.mono ?_; rintro e _ ⟨rfl, rfl⟩)
          go_roundw
          case rel => exact ⟨i, j + 1, l, rfl, by go_num, by omega, by omega, HE, HRw, HBl⟩
          case measure => simp [intOf]; omega
        · have HE := hide (HI.out.keep HV.out e)
          have he : (y == x) = false := by simpa using e
          clear e
          go_wp2_with (go_at_call 43; refine HC.out.mono ?_; rintro e _ ⟨rfl, rfl⟩)
          go_roundw
          case rel => exact ⟨i + 1, j + 1, l.set i y, by go_num, by go_num, by omega, by omega, HE, hide (HRw.out.set y), hide (HBl.out.setCell (Nat.le_refl _) _)⟩
          case measure => simp [intOf]; omega
      · obtain rfl : j = n := by omega
        obtain ⟨w7, hw7, h7, hb7⟩ := HRw.out.clear hij 0 (cap - i)
        have HL := hide (show woF t x = l.take i by rw [HI.out.2.2.2.1, List.take_of_length_le (by have := Hn.out; omega)])
        have hi' : (i : Int) ≤ j := by omega
        have H7 := hide h7
        have HB7 := hide (HBl.out.trans hb7)
        have Hln := hide hln
        clear h7 hb7 hln
        go_wp2
        go_ret
        exact ⟨by rw [HL.out, List.length_take, Hln.out, Nat.min_eq_left (Nat.le_of_lt hij)]; rfl, fun R hr => by rw [HL.out]; exact H7.out R hr, HB7.out⟩
  · have HC1 := hide (Calls.mono HC (R' := fun e w' => e = .returned (.int .i64 (-1)) ∧ w = w') (by
      rintro e w' ⟨h | ⟨k, _, h, _⟩, hw⟩
      · exact ⟨h.1, hw⟩
      · exact (hin (List.mem_of_getElem? h)).elim))
    have HA := hide (woF_none hin)
    clear HC hin
    go_enter Tryz.func42, Tryz.ntmps42
    go_wp2_with (go_at_call 55; refine HC1.out.mono ?_; rintro e _ ⟨rfl, rfl⟩)
    go_ret
    exact ⟨by rw [HA.out, Hn.out]; rfl, fun R hr => by rw [HA.out]; exact HR.out.rdr hr, Below.refl _ _⟩
end Go.Proofs.YtlnbeeflifmnjadGreat

/-
  The package edges: Without. Conditions: the slice reads as a list of ints; at most a million of them.
-/
namespace Go.Proofs.YtlnbeeflifmnjadGreat
open Go.RowKit

theorem deleteFunc_own (base n b5 : Nat) (v : Value) (x : Int) (t : List Int) (w : World) (hO : w.ownsRow base 3 1 v n (fcs encI t)) (h5 : Blk w b5 3 #[.int .i64 x]) (hb5 : b5 < base) :
    Calls Tryz.prog 42 #[v, .func (.func 43) #[] #[.pointer (some ⟨b5, 0, none⟩)]] w fun e w' =>
      ∃ A m c, e = .returned (.slice A m c) ∧ (woF t x).length = m ∧ m ≤ c ∧ c ≤ 9223372036854775807 ∧ RdR (Sh.int .i64) w' (Btw base w'.heap.size) A (woF t x) ∧ Below base w w' := by
  have hl : t.length = n := by have := hO.1; rw [fcsI, List.length_map] at this; omega
  rcases Nat.eq_zero_or_pos n with h0 | h0
  · subst h0
    have ht : t = [] := List.eq_nil_of_length_eq_zero hl
    subst ht
    obtain ⟨A, c, rfl, h1, h3⟩ := own_form hO
    have HC := hide (indexFunc_any x b5 A 0 c [] w h5 RdR.nil rfl h1 h3)
    have HW : woF [] x = [] := rfl
    clear hO h5
    go_enter Tryz.func42, Tryz.ntmps42
    go_wp2_with fail
    refine HC.out.mono ?_
    rintro e _ ⟨h | ⟨k, _, h, _⟩, rfl⟩
    · obtain ⟨rfl, _⟩ := h
      clear HC
      go_wp2
      go_ret
      exact ⟨A, 0, c, rfl, rfl, h1, h3, RdR.nil, Below.refl _ _⟩
    · simp at h
  · obtain ⟨g, cap, rfl, hg, hlt⟩ := hO.form h0
    have hR : RowN w base g n cap t := hO
    obtain ⟨_, cur, _, _, _, hnc, hcm⟩ := hR.blk
    refine (deleteFunc_any base g cap n b5 x t w hR (by simpa [maxLen] using hcm) h5 (by omega)).mono ?_
    rintro e w' ⟨rfl, h1, hb⟩
    refine ⟨_, _, _, rfl, rfl, ?_, by simpa [maxLen] using hcm, h1 _ ⟨hg, ?_⟩, hb.mono hg⟩
    · have := List.length_filter_le (fun y => decide (y ≠ x)) t
      unfold woF; omega
    · have := hb.size; omega
set_option maxHeartbeats 1000000 in
theorem eWithout_any (A : Option Addr) (n c : Nat) (l : List Int) (x : Int) (w : World) (hx : Rd (Sh.int .i64) w w.heap.size A l) (hn : l.length = n) (hc : n ≤ c) (hm : c ≤ 9223372036854775807) (h6 : n ≤ 1048576) :
    Calls Tryz.prog 21 #[.slice A n c, .int .i64 x] w fun e w' => ∃ v, e = .returned v ∧ NewL (Sh.int .i64) w (woF l x) v w' := by
  have HN := hide (Blk.new w 3 #[.int .i64 x])
  have HB := hide (below1 w (.cells #[.int .i64 x] 3))
  have HL := hide (show w.heap.size < (w.alloc (.cells #[.int .i64 x] 3)).heap.size by simp)
  have HX := hide (hx.step HB.out)
  have Hn := hide hn
  clear hx hn
  go_enter Tryz.func21, Tryz.ntmps21
  go_upto_region 1 with fail
  generalize w.alloc (.cells #[.int .i64 x] 3) = w0 at *
  have HC := hide (cloneI_any A n c l w0 HX.out Hn.out hc hm h6)
  go_wp2_with fail
  refine HC.out.mono ?_
  rintro e w1 ⟨v, rfl, ho, hb⟩
  have HD := hide (deleteFunc_own w0.heap.size n w.heap.size v x l w1 ho (HN.out.below hb HN.out.lt) HL.out)
  have HB1 := hide hb
  clear HC ho hb
  go_wp2_with fail
  refine HD.out.mono ?_
  rintro e w2 ⟨A', m', c', rfl, h1, h2, h3, h4, h5⟩
  have HF := hide (show NewL (Sh.int .i64) w (woF l x) (.slice A' m' c') w2 from ⟨A', m', c', rfl, h1, h2, h3, RdR.more h4 (fun b hb => ⟨Nat.le_trans HB.out.size hb.1, hb.2⟩), HB.out.trans ((HB1.out.trans h5).mono HB.out.size)⟩)
  clear h1 h2 h3 h4 h5 HD
  go_wp2
  go_ret
  exact ⟨_, rfl, HF.out⟩
end Go.Proofs.YtlnbeeflifmnjadGreat
