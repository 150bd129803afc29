/-
  The package edges: slices.DeleteFunc at ints. Conditions: the row is the call's own.
-/
import Derived.Test.YtggbokgacffamaaEdgH
namespace Go.Proofs.Ytggbokgacffamaa
open Go.RowKit

theorem woF_none {l : List Int} {x : Int} (h : x ∉ l) : woF l x = l := List.filter_eq_self.2 fun y hy => decide_eq_true fun e => h (e ▸ hy)
theorem take_snocI {l : List Int} {k : Nat} {x : Int} (h : l[k]? = some x) : l.take (k + 1) = l.take k ++ [x] := by
  rw [List.take_add_one, h]; rfl
/-- what DeleteFunc's loop keeps -/
def KN (x : Int) (t : List Int) (j i : Nat) (l : List Int) : Prop := l.length = t.length ∧ i < j ∧ j ≤ t.length ∧ l.take i = woF (t.take j) x ∧ ∀ k, j ≤ k → l[k]? = t[k]?
theorem KN.start {x : Int} {t : List Int} {k : Nat} (hx : t[k]? = some x) (ha : x ∉ t.take k) : KN x t (k + 1) k t := by
  have hk := (List.getElem?_eq_some_iff.1 hx).1
  exact ⟨rfl, by omega, by omega, by rw [woF_snoc hx, if_pos rfl, List.append_nil, woF_none ha], fun _ _ => rfl⟩
theorem KN.skip {x : Int} {t : List Int} {j i : Nat} {l : List Int} (h : KN x t j i l) (hx : t[j]? = some x) : KN x t (j + 1) i l := by
  have hk := (List.getElem?_eq_some_iff.1 hx).1
  obtain ⟨h1, h2, h3, h4, h5⟩ := h
  exact ⟨h1, by omega, by omega, by rw [woF_snoc hx, if_pos rfl, List.append_nil]; exact h4, fun k hk => h5 k (by omega)⟩
theorem KN.keep {x y : Int} {t : List Int} {j i : Nat} {l : List Int} (h : KN x t j i l) (hy : t[j]? = some y) (e : y ≠ x) : KN x t (j + 1) (i + 1) (l.set i y) := by
  have hk := (List.getElem?_eq_some_iff.1 hy).1
  obtain ⟨h1, h2, h3, h4, h5⟩ := h
  refine ⟨by simpa using h1, by omega, by omega, ?_, fun k hk => ?_⟩
  · rw [woF_snoc hy, if_neg e, ← h4, take_snocI (x := y) (by rw [List.getElem?_set, if_pos rfl, if_pos (by omega)])]
    rw [List.take_set, List.set_eq_of_length_le (by rw [List.length_take]; omega)]
  · rw [List.getElem?_set, if_neg (by omega)]; exact h5 k (by omega)
set_option maxHeartbeats 2000000 in
theorem deleteFunc_any (base g cap n b5 : Nat) (x : Int) (t : List Int) (w : World) (hR : RowN w base g n cap t) (hm : cap ≤ 9223372036854775807) (h5 : Blk w b5 3 #[.int .i64 x]) (hb5 : b5 < g) :
    Calls Try.prog 27 #[.slice (some ⟨g, 0, none⟩) n cap, .func (.func 29) #[] #[.pointer (some ⟨b5, 0, none⟩)]] w fun e w' =>
      e = .returned (.slice (some ⟨g, 0, none⟩) (woF t x).length cap) ∧ (∀ R : Nat → Prop, R g → RdR (Sh.int .i64) w' R (some ⟨g, 0, none⟩) (woF t x)) ∧ Below g w w' := by
  have hgl := hR.lt
  have hn := hR.len
  have hnc : n ≤ cap := by obtain ⟨_, _, _, _, _, h, _⟩ := hR.blk; exact h
  have HC := indexFunc_any x b5 (some ⟨g, 0, none⟩) n cap t w h5 (hR.rdr (R := fun b => b < w.heap.size) hgl) hn hnc hm
  have HR := hide hR
  have Hn := hide hn
  have H5 := hide h5
  clear hR hn h5
  by_cases hin : x ∈ t
  · have HC1 := hide (Calls.mono HC (R' := fun e w' => (∃ k : Nat, e = .returned (.int .i64 (k : Int)) ∧ t[k]? = some x ∧ x ∉ t.take k) ∧ w = w') (by
      rintro e w' ⟨h | h, hw⟩
      · exact (h.2 hin).elim
      · exact ⟨h, hw⟩))
    clear HC hin
    go_enter Try.func27, Try.ntmps27
    go_wp2_with fail
    refine HC1.out.mono ?_
    rintro e w1 ⟨⟨k, rfl, hx, hk⟩, rfl⟩
    have HK := hide (KN.start hx hk)
    have hkn : k < n := by have := (List.getElem?_eq_some_iff.1 hx).1; have := Hn.out; omega
    have hne : ((k : Int) == -1) = false := beq_eq_false_iff_ne.2 (by omega)
    clear hx hk HC1
    go_upto_region 5 with fail
    go_loopw [5, 6, 7] (fun s5 s6 _ wr => ∃ (i j : Nat) (l : List Int), s5 = .int .i64 i ∧ s6 = .int .i64 j ∧ j ≤ n ∧ i < j ∧ Hid (KN x t j i l) ∧ Hid (RowN wr base g n cap l) ∧ Hid (Below g w wr)) (fun _ j _ _ => n - (intOf j).toNat)
    case atStart => exact ⟨k, k + 1, t, rfl, by first | rfl | go_num, by omega, by omega, HK, HR, hide (Below.refl _ _)⟩
    case round =>
      obtain ⟨i, j, l, rfl, rfl, hj, hij, HI, HRw, HBl⟩ := hrel
      have hln : l.length = n := HRw.out.len
      by_cases hlt : j < n
      · obtain ⟨y, hv⟩ : ∃ v, l[j]? = some v := ⟨_, List.getElem?_eq_getElem (by omega)⟩
        obtain ⟨z, hu⟩ : ∃ v, l[i]? = some v := ⟨_, List.getElem?_eq_getElem (by omega)⟩
        have q0 : wr.cell? ⟨g, j, none⟩ = some (.int .i64 y) := HRw.out.cell hv
        have d0 : wr.cell? ⟨g, i, none⟩ = some (.int .i64 z) := HRw.out.cell hu
        have f0 := HRw.out.frozen i
        have HV := hide (show t[j]? = some y by rw [← HI.out.2.2.2.2 j (Nat.le_refl _)]; exact hv)
        have g0 : (0 : Int) ≤ j := by omega
        have g1 : (j : Int) < n := by omega
        have g2 : (0 : Int) ≤ i := by omega
        have g3 : (i : Int) < n := by omega
        have HC := hide (without1_any y x b5 wr (H5.out.below HBl.out hb5))
        clear hv hu hln
        by_cases e : y = x
        · have HE := hide (HI.out.skip (by rw [← e]; exact HV.out))
          have he : (y == x) = true := by simpa using e
          clear e
          go_wp2_with (go_at_call 29; refine HC.out.mono ?_; rintro e _ ⟨rfl, rfl⟩)
          go_roundw
          case rel => exact ⟨i, j + 1, l, rfl, by go_num, by omega, by omega, HE, HRw, HBl⟩
          case measure => simp [intOf]; omega
        · have HE := hide (HI.out.keep HV.out e)
          have he : (y == x) = false := by simpa using e
          clear e
          go_wp2_with (go_at_call 29; refine HC.out.mono ?_; rintro e _ ⟨rfl, rfl⟩)
          go_roundw
          case rel => exact ⟨i + 1, j + 1, l.set i y, by go_num, by go_num, by omega, by omega, HE, hide (HRw.out.set y), hide (HBl.out.setCell (Nat.le_refl _) _)⟩
          case measure => simp [intOf]; omega
      · obtain rfl : j = n := by omega
        obtain ⟨w7, hw7, h7, hb7⟩ := HRw.out.clear hij 0 (cap - i)
        have HL := hide (show woF t x = l.take i by rw [HI.out.2.2.2.1, List.take_of_length_le (by have := Hn.out; omega)])
        have hi' : (i : Int) ≤ j := by omega
        have H7 := hide h7
        have HB7 := hide (HBl.out.trans hb7)
        have Hln := hide hln
        clear h7 hb7 hln
        go_wp2
        go_ret
        exact ⟨by rw [HL.out, List.length_take, Hln.out, Nat.min_eq_left (Nat.le_of_lt hij)]; rfl, fun R hr => by rw [HL.out]; exact H7.out R hr, HB7.out⟩
  · have HC1 := hide (Calls.mono HC (R' := fun e w' => e = .returned (.int .i64 (-1)) ∧ w = w') (by
      rintro e w' ⟨h | ⟨k, _, h, _⟩, hw⟩
      · exact ⟨h.1, hw⟩
      · exact (hin (List.mem_of_getElem? h)).elim))
    have HA := hide (woF_none hin)
    clear HC hin
    go_enter Try.func27, Try.ntmps27
    go_wp2_with (go_at_call 37; refine HC1.out.mono ?_; rintro e _ ⟨rfl, rfl⟩)
    go_ret
    exact ⟨by rw [HA.out, Hn.out]; rfl, fun R hr => by rw [HA.out]; exact HR.out.rdr hr, Below.refl _ _⟩
end Go.Proofs.Ytggbokgacffamaa
