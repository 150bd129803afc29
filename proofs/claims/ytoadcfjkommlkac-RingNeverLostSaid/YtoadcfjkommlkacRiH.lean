/-
  The package ring: the mutexes that are needed, and the document's. Conditions: the slice reads as a list of words.
-/
import Derived.Test.YtoadcfjkommlkacRiG
import Derived.Test.YtoadcfjkommlkacCmpI
import Derived.Test.YtoadcfjkommlkacSrI
namespace Go.Proofs.Ytoadcfjkommlkac
set_option linter.unusedSimpArgs false
set_option linter.unusedVariables false
open Go.RowKit

/-- those from 0 on -/
def nnF (l : List Int) : List Int := l.filter fun y => decide (0 ≤ y)
theorem nnF_snoc {l : List Int} {k : Nat} {y : Int} (h : l[k]? = some y) : nnF (l.take (k + 1)) = nnF (l.take k) ++ if y < 0 then [] else [y] := by
  unfold nnF
  rw [List.take_add_one, h, List.filter_append]
  by_cases e : y < 0
  · have : ¬ 0 ≤ y := by omega
    simp [e, this]
  · have : 0 ≤ y := by omega
    simp [e, this]
theorem nnF_none {l : List Int} (h : ∀ y ∈ l, 0 ≤ y) : nnF l = l := List.filter_eq_self.2 fun y hy => decide_eq_true (h y hy)
theorem all_snoc {l : List Int} {k : Nat} {x : Int} (h : l[k]? = some x) (ha : ∀ y ∈ l.take k, 0 ≤ y) (hx : 0 ≤ x) : ∀ y ∈ l.take (k + 1), 0 ≤ y := fun y hy => by
  rw [take_snoc h] at hy
  rcases List.mem_append.1 hy with hy | hy
  · exact ha y hy
  · rw [List.mem_singleton.1 hy]; exact hx
set_option maxHeartbeats 1000000 in
theorem locks1_any (y : Int) (w : World) : Calls Try.prog 37 #[.int .i64 y] w fun e w' => e = .returned (.bool (decide (y < 0))) ∧ w = w' := by
  go_enter Try.func37, Try.ntmps37
  go_wp2
  go_ret
  exact ⟨rfl, rfl⟩
set_option maxHeartbeats 1000000 in
theorem indexNeg_any (A : Option Addr) (n c : Nat) (l : List Int) (w : World)  (hx : Rd (Sh.int .i64) w w.heap.size A l) (hn : l.length = n) (hc : n ≤ c) (hm : c ≤ 9223372036854775807) :
    Calls Try.prog 43 #[.slice A n c, .func (.func 37) #[] #[]] w fun e w' =>
      ((e = .returned (.int .i64 (-1)) ∧ ∀ z ∈ l, 0 ≤ z) ∨ ∃ (k : Nat) (x : Int), e = .returned (.int .i64 (k : Int)) ∧ l[k]? = some x ∧ x < 0 ∧ ∀ z ∈ l.take k, 0 ≤ z) ∧ w = w' := by
  have HX := hide hx
  have Hn := hide hn
  have HC := hide (fun y => locks1_any y w)
  clear hx hn
  go_enter Try.func43, Try.ntmps43
  go_wp2
  go_loopw [5, 8] (fun _ i wr => ∃ j : Nat, j ≤ n ∧ i = .int .i64 j ∧ Hid (∀ z ∈ l.take j, 0 ≤ z) ∧ wr = w) (fun _ i _ => n - (intOf i).toNat)
  case atStart => exact ⟨0, by omega, rfl, hide (by simp), rfl⟩
  case round =>
    obtain ⟨j, hj, rfl, HA, rfl⟩ := hrel
    by_cases hlt : j < n
    · obtain ⟨ad, y, rfl, _, hv, q0⟩ := RdR.cell HX.out (k := j) (by have := Hn.out; omega)
      have g0 : (0 : Int) ≤ j := by omega
      have g1 : (j : Int) < n := by omega
      have HV := hide hv
      clear hv
      by_cases e : y < 0
      · have HE := hide e
        have he : decide (y < 0) = true := decide_eq_true e
        clear e
        go_wp2_with (go_at_call 37; refine (HC.out _).mono ?_; rintro e _ ⟨rfl, rfl⟩)
        go_ret
        exact ⟨.inr ⟨j, y, rfl, HV.out, HE.out, HA.out⟩, rfl⟩
      · have HS := hide (all_snoc HV.out HA.out (by omega))
        have he : decide (y < 0) = false := decide_eq_false e
        clear e
        go_wp2_with (go_at_call 37; refine (HC.out _).mono ?_; rintro e _ ⟨rfl, rfl⟩)
        go_roundw
        case rel => exact ⟨j + 1, by omega, by go_num, HS, by first | exact rfl | trivial⟩
        case measure => simp [intOf]; omega
    · obtain rfl : j = n := by omega
      go_wp2
      go_ret
      exact ⟨.inl ⟨rfl, by have h := HA.out; rwa [List.take_of_length_le (by have := Hn.out; omega)] at h⟩, rfl⟩
/-- what DeleteFunc's loop keeps -/
def KL (t : List Int) (j i : Nat) (l : List Int) : Prop := l.length = t.length ∧ i < j ∧ j ≤ t.length ∧ l.take i = nnF (t.take j) ∧ ∀ k, j ≤ k → l[k]? = t[k]?
theorem KL.start {x : Int} {t : List Int} {k : Nat} (hx : t[k]? = some x) (hz : x < 0) (ha : ∀ z ∈ t.take k, 0 ≤ z) : KL t (k + 1) k t := by
  have hk := (List.getElem?_eq_some_iff.1 hx).1
  exact ⟨rfl, by omega, by omega, by rw [nnF_snoc hx, if_pos hz, List.append_nil, nnF_none ha], fun _ _ => rfl⟩
theorem KL.skip {x : Int} {t : List Int} {j i : Nat} {l : List Int} (h : KL t j i l) (hx : t[j]? = some x) (hz : x < 0) : KL t (j + 1) i l := by
  have hk := (List.getElem?_eq_some_iff.1 hx).1
  obtain ⟨h1, h2, h3, h4, h5⟩ := h
  exact ⟨h1, by omega, by omega, by rw [nnF_snoc hx, if_pos hz, List.append_nil]; exact h4, fun k hk => h5 k (by omega)⟩
theorem KL.keep {y : Int} {t : List Int} {j i : Nat} {l : List Int} (h : KL t j i l) (hy : t[j]? = some y) (e : ¬ y < 0) : KL t (j + 1) (i + 1) (l.set i y) := by
  have hk := (List.getElem?_eq_some_iff.1 hy).1
  obtain ⟨h1, h2, h3, h4, h5⟩ := h
  refine ⟨by simpa using h1, by omega, by omega, ?_, fun k hk => ?_⟩
  · rw [nnF_snoc hy, if_neg e, ← h4, take_snoc (x := y) (by rw [List.getElem?_set, if_pos rfl, if_pos (by omega)])]
    rw [List.take_set, List.set_eq_of_length_le (by rw [List.length_take]; omega)]
  · rw [List.getElem?_set, if_neg (by omega)]; exact h5 k (by omega)
set_option maxHeartbeats 2000000 in
theorem deleteNeg_any (base g cap n : Nat) (t : List Int) (w : World) (hR : RowN w base g n cap t) (hm : cap ≤ 9223372036854775807) :
    Calls Try.prog 36 #[.slice (some ⟨g, 0, none⟩) n cap, .func (.func 37) #[] #[]] w fun e w' =>
      e = .returned (.slice (some ⟨g, 0, none⟩) (nnF t).length cap) ∧ RowN w' base g (nnF t).length cap (nnF t) ∧ Below g w w' := by
  have hgl := hR.lt
  have hn := hR.len
  have hnc : n ≤ cap := by obtain ⟨_, _, _, _, _, h, _⟩ := hR.blk; exact h
  have HC := indexNeg_any (some ⟨g, 0, none⟩) n cap t w (hR.rdr (R := fun b => b < w.heap.size) hgl) hn hnc hm
  have HR := hide hR
  have Hn := hide hn
  clear hR hn
  by_cases hin : ∃ x ∈ t, x < 0
  · have HC1 := hide (Calls.mono HC (R' := fun e w' => (∃ (k : Nat) (x : Int), e = .returned (.int .i64 (k : Int)) ∧ t[k]? = some x ∧ x < 0 ∧ ∀ z ∈ t.take k, 0 ≤ z) ∧ w = w') (by
      rintro e w' ⟨h | h, hw⟩
      · obtain ⟨x, hx, hz⟩ := hin
        have := h.2 x hx
        omega
      · exact ⟨h, hw⟩))
    clear HC hin
    go_enter Try.func36, Try.ntmps36
    go_wp2_with fail
    refine HC1.out.mono ?_
    rintro e w1 ⟨⟨k, x, rfl, hx, hz, hk⟩, rfl⟩
    have HK := hide (KL.start hx hz hk)
    have hkn : k < n := by have := (List.getElem?_eq_some_iff.1 hx).1; have := Hn.out; omega
    have hne : ((k : Int) == -1) = false := beq_eq_false_iff_ne.2 (by omega)
    clear hx hz hk HC1
    go_upto_region 5 with fail
    go_loopw [5, 6, 7] (fun s5 s6 _ wr => ∃ (i j : Nat) (l : List Int), s5 = .int .i64 i ∧ s6 = .int .i64 j ∧ j ≤ n ∧ i < j ∧ Hid (KL t j i l) ∧ Hid (RowN wr base g n cap l) ∧ Hid (Below g w wr)) (fun _ j _ _ => n - (intOf j).toNat)
    case atStart => exact ⟨k, k + 1, t, rfl, by first | rfl | go_num, by omega, by omega, HK, HR, hide (Below.refl _ _)⟩
    case round =>
      obtain ⟨i, j, l, rfl, rfl, hj, hij, HI, HRw, HBl⟩ := hrel
      have hln : l.length = n := HRw.out.len
      by_cases hlt : j < n
      · obtain ⟨y, hv⟩ : ∃ v, l[j]? = some v := ⟨_, List.getElem?_eq_getElem (by omega)⟩
        obtain ⟨z, hu⟩ : ∃ v, l[i]? = some v := ⟨_, List.getElem?_eq_getElem (by omega)⟩
        have q0 : wr.cell? ⟨g, j, none⟩ = some (.int .i64 y) := HRw.out.cell hv
        have d0 : wr.cell? ⟨g, i, none⟩ = some (.int .i64 z) := HRw.out.cell hu
        have f0 := HRw.out.frozen i
        have HV := hide (show t[j]? = some y by rw [← HI.out.2.2.2.2 j (Nat.le_refl _)]; exact hv)
        have g0 : (0 : Int) ≤ j := by omega
        have g1 : (j : Int) < n := by omega
        have g2 : (0 : Int) ≤ i := by omega
        have g3 : (i : Int) < n := by omega
        have HC := hide (locks1_any y wr)
        clear hv hu hln
        by_cases e : y < 0
        · have HE := hide (HI.out.skip HV.out e)
          have he : decide (y < 0) = true := decide_eq_true e
          clear e
          go_wp2_with (go_at_call 37; refine HC.out.mono ?_; rintro e _ ⟨rfl, rfl⟩)
          go_roundw
          case rel => exact ⟨i, j + 1, l, rfl, by go_num, by omega, by omega, HE, HRw, HBl⟩
          case measure => simp [intOf]; omega
        · have HE := hide (HI.out.keep HV.out e)
          have he : decide (y < 0) = false := decide_eq_false e
          clear e
          go_wp2_with (go_at_call 37; refine HC.out.mono ?_; rintro e _ ⟨rfl, rfl⟩)
          go_roundw
          case rel => exact ⟨i + 1, j + 1, l.set i y, by go_num, by go_num, by omega, by omega, HE, hide (HRw.out.set y), hide (HBl.out.setCell (Nat.le_refl _) _)⟩
          case measure => simp [intOf]; omega
      · obtain rfl : j = n := by omega
        obtain ⟨w7, hw7, h7, hb7⟩ := HRw.out.clearN hij 0 (cap - i)
        have HL := hide (show nnF t = l.take i by rw [HI.out.2.2.2.1, List.take_of_length_le (by have := Hn.out; omega)])
        have hi' : (i : Int) ≤ j := by omega
        have H7 := hide h7
        have HB7 := hide (HBl.out.trans hb7)
        have Hln := hide hln
        clear h7 hb7 hln
        go_wp2
        go_ret
        have hli : (nnF t).length = i := by rw [HL.out, List.length_take, Hln.out, Nat.min_eq_left (Nat.le_of_lt hij)]
        exact ⟨by rw [hli]; rfl, by rw [hli, HL.out]; exact H7.out, HB7.out⟩
  · have HC1 := hide (Calls.mono HC (R' := fun e w' => e = .returned (.int .i64 (-1)) ∧ w = w') (by
      rintro e w' ⟨h | ⟨k, x, _, h, hz, _⟩, hw⟩
      · exact ⟨h.1, hw⟩
      · exact (hin ⟨x, List.mem_of_getElem? h, hz⟩).elim))
    have HA := hide (nnF_none fun z hz => by
      by_cases h : z < 0
      · exact (hin ⟨z, hz, h⟩).elim
      · omega)
    clear HC hin
    go_enter Try.func36, Try.ntmps36
    go_wp2_with (go_at_call 43; refine HC1.out.mono ?_; rintro e _ ⟨rfl, rfl⟩)
    go_ret
    exact ⟨by rw [HA.out, Hn.out]; rfl, by rw [HA.out, Hn.out]; exact HR.out, Below.refl _ _⟩
end Go.Proofs.Ytoadcfjkommlkac
