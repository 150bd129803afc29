/-
  The package explore: the document's functions: one pick less, counts. Conditions: the slices read as lists of ints.
-/
import Derived.Test.YtpnekmkbedhooaaExpC
namespace Go.Proofs.Ytpnekmkbedhooaa
open Go.RowKit

theorem ni_get {l : List Nat} {k : Nat} (h : k < l.length) : (ni l)[k]? = some ((l.getD k 0 : Nat) : Int) := by
  rw [ni, List.getElem?_map, List.getElem?_eq_getElem h, List.getD_eq_getElem?_getD, List.getElem?_eq_getElem h]; rfl
theorem ni_dec {l : List Nat} {k : Nat} (h : 0 < l.getD k 0) : ((ni l).map (Value.int .i64)).set k (.int .i64 (((l.getD k 0 : Nat) : Int) - 1)) = (ni (dec l k)).map (Value.int .i64) := by
  unfold dec ni
  rw [List.map_map, List.map_map, List.map_set]
  congr 1
  simp only [Function.comp]
  congr 1
  omega
set_option maxHeartbeats 1000000 in
theorem refLess_any (A : Option Addr) (n c k : Nat) (l : List Nat) (w : World) (hx : I64s w w.heap.size A (ni l)) (hn : l.length = n) (hk : k < n) (h0 : 0 < l.getD k 0) (hs : l.sum ≤ 1000) (h6 : n ≤ 1000) :
    Calls Try.prog 23 #[.slice A n c, .int .i64 k] w (GivesI .i64 w (ni (dec l k))) := by
  have HX := hide hx
  have Hn := hide hn
  have HD := hide (ni_dec h0)
  have Hg := hide (ni_get (l := l) (k := k) (by omega))
  have hv : IntKind.i64.wrap (((l.getD k 0 : Nat) : Int) - 1) = ((l.getD k 0 : Nat) : Int) - 1 := by
    have := getD_le_sum l k; rw [IntKind.wrap_i64]; omega
  have hv' : wrap64 (((l.getD k 0 : Nat) : Int) - 1) = ((l.getD k 0 : Nat) : Int) - 1 := by rw [wrap64_i64]; exact hv
  have ho := hide (World.ownsRow_lit (base := w.heap.size) (e := 3) (size := 1) w #[] 0 (Nat.le_refl _) (by simp [maxLen]) rfl)
  have g0 : (0 : Int) ≤ k := by omega
  have g1 : (k : Int) < n := by omega
  clear hx hn hs h0
  generalize l.getD k 0 = y at *
  go_enter Try.func23, Try.ntmps23
  go_upto_region 2 with (at_builtin; refine wpList_append_ints rfl _ _ 22 rfl w.heap.size Try.underlying22 info_ei rfl _ 0 [] rfl ho.out w.heap.size _ n c (ni l) rfl (HX.out.alloc (Nat.le_refl _) _) (by rw [ni_len]; exact Hn.out) (by simp only [maxLen]; omega) (by omega) (by simp) ?_; intro v' w9 hown9 hgr9 hat9; have HG := hide (below_own ((Below.refl w.heap.size w).alloc (Nat.le_refl _) _) ho.out (by simp) hgr9); obtain ⟨g, cap, rfl, hg1, hg2⟩ := hown9.form (by omega); rw [Nat.zero_add] at hown9; have c1 := hown9.cellAt k (by omega); have c2 := hown9.frozenAt k; rw [List.nil_append, List.getElem?_map, Hg.out] at c1; have HO := hide hown9; have HW := hide (And.intro hg1 hg2); clear hown9 hgr9 hat9)
  have c3 : w9.cell? ⟨g, k, none⟩ = some (.int .i64 y) := c1
  clear c1
  go_wp2
  go_ret
  have ht := HO.out.stored k (.int .i64 ((y : Int) - 1))
  refine ⟨_, rfl, NewInts.of_own (n := n) (by have := ht.1; rw [List.nil_append, HD.out] at this; exact this) (below_own HG.out HO.out HG.out.size ht.2)⟩

theorem mt_step {l : List Nat} {k : Nat} : hN (hN (mt 0 l k) * hN (pas (sumTo l (k + 1)) (l.getD k 0))) = hN (mt 0 l (k + 1)) := by
  rw [hN_mul (mt_pos _ _ _) (pas_pos (show l.getD k 0 ≤ sumTo l (k + 1) from getD_take_sum l k))]
  simp only [mt, sumTo, Nat.zero_add]

set_option maxHeartbeats 1000000 in
theorem refCount_any (A : Option Addr) (n c : Nat) (l : List Nat) (w : World) (hx : I64s w w.heap.size A (ni l)) (hn : l.length = n) (hs : l.sum ≤ 64) (hc : n ≤ c) (hm : c ≤ 9223372036854775807) :
    Calls Try.prog 21 #[.slice A n c] w fun e w' => e = .returned (.int .u64 (hN (multi 0 l) : Nat)) ∧ Below w.heap.size w w' := by
  have HX := hide hx
  have Hn := hide hn
  have Hs := hide hs
  clear hx hn hs
  go_enter Try.func21, Try.ntmps21
  go_wp2
  go_loopw [3, 4, 9] (fun p s i wr => ∃ k : Nat, k ≤ n ∧ i = .int .i64 k ∧ s = .int .i64 (sumTo l k : Nat) ∧ p = .int .u64 (hN (mt 0 l k) : Nat) ∧ Hid (Below w.heap.size w wr)) (fun _ _ i _ => n - (intOf i).toNat)
  case atStart => exact ⟨0, by omega, rfl, by rw [sumTo_zero]; rfl, rfl, hide (Below.refl _ _)⟩
  case round =>
    obtain ⟨k, hk, rfl, rfl, rfl, hB⟩ := hrel
    by_cases hlt : k < n
    · obtain ⟨ad, x, rfl, _, hv, q0⟩ := (HX.out.below hB.out (Nat.le_refl _)).icell (k := k) (by rw [ni_len]; have := Hn.out; omega)
      have g0 : (0 : Int) ≤ k := by omega
      have g1 : (k : Int) < n := by omega
      obtain ⟨hlt2, rfl⟩ := ni_at hv
      have HS1 := hide (show sumTo l (k + 1) ≤ 64 by have := sumTo_le l (k + 1); have := Hs.out; omega)
      have Hs2 : wrap64 (((sumTo l k : Nat) : Int) + ((l.getD k 0 : Nat) : Int)) = (sumTo l (k + 1) : Nat) := by
        have h1 := sumTo_succ hlt2
        have h3 := HS1.out
        rw [h1, wrap64_i64, IntKind.wrap_i64]; omega
      have Hs3 : IntKind.i64.wrap (((sumTo l k : Nat) : Int) + ((l.getD k 0 : Nat) : Int)) = (sumTo l (k + 1) : Nat) := by rw [← wrap64_i64]; exact Hs2
      have HG1 := hide (show l.getD k 0 ≤ sumTo l (k + 1) by have := sumTo_succ hlt2; omega)
      have HM := hide (mt_step (l := l) (k := k))
      clear hv
      generalize l.getD k 0 = y at *
      generalize sumTo l k = s at *
      generalize hT : sumTo l (k + 1) = t at *
      have HT := hide hT
      clear hT
      have HC := hide (fun W => times_any (hN (mt 0 l k)) (hN (pas t y)) W (hN_lt _) (hN_lt _))
      rw [HM.out] at HC
      go_wp2_with (first
        | (go_at_call 29; refine (ways_any t y _ HS1.out HG1.out).mono ?_; rintro e w4 ⟨rfl, hb4⟩; have HB4 := hide (Below.step hB.out hb4); clear hb4)
        | (go_at_call 28; refine (HC.out _).mono ?_; rintro e w5 ⟨rfl, rfl⟩))
      go_roundw
      case rel => exact ⟨k + 1, by omega, by go_num, by rw [HT.out], rfl, HB4⟩
      case measure => simp [intOf]; omega
    · obtain rfl : n = k := by omega
      have HSA := hide (show mt 0 l n = multi 0 l by rw [← Hn.out, mt_all])
      go_wp2
      go_ret
      exact ⟨by rw [← HSA.out]; rfl, hB.out⟩

theorem refRight_ok {A : Option Addr} {n c : Nat} {xs : List Int} {w : World} (h : okT xs) (k : Calls Try.prog 20 #[.slice A n c] w (RightGives w xs)) :
    Calls Try.prog 20 #[.slice A n c] w fun e w' => ∃ v, e = .returned (.tuple #[v, .bool true]) ∧ NewInts .i64 w (ni (tn xs)) v w' := k.mono fun e w' hr => by
  rcases hr with ⟨_, h'⟩ | ⟨h', _⟩
  · exact h'
  · exact (h' h).elim
theorem refRight_no {A : Option Addr} {n c : Nat} {xs : List Int} {w : World} (h : ¬ okT xs) (k : Calls Try.prog 20 #[.slice A n c] w (RightGives w xs)) :
    Calls Try.prog 20 #[.slice A n c] w fun e w' => ∃ v, e = .returned (.tuple #[v, .bool false]) ∧ Below w.heap.size w w' := k.mono fun e w' hr => by
  rcases hr with ⟨h', _⟩ | ⟨_, h'⟩
  · exact (h h').elim
  · exact h'
/-- what 'Count' tells -/
noncomputable def cntOf (xs : List Int) : Nat := open Classical in if okT xs then hN (multi 0 (tn xs)) else 0
theorem cntOf_ok {xs : List Int} (h : okT xs) : cntOf xs = hN (multi 0 (tn xs)) := by unfold cntOf; rw [if_pos h]
theorem cntOf_no {xs : List Int} (h : ¬ okT xs) : cntOf xs = 0 := by unfold cntOf; rw [if_neg h]

set_option maxHeartbeats 1000000 in
theorem refECount_any (A : Option Addr) (n c : Nat) (xs : List Int) (w : World) (hx : I64s w w.heap.size A xs) (hn : xs.length = n) (hc : n ≤ c) (hm : c ≤ 9223372036854775807) :
    Calls Try.prog 13 #[.slice A n c] w fun e w' => e = .returned (.int .u64 (cntOf xs : Nat)) ∧ Below w.heap.size w w' := by
  have C1 := hide (refRight_any A n c xs w hx hn hc hm)
  clear hx hn
  by_cases hok : okT xs
  · have D1 := hide (refRight_ok hok C1.out)
    have HE := hide (cntOf_ok hok)
    have Hok := hide hok
    clear C1 hok
    go_enter Try.func13, Try.ntmps13
    go_wp2_with (first
      | (go_at_call 20; refine D1.out.mono ?_; rintro e w1 ⟨v, rfl, A1, n1, c1, rfl, h1, h2, h3, h4, h5⟩; have HB1 := hide h5; have HC := hide (refCount_any A1 n1 c1 (tn xs) w1 (h4.more fun b hb => hb.2) (by rw [← h1, ni_len]) Hok.out.2.2 h2 h3); clear h1 h2 h3 h4 h5)
      | (go_at_call 21; refine HC.out.mono ?_; rintro e w2 ⟨rfl, hb2⟩; have HB2 := hide (Below.step HB1.out hb2); clear hb2))
    go_ret
    exact ⟨by rw [HE.out]; rfl, HB2.out⟩
  · have D1 := hide (refRight_no hok C1.out)
    have HE := hide (cntOf_no hok)
    clear C1 hok
    go_enter Try.func13, Try.ntmps13
    go_wp2_with (go_at_call 20; refine D1.out.mono ?_; rintro e w1 ⟨v, rfl, h5⟩; have HB1 := hide h5; clear h5)
    go_ret
    exact ⟨by rw [HE.out]; rfl, HB1.out⟩
end Go.Proofs.Ytpnekmkbedhooaa
