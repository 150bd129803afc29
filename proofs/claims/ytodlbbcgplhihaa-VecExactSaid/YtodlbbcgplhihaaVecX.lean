/-
  The law VecExact. Conditions: the slices read as lists of int32s.
-/
import Derived.Test.YtodlbbcgplhihaaVecL
namespace Go.Proofs.Ytodlbbcgplhihaa
open Go.RowKit

/-- all are small -/
def Small24 (xs : List Int) : Prop := ∀ x ∈ xs, -16777216 ≤ x ∧ x ≤ 16777216
theorem small_at {xs : List Int} (h : Small24 xs) (i : Nat) : -16777216 ≤ cmpAt xs i ∧ cmpAt xs i ≤ 16777216 := by
  unfold cmpAt
  rw [List.getD_eq_getElem?_getD]
  cases hx : xs[i]? with
  | none => simp
  | some x => exact h x (List.mem_of_getElem? hx)
theorem vecOk_spec {xs : List Int} {dim : Int} (h : vecOk xs dim = true) : 1 ≤ dim ∧ dim ≤ 4096 ∧ (xs.length : Int) = dim ∧ Small24 xs := by
  unfold vecOk at h
  rw [Bool.and_eq_true, List.all_eq_true] at h
  have h1 := of_decide_eq_true h.1
  exact ⟨h1.1, h1.2.1, h1.2.2, fun x hx => of_decide_eq_true (h.2 x hx)⟩
def pdot (xs ys : List Int) : Nat → Int
  | 0 => 0
  | k + 1 => pdot xs ys k + cmpAt xs k * cmpAt ys k
theorem mul_bound24 {x y : Int} (hx : -16777216 ≤ x ∧ x ≤ 16777216) (hy : -16777216 ≤ y ∧ y ≤ 16777216) : -281474976710656 ≤ x * y ∧ x * y ≤ 281474976710656 := by
  have a := Int.mul_nonneg (show 0 ≤ 16777216 - x by omega) (show 0 ≤ 16777216 + y by omega)
  have b := Int.mul_nonneg (show 0 ≤ 16777216 + x by omega) (show 0 ≤ 16777216 - y by omega)
  have c := Int.mul_nonneg (show 0 ≤ 16777216 - x by omega) (show 0 ≤ 16777216 - y by omega)
  have d := Int.mul_nonneg (show 0 ≤ 16777216 + x by omega) (show 0 ≤ 16777216 + y by omega)
  simp only [Int.sub_mul, Int.add_mul, Int.mul_sub, Int.mul_add] at a b c d
  omega
theorem pdot_bound {xs ys : List Int} (hx : Small24 xs) (hy : Small24 ys) (k : Nat) : -281474976710656 * (k : Int) ≤ pdot xs ys k ∧ pdot xs ys k ≤ 281474976710656 * (k : Int) := by
  induction k with
  | zero => simp [pdot]
  | succ k ih => have := mul_bound24 (small_at hx k) (small_at hy k); simp only [pdot]; omega
theorem dot_pdot {xs ys : List Int} (hx : Small24 xs) (hy : Small24 ys) (k : Nat) (hk : k ≤ 4096) : dotTo xs ys k = pdot xs ys k := by
  induction k with
  | zero => rfl
  | succ k ih =>
    have h1 := pdot_bound hx hy (k + 1)
    simp only [dotTo, pdot] at h1 ⊢
    rw [ih (by omega), IntWalk.i64_in _ (by omega)]
theorem sq_split (x y : Int) : sq x y = sq x 0 + sq y 0 - 2 * (x * y) := by
  unfold sq
  have := Int.mul_comm x y
  simp only [Int.sub_zero, Int.sub_mul, Int.mul_sub]
  omega
theorem sq_bound {x y : Int} (hx : -16777216 ≤ x ∧ x ≤ 16777216) (hy : -16777216 ≤ y ∧ y ≤ 16777216) : sq x y ≤ 1125899906842624 := by
  rw [sq_split]
  have a := mul_bound24 hx hx
  have b := mul_bound24 hy hy
  have c := mul_bound24 hx hy
  unfold sq
  simp only [Int.sub_zero]
  omega
theorem sqTo_bound {xs ys : List Int} (hx : Small24 xs) (hy : Small24 ys) (k : Nat) : sqTo xs ys k ≤ 1125899906842624 * (k : Int) := by
  induction k with
  | zero => simp [sqTo]
  | succ k ih => have := sq_bound (small_at hx k) (small_at hy k); simp only [sqTo]; omega
theorem cmpAt_nil (i : Nat) : cmpAt [] i = 0 := rfl
theorem sqTo_split (xs ys : List Int) (k : Nat) : sqTo xs ys k = sqTo xs [] k + sqTo ys [] k - 2 * pdot xs ys k := by
  induction k with
  | zero => rfl
  | succ k ih => simp only [sqTo, pdot, cmpAt_nil]; rw [sq_split (cmpAt xs k) (cmpAt ys k), ih]; omega
theorem sq_zero {x y : Int} (h : sq x y = 0) : x = y := by
  unfold sq at h
  rcases Int.mul_eq_zero.1 h with h | h <;> omega
theorem sqTo_zero {xs ys : List Int} (k : Nat) (h : sqTo xs ys k = 0) : ∀ i, i < k → cmpAt xs i = cmpAt ys i := by
  induction k with
  | zero => intro i hi; omega
  | succ k ih =>
    simp only [sqTo] at h
    have h1 := sqTo_nonneg xs ys k
    have h2 := sq_nonneg (cmpAt xs k) (cmpAt ys k)
    intro i hi
    rcases Nat.lt_or_ge i k with hl | hl
    · exact ih (by omega) i hl
    · obtain rfl : i = k := by omega
      exact sq_zero (by omega)
theorem dist_zero_iff {xs ys : List Int} (hl : xs.length = ys.length) (h : sqTo xs ys xs.length < 18446744073709551616) : distOf xs ys = 0 ↔ xs = ys := by
  constructor
  · intro e
    unfold distOf at e
    rw [← hl, Nat.max_self, held_small h] at e
    have := sqTo_zero _ e
    apply List.ext_getElem? 
    intro i
    rcases Nat.lt_or_ge i xs.length with hi | hi
    · have := this i hi
      simp only [cmpAt, List.getD_eq_getElem?_getD, List.getElem?_eq_getElem hi, List.getElem?_eq_getElem (show i < ys.length by omega)] at this
      rw [List.getElem?_eq_getElem hi, List.getElem?_eq_getElem (show i < ys.length by omega)]
      simpa using this
    · rw [List.getElem?_eq_none hi, List.getElem?_eq_none (by omega)]
  · rintro rfl
    exact distOf_same _
/-- what the law asks of right vectors -/
theorem exact_law {xs ys : List Int} {dim : Int} (hx : vecOk xs dim = true) (hy : vecOk ys dim = true) :
    distOf xs ys = distOf xs [] + distOf ys [] - 2 * dotOf xs ys ∧ distOf xs ys ≤ 4611686018427387904 ∧ (0 ≤ distOf xs [] ∧ distOf xs [] ≤ 1152921504606846976) ∧ (0 ≤ distOf ys [] ∧ distOf ys [] ≤ 1152921504606846976) ∧
      (-1152921504606846976 ≤ dotOf xs ys ∧ dotOf xs ys ≤ 1152921504606846976) ∧ (distOf xs ys = 0 ↔ xs = ys) := by
  obtain ⟨a1, a2, a3, sx⟩ := vecOk_spec hx
  obtain ⟨_, _, b3, sy⟩ := vecOk_spec hy
  have hl : xs.length = ys.length := by omega
  have hk : xs.length ≤ 4096 := by omega
  have sn : Small24 [] := fun x hx => by simp at hx
  have e1 : distOf xs ys = sqTo xs ys xs.length := by unfold distOf; rw [← hl, Nat.max_self, held_small]; have := sqTo_bound sx sy xs.length; omega
  have q1 : ∀ k, sqTo xs [] k ≤ 281474976710656 * (k : Int) := fun k => by
    induction k with
    | zero => simp [sqTo]
    | succ k ih => have := mul_bound24 (small_at sx k) (small_at sx k); simp only [sqTo, cmpAt_nil, sq, Int.sub_zero]; omega
  have q2 : ∀ k, sqTo ys [] k ≤ 281474976710656 * (k : Int) := fun k => by
    induction k with
    | zero => simp [sqTo]
    | succ k ih => have := mul_bound24 (small_at sy k) (small_at sy k); simp only [sqTo, cmpAt_nil, sq, Int.sub_zero]; omega
  have q1' := q1 xs.length
  have q2' := q2 xs.length
  have p1 := sqTo_nonneg xs [] xs.length
  have p2 := sqTo_nonneg ys [] xs.length
  have e2 : distOf xs [] = sqTo xs [] xs.length := by unfold distOf; rw [show max xs.length ([] : List Int).length = xs.length by simp, held_small (by omega)]
  have e3 : distOf ys [] = sqTo ys [] xs.length := by unfold distOf; rw [show max ys.length ([] : List Int).length = xs.length by simp [hl], held_small (by omega)]
  have e4 : dotOf xs ys = pdot xs ys xs.length := by unfold dotOf; rw [← hl, Nat.min_self, dot_pdot sx sy _ hk]
  have s := sqTo_split xs ys xs.length
  have d := pdot_bound sx sy xs.length
  have sb := sqTo_bound sx sy xs.length
  refine ⟨by omega, by omega, by omega, by omega, by omega, dist_zero_iff hl (by omega)⟩

/-- the three lists -/
def Th (A B C : Option Addr) (xs ys zs : List Int) (W : World) : Prop := I32s W W.heap.size A xs ∧ I32s W W.heap.size B ys ∧ I32s W W.heap.size C zs
theorem Th.drewN {A B C : Option Addr} {xs ys zs : List Int} {W : World} (h : Th A B C xs ys zs W) (n : Nat) : Th A B C xs ys zs (W.drewN n) := ⟨h.1.drewN n, h.2.1.drewN n, h.2.2.drewN n⟩
theorem Th.below {A B C : Option Addr} {xs ys zs : List Int} {W W' : World} (h : Th A B C xs ys zs W) (hb : Below W.heap.size W W') : Th A B C xs ys zs W' :=
  ⟨(h.1.below hb (Nat.le_refl _)).more hb.size, (h.2.1.below hb (Nat.le_refl _)).more hb.size, (h.2.2.below hb (Nat.le_refl _)).more hb.size⟩
theorem five_of (ab ba bc ac sm : Bool) (tri : (ab || ba) = !sm) (asy : ab = true → ba = false) (tra : ab = true → bc = true → ac = true) : (ab = true ∧ ba = false ∧ sm = false ∧ bc = false) ∨ (ab = true ∧ ba = false ∧ sm = false ∧ bc = true ∧ ac = true) ∨ (ab = false ∧ ba = true ∧ sm = false) ∨ (ab = false ∧ ba = false ∧ sm = true) := by
  cases ab <;> cases ba <;> cases sm <;> cases bc <;> cases ac <;> simp_all
theorem wrap_neg {p r q : Int} (h : q < 0) (h1 : -1152921504606846976 ≤ q) (hp : 0 ≤ p + r - 2 * q) (hp2 : p + r - 2 * q ≤ 4611686018427387904) :
    IntKind.u64.wrap q = q + 18446744073709551616 ∧ IntKind.u64.wrap (2 * (q + 18446744073709551616)) = 2 * q + 18446744073709551616 ∧ IntKind.u64.wrap (p + r - (2 * q + 18446744073709551616)) = p + r - 2 * q := by
  simp only [IntKind.wrap_u64]
  omega
set_option maxHeartbeats 4000000 in
set_option maxRecDepth 100000 in
theorem exact_any (A B C : Option Addr) (n c m d k f : Nat) (xs ys zs : List Int) (w : World) (h : Th A B C xs ys zs w) (hn : xs.length = n) (hc : n ≤ c) (hm : c ≤ 9223372036854775807) (hm2 : ys.length = m) (hd : m ≤ d) (hd2 : d ≤ 9223372036854775807)
    (hk : zs.length = k) (hf : k ≤ f) (hf2 : f ≤ 9223372036854775807) (hx : I32 xs) (hy : I32 ys) (hz : I32 zs) :
    Calls Try.prog 3 #[.slice A n c, .slice B m d, .slice C k f] w fun e w' => e = .returned (.bool true) ∧ Below w.heap.size w w' := by
  have DAB := hide (fun (W : World) (h : Th A B C xs ys zs W) => dist_any A B n c m d xs ys W h.1 hn hx hc hm h.2.1 hm2 hy hd hd2)
  have DBA := hide (fun (W : World) (h : Th A B C xs ys zs W) => dist_any B A m d n c ys xs W h.2.1 hm2 hy hd hd2 h.1 hn hx hc hm)
  have DAA := hide (fun (W : World) (h : Th A B C xs ys zs W) => dist_any A A n c n c xs xs W h.1 hn hx hc hm h.1 hn hx hc hm)
  have DAN := hide (fun (W : World) (h : Th A B C xs ys zs W) => dist_any A none n c 0 0 xs [] W h.1 hn hx hc hm Rd.start rfl (fun x hx => by simp at hx) (Nat.le_refl _) (by omega))
  have DBN := hide (fun (W : World) (h : Th A B C xs ys zs W) => dist_any B none m d 0 0 ys [] W h.2.1 hm2 hy hd hd2 Rd.start rfl (fun x hx => by simp at hx) (Nat.le_refl _) (by omega))
  have DOT := hide (fun (W : World) (h : Th A B C xs ys zs W) => dot_any A B n c m d xs ys W h.1 hn hx hc hm h.2.1 hm2 hy hd hd2)
  have LAB := hide (fun (W : World) (h : Th A B C xs ys zs W) => less_any A B n c m d xs ys W h.1 hn hc hm h.2.1 hm2 hd hd2)
  have LBA := hide (fun (W : World) (h : Th A B C xs ys zs W) => less_any B A m d n c ys xs W h.2.1 hm2 hd hd2 h.1 hn hc hm)
  have LBC := hide (fun (W : World) (h : Th A B C xs ys zs W) => less_any B C m d k f ys zs W h.2.1 hm2 hd hd2 h.2.2 hk hf hf2)
  have LAC := hide (fun (W : World) (h : Th A B C xs ys zs W) => less_any A C n c k f xs zs W h.1 hn hc hm h.2.2 hk hf hf2)
  have SAB := hide (fun (W : World) (h : Th A B C xs ys zs W) => same_any A B n c m d xs ys W h.1 hn hc hm h.2.1 hm2 hd hd2)
  have CA := hide (fun (W : World) (h : Th A B C xs ys zs W) => check_any A n c xs n W h.1 hn hc hm)
  have CB := hide (fun (W : World) (h : Th A B C xs ys zs W) => check_any B m d ys n W h.2.1 hm2 hd hd2)
  simp only [distOf_comm ys xs] at DBA
  simp only [distOf_same] at DAA
  have tri := less_tri xs ys
  have asy := less_asymm xs ys
  have tra := less_trans xs ys zs
  have law := fun h1 h2 => exact_law (xs := xs) (ys := ys) (dim := n) h1 h2
  have hne : (distOf xs ys != distOf xs ys) = false := by simp
  have hne0 : ((0 : Int) != 0) = false := by simp
  have b0 := distOf_le xs ys
  have H := hide h
  clear hx hy hz h hn hm2 hk
  generalize lessOf xs ys = ab at *
  generalize lessOf ys xs = ba at *
  generalize lessOf ys zs = bc at *
  generalize lessOf xs zs = ac at *
  generalize hs : decide (xs = ys) = sm at *
  have oks : (vecOk xs n = false) ∨ (vecOk xs n = true ∧ vecOk ys n = false) ∨ (vecOk xs n = true ∧ vecOk ys n = true) := by
    cases vecOk xs n <;> cases vecOk ys n <;> simp
  have HS := hide hs
  clear hs
  have five := five_of ab ba bc ac sm tri asy tra
  clear tri asy tra
  have three : (vecOk xs n = false) ∨ (vecOk xs n = true ∧ vecOk ys n = false) ∨ (vecOk xs n = true ∧ vecOk ys n = true ∧ ∃ p r q : Int, distOf xs [] = p ∧ distOf ys [] = r ∧ dotOf xs ys = q ∧ distOf xs ys = p + r - 2 * q ∧ 0 ≤ p + r - 2 * q ∧ p + r - 2 * q ≤ 4611686018427387904 ∧
      0 ≤ p ∧ p ≤ 1152921504606846976 ∧ 0 ≤ r ∧ r ≤ 1152921504606846976 ∧ -1152921504606846976 ≤ q ∧ q ≤ 1152921504606846976 ∧ ((p + r - 2 * q == 0) = sm)) := by
    rcases oks with h | h | ⟨h1, h2⟩
    · exact .inl h
    · exact .inr (.inl h)
    · obtain ⟨l1, l2, l3, l4, l5, l6⟩ := law h1 h2
      refine .inr (.inr ⟨h1, h2, _, _, _, rfl, rfl, rfl, l1, by omega, by omega, l3.1, l3.2, l4.1, l4.2, l5.1, l5.2, ?_⟩)
      rw [← l1, ← HS.out, Bool.eq_iff_iff]
      simp [l6]
  clear law oks HS
  have HT := hide three
  clear three
  go_enter Try.func3, Try.ntmps3
  go_wp2_with fail
  refine (lives_any _).mono ?_
  rintro e w1 ⟨rfl, hb1⟩
  have T := hide (H.out.below hb1)
  have HB := hide hb1
  clear hb1 H
  have three := HT.out
  clear HT
  rcases three with h1 | ⟨h1, h2⟩ | ⟨h1, h2, p, r, q, e1, e2, e3, e4, p0, p1, p2, p3, r2, r3, q2, q3, e5⟩
  · rw [h1] at CA
    clear h1
    rcases five with ⟨rfl, rfl, rfl, rfl⟩ | ⟨rfl, rfl, rfl, rfl, rfl⟩ | ⟨rfl, rfl, rfl⟩ | ⟨rfl, rfl, rfl⟩
    all_goals
      go_wp2_with (first
      | (go_at_call 6; (first | (with_reducible refine (DAB.out _ T.out).mono ?_) | (with_reducible refine (DBA.out _ T.out).mono ?_) | (with_reducible refine (DAA.out _ T.out).mono ?_) | (with_reducible refine (DAN.out _ (T.out.drewN _)).mono ?_) | (with_reducible refine (DBN.out _ (T.out.drewN _)).mono ?_)); rintro e _ ⟨rfl, rfl⟩)
      | (go_at_call 7; (first | (with_reducible refine (LAB.out _ T.out).mono ?_) | (with_reducible refine (LBA.out _ T.out).mono ?_) | (with_reducible refine (LBC.out _ T.out).mono ?_) | (with_reducible refine (LAC.out _ T.out).mono ?_)); rintro e _ ⟨rfl, rfl⟩)
      | (go_at_call 8; (first | (with_reducible refine (SAB.out _ T.out).mono ?_) | (with_reducible refine (SAB.out _ (T.out.drewN _)).mono ?_)); rintro e _ ⟨rfl, j, rfl⟩)
      | (go_at_call 9; (first | (with_reducible refine (CA.out _ (T.out.drewN _)).mono ?_) | (with_reducible refine (CB.out _ (T.out.drewN _)).mono ?_)); rintro e _ ⟨rfl, rfl⟩)
      | (go_at_call 10; (with_reducible refine (DOT.out _ (T.out.drewN _)).mono ?_); rintro e _ ⟨rfl, j, rfl⟩))
      go_ret
      exact ⟨rfl, Below.step HB.out (by first | exact below_drewN (Below.refl _ _) _ | exact below_drewN (below_drewN (Below.refl _ _) _) _)⟩
  · rw [h1] at CA
    rw [h2] at CB
    clear h1 h2
    rcases five with ⟨rfl, rfl, rfl, rfl⟩ | ⟨rfl, rfl, rfl, rfl, rfl⟩ | ⟨rfl, rfl, rfl⟩ | ⟨rfl, rfl, rfl⟩
    all_goals
      go_wp2_with (first
      | (go_at_call 6; (first | (with_reducible refine (DAB.out _ T.out).mono ?_) | (with_reducible refine (DBA.out _ T.out).mono ?_) | (with_reducible refine (DAA.out _ T.out).mono ?_) | (with_reducible refine (DAN.out _ (T.out.drewN _)).mono ?_) | (with_reducible refine (DBN.out _ (T.out.drewN _)).mono ?_)); rintro e _ ⟨rfl, rfl⟩)
      | (go_at_call 7; (first | (with_reducible refine (LAB.out _ T.out).mono ?_) | (with_reducible refine (LBA.out _ T.out).mono ?_) | (with_reducible refine (LBC.out _ T.out).mono ?_) | (with_reducible refine (LAC.out _ T.out).mono ?_)); rintro e _ ⟨rfl, rfl⟩)
      | (go_at_call 8; (first | (with_reducible refine (SAB.out _ T.out).mono ?_) | (with_reducible refine (SAB.out _ (T.out.drewN _)).mono ?_)); rintro e _ ⟨rfl, j, rfl⟩)
      | (go_at_call 9; (first | (with_reducible refine (CA.out _ (T.out.drewN _)).mono ?_) | (with_reducible refine (CB.out _ (T.out.drewN _)).mono ?_)); rintro e _ ⟨rfl, rfl⟩)
      | (go_at_call 10; (with_reducible refine (DOT.out _ (T.out.drewN _)).mono ?_); rintro e _ ⟨rfl, j, rfl⟩))
      go_ret
      exact ⟨rfl, Below.step HB.out (by first | exact below_drewN (Below.refl _ _) _ | exact below_drewN (below_drewN (Below.refl _ _) _) _)⟩
  · rw [h1] at CA
    rw [h2] at CB
    rw [e1] at DAN
    rw [e2] at DBN
    rw [e3] at DOT
    rw [e4] at DAB DBA hne
    have E4 := hide e4
    clear h1 h2 e1 e2 e3 e4 b0
    have hle : decide (p + r - 2 * q ≤ 4611686018427387904) = true := decide_eq_true p1
    have heq : (p + r - 2 * q == p + r - 2 * q) = true := by simp
    by_cases hq : q < 0
    · obtain ⟨u1, u2, u3⟩ := wrap_neg hq q2 p0 p1
      rcases five with ⟨rfl, rfl, rfl, rfl⟩ | ⟨rfl, rfl, rfl, rfl, rfl⟩ | ⟨rfl, rfl, rfl⟩ | ⟨rfl, rfl, rfl⟩
      all_goals
        go_wp2_with (first
        | (go_at_call 6; (first | (with_reducible refine (DAB.out _ T.out).mono ?_) | (with_reducible refine (DBA.out _ T.out).mono ?_) | (with_reducible refine (DAA.out _ T.out).mono ?_) | (with_reducible refine (DAN.out _ (T.out.drewN _)).mono ?_) | (with_reducible refine (DBN.out _ (T.out.drewN _)).mono ?_)); rintro e _ ⟨rfl, rfl⟩)
        | (go_at_call 7; (first | (with_reducible refine (LAB.out _ T.out).mono ?_) | (with_reducible refine (LBA.out _ T.out).mono ?_) | (with_reducible refine (LBC.out _ T.out).mono ?_) | (with_reducible refine (LAC.out _ T.out).mono ?_)); rintro e _ ⟨rfl, rfl⟩)
        | (go_at_call 8; (first | (with_reducible refine (SAB.out _ T.out).mono ?_) | (with_reducible refine (SAB.out _ (T.out.drewN _)).mono ?_)); rintro e _ ⟨rfl, j, rfl⟩)
        | (go_at_call 9; (first | (with_reducible refine (CA.out _ (T.out.drewN _)).mono ?_) | (with_reducible refine (CB.out _ (T.out.drewN _)).mono ?_)); rintro e _ ⟨rfl, rfl⟩)
        | (go_at_call 10; (with_reducible refine (DOT.out _ (T.out.drewN _)).mono ?_); rintro e _ ⟨rfl, j, rfl⟩))
        go_ret
        exact ⟨rfl, Below.step HB.out (by first | exact below_drewN (Below.refl _ _) _ | exact below_drewN (below_drewN (Below.refl _ _) _) _)⟩
    · have hq' : 0 ≤ q := by omega
      rcases five with ⟨rfl, rfl, rfl, rfl⟩ | ⟨rfl, rfl, rfl, rfl, rfl⟩ | ⟨rfl, rfl, rfl⟩ | ⟨rfl, rfl, rfl⟩
      all_goals
        go_wp2_with (first
        | (go_at_call 6; (first | (with_reducible refine (DAB.out _ T.out).mono ?_) | (with_reducible refine (DBA.out _ T.out).mono ?_) | (with_reducible refine (DAA.out _ T.out).mono ?_) | (with_reducible refine (DAN.out _ (T.out.drewN _)).mono ?_) | (with_reducible refine (DBN.out _ (T.out.drewN _)).mono ?_)); rintro e _ ⟨rfl, rfl⟩)
        | (go_at_call 7; (first | (with_reducible refine (LAB.out _ T.out).mono ?_) | (with_reducible refine (LBA.out _ T.out).mono ?_) | (with_reducible refine (LBC.out _ T.out).mono ?_) | (with_reducible refine (LAC.out _ T.out).mono ?_)); rintro e _ ⟨rfl, rfl⟩)
        | (go_at_call 8; (first | (with_reducible refine (SAB.out _ T.out).mono ?_) | (with_reducible refine (SAB.out _ (T.out.drewN _)).mono ?_)); rintro e _ ⟨rfl, j, rfl⟩)
        | (go_at_call 9; (first | (with_reducible refine (CA.out _ (T.out.drewN _)).mono ?_) | (with_reducible refine (CB.out _ (T.out.drewN _)).mono ?_)); rintro e _ ⟨rfl, rfl⟩)
        | (go_at_call 10; (with_reducible refine (DOT.out _ (T.out.drewN _)).mono ?_); rintro e _ ⟨rfl, j, rfl⟩))
        go_ret
        exact ⟨rfl, Below.step HB.out (by first | exact below_drewN (Below.refl _ _) _ | exact below_drewN (below_drewN (Below.refl _ _) _) _)⟩
end Go.Proofs.Ytodlbbcgplhihaa
