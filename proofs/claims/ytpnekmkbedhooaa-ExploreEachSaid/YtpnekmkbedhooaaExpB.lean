/-
  The package explore: the document's functions: turns that are right, sums, one pick less, ways, counts. Conditions: the slices read as lists of ints.
-/
import Derived.Test.YtpnekmkbedhooaaExpA
import Derived.Test.YtpnekmkbedhooaaLib3
namespace Go.Proofs.Ytpnekmkbedhooaa
open Go.RowKit

theorem info_ei : (Try.prog.info? 3).map (fun i => (i.zero, i.size, i.bytes)) = some (some (.int .i64 0), 1, 8) := by kernel_rfl
theorem info_eu : (Try.prog.info? 23).map (fun i => (i.zero, i.size, i.bytes)) = some (some (.int .u64 0), 1, 8) := by kernel_rfl
abbrev I64s (w : World) (B : Nat) (A : Option Addr) (xs : List Int) : Prop := Rd (Sh.int .i64) w B A xs
/-- turns, none below 0 -/
def tn (xs : List Int) : List Nat := xs.map Int.toNat
def ni (l : List Nat) : List Int := l.map fun (x : Nat) => (x : Int)
theorem ni_len (l : List Nat) : (ni l).length = l.length := by simp [ni]
theorem tn_len (xs : List Int) : (tn xs).length = xs.length := by simp [tn]
def okT (xs : List Int) : Prop := xs.length ≤ 16 ∧ (∀ x ∈ xs, x ≤ 64) ∧ (tn xs).sum ≤ 64
def sumTo (l : List Nat) (k : Nat) : Nat := (l.take k).sum
theorem sumTo_zero (l : List Nat) : sumTo l 0 = 0 := by simp [sumTo]
theorem sumTo_succ {l : List Nat} {k : Nat} (h : k < l.length) : sumTo l (k + 1) = sumTo l k + l.getD k 0 := by
  unfold sumTo
  rw [List.take_succ_eq_append_getElem h, List.sum_append]
  simp [h]
theorem sumTo_all {l : List Nat} {k : Nat} (h : l.length ≤ k) : sumTo l k = l.sum := by unfold sumTo; rw [List.take_of_length_le h]
theorem sumTo_le (l : List Nat) (k : Nat) : sumTo l k ≤ l.sum := by
  unfold sumTo
  have := List.sum_append (l₁ := l.take k) (l₂ := l.drop k)
  rw [List.take_append_drop] at this
  omega
theorem sumTo_mono (l : List Nat) {j k : Nat} (h : j ≤ k) : sumTo l j ≤ sumTo l k := by
  have := sumTo_le (l.take k) j
  unfold sumTo at this ⊢
  rwa [List.take_take, Nat.min_eq_left h] at this
theorem tn_at {xs : List Int} {k : Nat} {x : Int} (h : xs[k]? = some x) : (tn xs).getD k 0 = x.toNat := by
  rw [List.getD_eq_getElem?_getD, tn, List.getElem?_map, h]; rfl
theorem ni_at {l : List Nat} {k : Nat} {x : Int} (h : (ni l)[k]? = some x) : k < l.length ∧ x = (l.getD k 0 : Nat) := by
  rw [ni, List.getElem?_map, Option.map_eq_some_iff] at h
  obtain ⟨y, hy, rfl⟩ := h
  refine ⟨(List.getElem?_eq_some_iff.1 hy).1, ?_⟩
  rw [List.getD_eq_getElem?_getD, hy]; rfl
theorem take_ni {l : List Nat} {k : Nat} (h : k < l.length) : ni (l.take (k + 1)) = ni (l.take k) ++ [((l.getD k 0 : Nat) : Int)] := by
  rw [List.take_succ_eq_append_getElem h, List.getD_eq_getElem?_getD, List.getElem?_eq_getElem h]
  simp only [ni, List.map_append]
  rfl
theorem sum_le_mul {l : List Nat} {b : Nat} (h : ∀ x ∈ l, x ≤ b) : l.sum ≤ b * l.length := by
  induction l with
  | nil => simp
  | cons n l ih =>
    have := ih fun x hx => h x (List.mem_cons_of_mem _ hx)
    have := h n (List.mem_cons_self ..)
    simp only [List.sum_cons, List.length_cons, Nat.mul_add]; omega
theorem tn_le {xs : List Int} {b : Nat} (h : ∀ x ∈ xs, x ≤ b) : ∀ x ∈ tn xs, x ≤ b := by
  intro x hx
  obtain ⟨y, hy, rfl⟩ := List.mem_map.1 hx
  have := h y hy; omega

def RightGives (w : World) (xs : List Int) (e : Ending) (w' : World) : Prop :=
  (okT xs ∧ ∃ v, e = .returned (.tuple #[v, .bool true]) ∧ NewInts .i64 w (ni (tn xs)) v w') ∨ (¬ okT xs ∧ ∃ v, e = .returned (.tuple #[v, .bool false]) ∧ Below w.heap.size w w')

set_option maxHeartbeats 2000000 in
theorem refRight_any (A : Option Addr) (n c : Nat) (xs : List Int) (w : World) (hx : I64s w w.heap.size A xs) (hn : xs.length = n) (hc : n ≤ c) (hm : c ≤ 9223372036854775807) :
    Calls Try.prog 20 #[.slice A n c] w (RightGives w xs) := by
  rcases Nat.lt_or_ge 16 n with h16 | h16
  · have HF := hide (show RightGives w xs (.returned (.tuple #[.slice none 0 0, .bool false])) w from .inr ⟨fun h => by have := h.1; omega, _, rfl, Below.refl _ _⟩)
    have hd : decide ((16 : Int) < n) = true := by simp; omega
    clear hx hn h16
    go_enter Try.func20, Try.ntmps20
    go_wp2
    all_goals go_ret2
    all_goals exact HF.out
  have HX := hide hx
  have Hn := hide hn
  have hd : decide ((16 : Int) < n) = false := by simp; omega
  clear hx hn
  go_enter Try.func20, Try.ntmps20
  go_wp2
  go_loopw [4, 5, 13] (fun v s i wr => ∃ k : Nat, k ≤ n ∧ i = .int .i64 k ∧ s = .int .i64 (sumTo (tn xs) k : Nat) ∧ Hid (wr.ownsRow w.heap.size 3 1 v k ((ni ((tn xs).take k)).map (Value.int .i64))) ∧ Hid (Below w.heap.size w wr) ∧ Hid (∀ j x, j < k → xs[j]? = some x → x ≤ 64) ∧ Hid (sumTo (tn xs) k ≤ 64 * k)) (fun _ _ i _ => n - (intOf i).toNat)
  case atStart => exact ⟨0, by omega, rfl, by rw [sumTo_zero]; rfl, hide ⟨rfl, .inl ⟨rfl, rfl⟩⟩, hide (Below.refl _ _), hide (fun j x h => by omega), hide (by rw [sumTo_zero]; omega)⟩
  case round =>
    obtain ⟨k, hk, rfl, rfl, hO, hB, hA, hS⟩ := hrel
    by_cases hlt : k < n
    · obtain ⟨ad, x, rfl, _, hv, q0⟩ := (HX.out.below hB.out (Nat.le_refl _)).icell (k := k) (by have := Hn.out; omega)
      have g0 : (0 : Int) ≤ k := by omega
      have g1 : (k : Int) < n := by omega
      have Hv := hide hv
      have Hlt := hide (show k < (tn xs).length by rw [tn_len, Hn.out]; exact hlt)
      have HSS := hide (sumTo_succ Hlt.out)
      have HT := hide (take_ni Hlt.out)
      rw [tn_at hv] at HSS HT
      clear hv
      by_cases h64 : 64 < x
      · have HF := hide (show RightGives w xs (.returned (.tuple #[.slice none 0 0, .bool false])) wr from .inr ⟨fun h => by have := h.2.1 x (List.mem_of_getElem? Hv.out); omega, _, rfl, hB.out⟩)
        have hd2 : decide ((64 : Int) < x) = true := by simp; omega
        go_wp2
        all_goals go_ret2
        all_goals exact HF.out
      · have hd2 : decide ((64 : Int) < x) = false := by simp; omega
        have HA2 := hide (show ∀ j y, j < k + 1 → xs[j]? = some y → y ≤ 64 from fun j y hj hy => by
          rcases Nat.lt_or_ge j k with h | h
          · exact hA.out j y h hy
          · obtain rfl : j = k := by omega
            rw [Hv.out] at hy; injection hy with hy; omega)
        obtain ⟨m, hm1, hm2⟩ : ∃ m : Nat, x.toNat = m ∧ m ≤ 64 := ⟨_, rfl, by omega⟩
        rw [hm1] at HSS HT
        have HS2 := hide (show sumTo (tn xs) (k + 1) ≤ 64 * (k + 1) by have := HSS.out; have := hS.out; omega)
        have Hs := hide (show IntKind.i64.wrap (((sumTo (tn xs) k : Nat) : Int) + (m : Int)) = (sumTo (tn xs) (k + 1) : Nat) by rw [HSS.out, IntKind.wrap_i64]; have := hS.out; omega)
        generalize sumTo (tn xs) k = s at *
        by_cases hx0 : x < 0
        · obtain rfl : m = 0 := by omega
          go_wp2_with (at_builtin; refine wpList_append_elem rfl _ _ 22 rfl w.heap.size Try.underlying22 info_ei rfl (by decide) _ k _ rfl hO.out _ _ rfl rfl (by simp [Value.oneCell']) (by simp only [maxLen]; omega) (by omega) hB.out.size ?_; intro v' w9 hown9 hgr9 hat9; have HO9 := hide hown9; have HB9 := hide (below_own hB.out hO.out hB.out.size hgr9); clear hown9 hgr9 hat9)
          go_roundw
          case rel => exact ⟨k + 1, by omega, by go_num, by have h := Hs.out; rw [← wrap64_i64] at h; simpa using h, hide (by rw [HT.out, List.map_append]; exact HO9.out), HB9, HA2, HS2⟩
          case measure => simp [intOf]; omega
        · obtain rfl : x = (m : Int) := by omega
          go_wp2_with (at_builtin; refine wpList_append_elem rfl _ _ 22 rfl w.heap.size Try.underlying22 info_ei rfl (by decide) _ k _ rfl hO.out _ _ rfl rfl (by simp [Value.oneCell']) (by simp only [maxLen]; omega) (by omega) hB.out.size ?_; intro v' w9 hown9 hgr9 hat9; have HO9 := hide hown9; have HB9 := hide (below_own hB.out hO.out hB.out.size hgr9); clear hown9 hgr9 hat9)
          go_roundw
          case rel => exact ⟨k + 1, by omega, by go_num, by rw [wrap64_i64, Hs.out], hide (by rw [HT.out, List.map_append]; exact HO9.out), HB9, HA2, HS2⟩
          case measure => simp [intOf]; omega
    · obtain rfl : n = k := by omega
      obtain ⟨A9, c9, rfl, o1, o2⟩ := own_form hO.out
      have HN := hide (show (ni ((tn xs).take n)) = ni (tn xs) by rw [List.take_of_length_le (by rw [tn_len, Hn.out]; exact Nat.le_refl _)])
      have HSA := hide (show sumTo (tn xs) n = (tn xs).sum from sumTo_all (by rw [tn_len, Hn.out]; exact Nat.le_refl _))
      have HAll := hide (show ∀ x ∈ xs, x ≤ 64 from fun x hx => by
        obtain ⟨j, hj, e⟩ := List.mem_iff_getElem.1 hx
        exact hA.out j x (by have := Hn.out; omega) (by rw [List.getElem?_eq_getElem hj, e]))
      by_cases hs : (tn xs).sum ≤ 64
      · have hd3 : decide (((sumTo (tn xs) n : Nat) : Int) ≤ 64) = true := by rw [HSA.out]; simp; omega
        have HF := hide (show RightGives w xs (.returned (.tuple #[.slice A9 n c9, .bool true])) wr from .inl ⟨⟨by have := Hn.out; omega, HAll.out, hs⟩, _, rfl, by rw [← HN.out]; exact NewInts.of_own (n := n) hO.out hB.out⟩)
        go_wp2
        go_ret2
        exact HF.out
      · have hd3 : decide (((sumTo (tn xs) n : Nat) : Int) ≤ 64) = false := by rw [HSA.out]; simp; omega
        have HF := hide (show RightGives w xs (.returned (.tuple #[.slice A9 n c9, .bool false])) wr from .inr ⟨fun h => hs h.2.2, _, rfl, hB.out⟩)
        go_wp2
        go_ret2
        exact HF.out

set_option maxHeartbeats 1000000 in
theorem refTotal_any (A : Option Addr) (n c : Nat) (l : List Nat) (w : World) (hx : I64s w w.heap.size A (ni l)) (hn : l.length = n) (hs : l.sum ≤ 1000) (hc : n ≤ c) (hm : c ≤ 9223372036854775807) :
    Calls Try.prog 22 #[.slice A n c] w fun e w' => e = .returned (.int .i64 (l.sum : Nat)) ∧ w = w' := by
  have HX := hide hx
  have Hn := hide hn
  have Hs := hide hs
  clear hx hn hs
  go_enter Try.func22, Try.ntmps22
  go_wp2
  go_loop [3, 8] (fun s i => ∃ k : Nat, k ≤ n ∧ i = .int .i64 k ∧ s = .int .i64 (sumTo l k : Nat)) (fun _ i => n - (intOf i).toNat)
  case atStart => exact ⟨0, by omega, rfl, by rw [sumTo_zero]; rfl⟩
  case round =>
    obtain ⟨k, hk, rfl, rfl⟩ := hrel
    by_cases hlt : k < n
    · obtain ⟨ad, x, rfl, _, hv, q0⟩ := HX.out.icell (k := k) (by rw [ni_len]; have := Hn.out; omega)
      have g0 : (0 : Int) ≤ k := by omega
      have g1 : (k : Int) < n := by omega
      obtain ⟨hlt2, rfl⟩ := ni_at hv
      have Hs2 := hide (show IntKind.i64.wrap (((sumTo l k : Nat) : Int) + ((l.getD k 0 : Nat) : Int)) = (sumTo l (k + 1) : Nat) by
        have h1 := sumTo_succ hlt2
        have h2 := sumTo_le l (k + 1)
        have h3 := Hs.out
        rw [h1, IntKind.wrap_i64]; omega)
      clear hv
      generalize l.getD k 0 = y at *
      generalize sumTo l k = s at *
      go_wp2
      go_round
      case rel => exact ⟨k + 1, by omega, by go_num, by rw [wrap64_i64, Hs2.out]⟩
      case measure => simp [intOf]; omega
    · obtain rfl : n = k := by omega
      have HSA := hide (show sumTo l n = l.sum from sumTo_all (by rw [Hn.out]; exact Nat.le_refl _))
      go_wp2
      go_ret
      exact ⟨by rw [HSA.out]; rfl, rfl⟩
end Go.Proofs.Ytpnekmkbedhooaa
