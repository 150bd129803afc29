/-
  The package arena: what its object is in memory, and what at and set do. Conditions: the arena's blocks lie as said.
-/
import Derived.Test.YtoodcfldnojkjabChecked
import Derived.Test.YtoodcfldnojkjabLib
import Derived.IntWalk
namespace Go.Proofs.Ytoodcfldnojkjab
open Go.RowKit

/-- how many slots have a state -/
def cnt (S : List Int) (v : Int) : Nat := S.tail.count v
theorem cnt_le (S : List Int) (v : Int) : cnt S v ≤ S.length := by
  have := List.count_le_length (a := v) (l := S.tail); simp at this; unfold cnt; omega
theorem cnt_pos {S : List Int} {i : Nat} {x : Int} (h0 : 1 ≤ i) (h : S[i]? = some x) : 1 ≤ cnt S x := by
  unfold cnt
  rw [Nat.one_le_iff_ne_zero, ← Nat.pos_iff_ne_zero, List.count_pos_iff]
  have : S.tail[i - 1]? = some x := by rw [List.getElem?_tail, ← h]; congr 1; omega
  exact List.mem_of_getElem? this
theorem tail_set (S : List Int) (i : Nat) (v : Int) (h0 : 1 ≤ i) : (S.set i v).tail = S.tail.set (i - 1) v := by
  obtain ⟨j, rfl⟩ : ∃ j, i = j + 1 := ⟨i - 1, by omega⟩
  rcases S with _ | ⟨a, S⟩ <;> simp
theorem cnt_set {S : List Int} {i : Nat} {x : Int} (h0 : 1 ≤ i) (h : S[i]? = some x) (v y : Int) : (cnt (S.set i v) y : Int) = cnt S y - (if x = y then 1 else 0) + (if v = y then 1 else 0) := by
  have hi : i < S.length := (List.getElem?_eq_some_iff.1 h).1
  have ht : i - 1 < S.tail.length := by simp; omega
  have hx : S.tail[i - 1] = x := by
    have : S.tail[i - 1]? = some x := by rw [List.getElem?_tail, ← h]; congr 1; omega
    rw [List.getElem?_eq_getElem ht] at this; injection this
  have hp := cnt_pos h0 h
  unfold cnt at *
  rw [tail_set S i v h0, List.count_set ht, hx]
  by_cases e : x = y
  · subst e
    by_cases e2 : v = x <;> simp [e2] <;> omega
  · by_cases e2 : v = y <;> simp [e, e2]

/-- the cells of all slots: state and generation in turns -/
def slotCell (S G : List Int) (j : Nat) : Value := .int .i64 (if j % 2 = 0 then S.getD (j / 2) 0 else G.getD (j / 2) 0)
def slots (S G : List Int) : Array Value := ((List.range (2 * S.length)).map (slotCell S G)).toArray
theorem slots_size (S G : List Int) : (slots S G).size = 2 * S.length := by simp [slots]
theorem slots_state {S G : List Int} {i : Nat} {x : Int} (h : S[i]? = some x) : (slots S G)[i * 2]? = some (.int .i64 x) := by
  have hi := (List.getElem?_eq_some_iff.1 h).1
  simp [slots, slotCell, show i * 2 < 2 * S.length by omega, h]
theorem slots_gen {S G : List Int} {i : Nat} {x : Int} (hi : i < S.length) (h : G[i]? = some x) : (slots S G)[i * 2 + 1]? = some (.int .i64 x) := by
  simp [slots, slotCell, show i * 2 + 1 < 2 * S.length by omega, show (i * 2 + 1) % 2 = 1 by omega, show (i * 2 + 1) / 2 = i by omega, h]
theorem slots_setState {S G : List Int} {i : Nat} (hi : i < S.length) (v : Int) : (slots S G).setIfInBounds (i * 2) (.int .i64 v) = slots (S.set i v) G := by
  unfold slots
  rw [List.setIfInBounds_toArray, List.length_set]
  congr 1
  apply List.ext_getElem
  · simp
  · intro j h1 h2
    simp at h2
    rw [List.getElem_set]
    by_cases e : i * 2 = j
    · subst e; simp [slotCell, hi]
    · rw [if_neg e]
      simp only [List.getElem_map, List.getElem_range, slotCell]
      by_cases hj : j % 2 = 0
      · rw [if_pos hj, if_pos hj, List.getD_eq_getElem?_getD, List.getD_eq_getElem?_getD, List.getElem?_set_ne (by omega)]
      · rw [if_neg hj, if_neg hj]
theorem slots_setGen {S G : List Int} {i : Nat} (hi : i < S.length) (hG : S.length = G.length) (v : Int) : (slots S G).setIfInBounds (i * 2 + 1) (.int .i64 v) = slots S (G.set i v) := by
  unfold slots
  rw [List.setIfInBounds_toArray]
  congr 1
  apply List.ext_getElem
  · simp
  · intro j h1 h2
    simp at h2
    rw [List.getElem_set]
    by_cases e : i * 2 + 1 = j
    · subst e; simp [slotCell, show (i * 2 + 1) % 2 = 1 by omega, show (i * 2 + 1) / 2 = i by omega, ← hG, hi]
    · rw [if_neg e]
      simp only [List.getElem_map, List.getElem_range, slotCell]
      by_cases hj : j % 2 = 0
      · rw [if_pos hj, if_pos hj]
      · rw [if_neg hj, if_neg hj, List.getD_eq_getElem?_getD, List.getD_eq_getElem?_getD, List.getElem?_set_ne (by omega)]

def head (Q n : Nat) (fv : Value) (S : List Int) : Array Value := #[.slice (some ⟨Q, 0, none⟩) n n, fv, .int .i64 (cnt S 0), .int .i64 (cnt S 1), .int .i64 (cnt S 2), .int .i64 (cnt S 3), .int .i64 (cnt S 4)]
/-- the arena's two blocks of its own: the object at P, the slots at Q -/
structure Two (w : World) (P Q : Nat) (fv : Value) (S G : List Int) : Prop where
  hP : Blk w P 53 (head Q S.length fv S)
  hQ : Blk w Q 59 (slots S G)
theorem Two.ne {w : World} {P Q : Nat} {fv : Value} {S G : List Int} (h : Two w P Q fv S G) : P ≠ Q := h.hP.ne_ h.hQ (by decide)

set_option maxHeartbeats 1000000 in
theorem at_any {P Q : Nat} {fv : Value} {S G : List Int} (w : World) (h : Two w P Q fv S G) (i : Int) (hl : S.length ≤ 5000) :
    Calls Try.prog 21 #[.pointer (some ⟨P, 0, none⟩), .int .i64 i] w fun e w' => e = .returned (.pointer (if i < 1 ∨ (S.length : Int) ≤ i then none else some ⟨Q, i.toNat * 2, none⟩)) ∧ w = w' := by
  have c0 : w.cell? ⟨P, 0, none⟩ = some (.slice (some ⟨Q, 0, none⟩) S.length S.length) := by rw [h.hP.cell]; rfl
  have H := hide h
  clear h
  have three : i < 1 ∨ (1 ≤ i ∧ (S.length : Int) ≤ i) ∨ (1 ≤ i ∧ i < (S.length : Int)) := by omega
  generalize hn : S.length = n at *
  rcases three with h1 | ⟨h1, h2⟩ | ⟨h1, h2⟩
  · rw [if_pos (.inl h1)]
    have Hn := hide hn
    clear hn
    go_enter Try.func21, Try.ntmps21
    go_wp2
    go_ret
    exact ⟨rfl, rfl⟩
  · rw [if_pos (.inr h2)]
    have Hn := hide hn
    clear hn
    go_enter Try.func21, Try.ntmps21
    go_wp2
    go_ret
    exact ⟨rfl, rfl⟩
  · rw [if_neg (by omega)]
    obtain ⟨k, rfl⟩ := Int.eq_ofNat_of_zero_le (show 0 ≤ i by omega)
    have Hn := hide hn
    clear hn
    go_enter Try.func21, Try.ntmps21
    go_wp2
    go_ret
    exact ⟨by simp, rfl⟩

theorem head_move {Q n : Nat} {fv : Value} {S : List Int} {i x z : Nat} (h1 : 1 ≤ i) (hx : S[i]? = some (x : Int)) (hx4 : x ≤ 4) (hz4 : z ≤ 4) (hxz : x ≠ z) :
    ((head Q n fv S).setIfInBounds (2 + x) (.int .i64 ((cnt S x : Int) - 1))).setIfInBounds (2 + z) (.int .i64 ((cnt S z : Int) + 1)) = head Q n fv (S.set i z) := by
  have e := cnt_set h1 hx z
  unfold head
  rw [e 0, e 1, e 2, e 3, e 4]
  clear e h1 hx
  have hx5 : x = 0 ∨ x = 1 ∨ x = 2 ∨ x = 3 ∨ x = 4 := by omega
  have hz5 : z = 0 ∨ z = 1 ∨ z = 2 ∨ z = 3 ∨ z = 4 := by omega
  rcases hx5 with rfl | rfl | rfl | rfl | rfl <;> rcases hz5 with rfl | rfl | rfl | rfl | rfl <;> first | (exact absurd rfl hxz) | simp

def SetDone (w : World) (P Q : Nat) (fv : Value) (S G : List Int) (e : Ending) (w' : World) : Prop :=
  e = .returned (.tuple #[]) ∧ Two w' P Q fv S G ∧ w'.heap.size = w.heap.size ∧ (∀ k, k ≠ P → k ≠ Q → w'.heap[k]? = w.heap[k]?) ∧ w'.os = w.os ∧ w'.tape = w.tape ∧ w'.output = w.output
set_option maxHeartbeats 1000000 in
theorem set_any {P Q : Nat} {fv : Value} {S G : List Int} (w : World) (h : Two w P Q fv S G) (i : Nat) (x : Nat) (z : Nat) (hl : S.length ≤ 5000) (h1 : 1 ≤ i) (hx : S[i]? = some (x : Int)) (hx4 : x ≤ 4) (hz4 : z ≤ 4) (hxz : x ≠ z) :
    Calls Try.prog 22 #[.pointer (some ⟨P, 0, none⟩), .pointer (some ⟨Q, i * 2, none⟩), .int .i64 z] w (SetDone w P Q fv (S.set i z) G) := by
  have hne := h.ne
  have c0 : w.cell? ⟨Q, i * 2, none⟩ = some (.int .i64 x) := by rw [h.hQ.cell]; exact slots_state hx
  have f0 := h.hP.frozen (2 + x)
  have f1 := h.hP.frozen (2 + z)
  have f2 := h.hQ.frozen (i * 2)
  have hb := cnt_pos h1 hx
  have hle := cnt_le S x
  have hle2 := cnt_le S z
  have cc : ∀ y : Nat, y ≤ 4 → w.cell? ⟨P, 2 + y, none⟩ = some (.int .i64 (cnt S y)) := by
    intro y hy
    rw [h.hP.cell]
    have : y = 0 ∨ y = 1 ∨ y = 2 ∨ y = 3 ∨ y = 4 := by omega
    rcases this with rfl | rfl | rfl | rfl | rfl <;> rfl
  have c1 := cc x hx4
  have c2 := cc z hz4
  have i0 : (0 : Int) ≤ (x : Int) := by omega
  have i1 : (x : Int) < 5 := by omega
  have i2 : (0 : Int) ≤ (z : Int) := by omega
  have i3 : (z : Int) < 5 := by omega
  have hi : i < S.length := (List.getElem?_eq_some_iff.1 hx).1
  have HM := hide (head_move (Q := Q) (n := S.length) (fv := fv) h1 hx hx4 hz4 hxz)
  have H := hide h
  have Hx := hide hx
  have c3 : (w.setCell ⟨P, 2 + x, none⟩ (.int .i64 ((cnt S x : Int) - 1))).cell? ⟨P, 2 + z, none⟩ = some (.int .i64 (cnt S z)) := by
    rw [World.cell?_setCell_other _ _ _ _ (by intro e; injection e with _ e; omega)]; exact c2
  have hxz' : ¬ z = x := fun e => hxz e.symm
  clear h cc hx
  go_enter Try.func22, Try.ntmps22
  have hw1 : IntKind.i64.wrap ((cnt S x : Int) - 1) = (cnt S x : Int) - 1 := IntWalk.i64_in _ (by omega)
  have hw2 : IntKind.i64.wrap ((cnt S z : Int) + 1) = (cnt S z : Int) + 1 := IntWalk.i64_in _ (by omega)
  go_upto_region 0 with fail
  go_still_tail 13, (by kernel_rfl)
  go_wp2
  generalize hW : World.drew (World.setCell w ⟨P, 2 + x, none⟩ (.int .i64 ((cnt S x : Int) - 1))) = w1
  have d1 : w1.cell? ⟨P, 2 + z, none⟩ = some (.int .i64 (cnt S z)) := by rw [← hW]; exact c3
  have d2 : w1.frozen? ⟨P, 2 + z, none⟩ = false := by rw [← hW]; simp [f1]
  have d3 : (w1.setCell ⟨P, 2 + z, none⟩ (.int .i64 ((cnt S z : Int) + 1))).cell? ⟨Q, i * 2, none⟩ = some (.int .i64 x) := by
    rw [World.cell?_setCell_other _ _ _ _ (by intro e; injection e with e; exact hne e), ← hW, World.cell?_drew, World.cell?_setCell_other _ _ _ _ (by intro e; injection e with e; exact hne e)]; exact c0
  have d4 : w1.frozen? ⟨Q, i * 2, none⟩ = false := by rw [← hW]; simp [f2]
  have HW := hide hW
  clear hW c1 c2 c3 c0 f0 f1 f2
  go_still_tail 10, (by kernel_rfl)
  go_wp2
  go_end0
  have hh := H.out
  have hP1 := (hh.hP.set_ (2 + x) (.int .i64 ((cnt S x : Int) - 1))).drew
  rw [HW.out] at hP1
  have hQ1 := (hh.hQ.far (p := ⟨P, 2 + x, none⟩) (fun e => hne e.symm) (.int .i64 ((cnt S x : Int) - 1))).drew
  rw [HW.out] at hQ1
  refine ⟨rfl, ⟨?_, ?_⟩, ?_, ?_, ?_⟩
  · have := ((hP1.set_ (2 + z) (.int .i64 ((cnt S z : Int) + 1))).far (p := ⟨Q, i * 2, none⟩) hne (.int .i64 z)).drew
    rw [HM.out] at this
    rw [List.length_set]
    exact this
  · have := ((hQ1.far (p := ⟨P, 2 + z, none⟩) (fun e => hne e.symm) (.int .i64 ((cnt S z : Int) + 1))).set_ (i * 2) (.int .i64 z)).drew
    rw [slots_setState hi] at this
    exact this
  · rw [← HW.out]; simp
  · intro k h1 h2
    rw [← HW.out]
    show (World.setCell _ _ _).heap[k]? = _
    rw [Below.heap_setCell _ _ _ _ h2, Below.heap_setCell _ _ _ _ h1]
    show (World.setCell _ _ _).heap[k]? = _
    rw [Below.heap_setCell _ _ _ _ h1]
  · rw [← HW.out]; exact ⟨rfl, rfl, rfl⟩
end Go.Proofs.Ytoodcfldnojkjab
