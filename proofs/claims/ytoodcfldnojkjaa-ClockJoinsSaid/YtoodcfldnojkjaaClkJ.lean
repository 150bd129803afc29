/-
  The law ClockJoins: for every input it returns true. No condition.
-/
import Derived.Test.YtoodcfldnojkjaaClkM
namespace Go.Proofs.Ytoodcfldnojkjaa
open Go.RowKit

theorem clkAt_short (F : Nat → Int) (hF : ∀ i, 0 ≤ F i) (i : Nat) (hi : i < 65) : clkAt (shortOf F) i = F i := by
  have h0 := hF i
  by_cases hl : i < lenOf F 65
  · have : clkAt (shortOf F) i = pos (F i) := by simp [clkAt, shortOf, hl]
    rw [this, pos, if_neg (by omega)]
  · have h1 : clkAt (shortOf F) i = 0 := by simp [clkAt, shortOf, hl, pos]
    rw [h1]
    have : ∀ j, i + 1 + j ≤ 65 → lenOf F (i + 1 + j) ≤ i → F i = 0 := by
      intro j
      induction j with
      | zero =>
        intro _ h
        by_cases e : F i = 0
        · exact e
        · rw [Nat.add_zero, lenOf, if_neg e] at h; omega
      | succ j ih =>
        intro hj h
        rw [← Nat.add_assoc, lenOf] at h
        split at h
        · exact ih (by omega) h
        · omega
    exact (this (64 - i) (by omega) (by rw [show i + 1 + (64 - i) = 65 by omega]; omega)).symm
theorem with_pos (f g : Nat → Int) (hf : ∀ i, 0 ≤ f i) (hg : ∀ i, 0 ≤ g i) (i : Nat) : 0 ≤ withOf f g i := by
  have := hf i; have := hg i; unfold withOf; split <;> omega
theorem anyLt_congr {f f' g g' : Nat → Int} (h1 : ∀ i, i < 65 → f i = f' i) (h2 : ∀ i, i < 65 → g i = g' i) : anyLt f g 65 = anyLt f' g' 65 := by
  rw [Bool.eq_iff_iff]
  constructor <;> intro h <;> obtain ⟨i, hi, hl⟩ := anyLt_true h
  · exact anyLt_mk i hi (by rw [← h1 i hi, ← h2 i hi]; exact hl)
  · exact anyLt_mk i hi (by rw [h1 i hi, h2 i hi]; exact hl)
section
variable {f g h : Nat → Int} (hf : ∀ i, 0 ≤ f i) (hg : ∀ i, 0 ≤ g i) (hh : ∀ i, 0 ≤ h i)
include hf hg
theorem up_left : anyLt (clkAt (shortOf (withOf f g))) f 65 = false := anyLt_no fun i hi => by
  rw [clkAt_short _ (with_pos f g hf hg) i hi]; unfold withOf; split <;> omega
theorem up_right : anyLt (clkAt (shortOf (withOf f g))) g 65 = false := anyLt_no fun i hi => by
  rw [clkAt_short _ (with_pos f g hf hg) i hi]; unfold withOf; split <;> omega
theorem up_least (h1 : anyLt h f 65 = false) (h2 : anyLt h g 65 = false) : anyLt h (clkAt (shortOf (withOf f g))) 65 = false := anyLt_no fun i hi => by
  rw [clkAt_short _ (with_pos f g hf hg) i hi]
  have := anyLt_false h1 i hi
  have := anyLt_false h2 i hi
  unfold withOf; split <;> omega
include hh
theorem join_assoc : shortOf (withOf (clkAt (shortOf (withOf f g))) h) = shortOf (withOf f (clkAt (shortOf (withOf g h)))) := shortOf_congr _ _ fun i hi => by
  have e1 := clkAt_short _ (with_pos f g hf hg) i hi
  have e2 := clkAt_short _ (with_pos g h hg hh) i hi
  unfold withOf at e1 e2 ⊢
  rw [e1, e2]
  repeat' split
  all_goals omega
end
theorem join_comm (f g : Nat → Int) : shortOf (withOf g f) = shortOf (withOf f g) := shortOf_congr _ _ fun i _ => by unfold withOf; split <;> split <;> omega
theorem join_self (f : Nat → Int) : shortOf (withOf f f) = shortOf f := shortOf_congr _ _ fun i _ => by unfold withOf; split <;> omega

def ticksB (f : Nat → Int) (i : Int) : Bool := decide (0 ≤ i ∧ i ≤ 64 ∧ atSpec f i < 4611686018427387904)
theorem ticks_yes {f : Nat → Int} {i : Int} (hf : ∀ i, 0 ≤ f i) (h : ticksB f i = true) : cmp f (clkAt (shortOf (stepOf f i))) = -1 ∧ atSpec (clkAt (shortOf (stepOf f i))) i = atSpec f i + 1 ∧ 0 ≤ i ∧ i ≤ 64 ∧ 0 ≤ atSpec f i ∧ atSpec f i < 4611686018427387904 := by
  unfold ticksB at h
  obtain ⟨h0, h1, h2⟩ := of_decide_eq_true h
  obtain ⟨k, rfl⟩ := Int.eq_ofNat_of_zero_le h0
  rw [atSpec_in _ _ h1] at h2
  have hs : stepOf f k = fun j => if j = k then f j + 1 else f j := by simp [stepOf, h1, h2]
  have hp := stepOf_pos f hf k
  have ek : clkAt (shortOf (stepOf f k)) k = f k + 1 := by rw [clkAt_short _ hp k (by omega), hs]; simp
  refine ⟨?_, by rw [atSpec_in _ _ h1, atSpec_in _ _ h1, ek], h0, h1, by rw [atSpec_in _ _ h1]; exact hf k, by rw [atSpec_in _ _ h1]; exact h2⟩
  have a1 : anyLt f (clkAt (shortOf (stepOf f k))) 65 = true := anyLt_mk k (by omega) (by rw [ek]; omega)
  have a2 : anyLt (clkAt (shortOf (stepOf f k))) f 65 = false := anyLt_no fun i hi => by
    rw [clkAt_short _ hp i hi, hs]; dsimp only; split <;> omega
  unfold cmp
  rw [a1, a2]; rfl
theorem ticks_no {f : Nat → Int} {i : Int} (hf : ∀ i, 0 ≤ f i) (h : ticksB f i = false) : cmp f (clkAt (shortOf (stepOf f i))) = 0 := by
  unfold ticksB at h
  have h := of_decide_eq_false h
  have hs : stepOf f i = f := by
    unfold stepOf
    rw [if_neg]
    intro hh
    refine h ⟨hh.1, hh.2.1, ?_⟩
    unfold atSpec
    rw [if_neg (by omega)]
    exact hh.2.2
  rw [hs]
  have a1 : anyLt f (clkAt (shortOf f)) 65 = false := anyLt_no fun i hi => by rw [clkAt_short _ hf i hi]; exact Int.le_refl _
  have a2 : anyLt (clkAt (shortOf f)) f 65 = false := anyLt_no fun i hi => by rw [clkAt_short _ hf i hi]; exact Int.le_refl _
  unfold cmp
  rw [a1, a2]; rfl

set_option maxHeartbeats 1000000 in
theorem up_any (A B : Option Addr) (n c m d : Nat) (xs ys : List Int) (w : World) (hx : Ints w w.heap.size A xs) (hn : xs.length = n) (hc : n ≤ c) (hm : c ≤ 9223372036854775807)
    (hy : Ints w w.heap.size B ys) (hn' : ys.length = m) (hc' : m ≤ d) (hm' : d ≤ 9223372036854775807) :
    Calls Try.prog 17 #[.slice A n c, .slice B m d] w fun e w' => e = .returned (.bool (!anyLt (clkAt ys) (clkAt xs) 65)) ∧ Below w.heap.size w w' := by
  have Hn := hide hn
  have Hn' := hide hn'
  clear hn hn'
  go_enter Try.func17, Try.ntmps17
  go_wp2_with fail
  refine (compare_any _ _ _ _ _ _ xs ys _ hx Hn.out hc hm hy Hn'.out hc' hm').mono ?_
  rintro e w1 ⟨rfl, hb⟩
  obtain ⟨l, Hl⟩ : ∃ l, Hid (anyLt (clkAt xs) (clkAt ys) 65 = l) := ⟨_, rfl⟩
  obtain ⟨g, Hg⟩ : ∃ g, Hid (anyLt (clkAt ys) (clkAt xs) 65 = g) := ⟨_, rfl⟩
  rw [cmp, Hl.out, Hg.out]
  cases l <;> cases g
  all_goals
    go_wp2_with fail
    go_ret
    exact ⟨by rw [Hg.out]; rfl, hb⟩
theorem up_true (xs ys : List Int) (h : anyLt (clkAt ys) (clkAt xs) 65 = false) {A B : Option Addr} {n c m d : Nat} (w : World) (hx : Ints w w.heap.size A xs) (hn : xs.length = n) (hc : n ≤ c) (hm : c ≤ 9223372036854775807)
    (hy : Ints w w.heap.size B ys) (hn' : ys.length = m) (hc' : m ≤ d) (hm' : d ≤ 9223372036854775807) :
    Calls Try.prog 17 #[.slice A n c, .slice B m d] w fun e w' => e = .returned (.bool true) ∧ Below w.heap.size w w' :=
  (up_any A B n c m d xs ys w hx hn hc hm hy hn' hc' hm').mono fun e w' ⟨h1, h2⟩ => ⟨by rw [h1, h]; rfl, h2⟩
theorem up_false (xs ys : List Int) (h : anyLt (clkAt ys) (clkAt xs) 65 = true) {A B : Option Addr} {n c m d : Nat} (w : World) (hx : Ints w w.heap.size A xs) (hn : xs.length = n) (hc : n ≤ c) (hm : c ≤ 9223372036854775807)
    (hy : Ints w w.heap.size B ys) (hn' : ys.length = m) (hc' : m ≤ d) (hm' : d ≤ 9223372036854775807) :
    Calls Try.prog 17 #[.slice A n c, .slice B m d] w fun e w' => e = .returned (.bool false) ∧ Below w.heap.size w w' :=
  (up_any A B n c m d xs ys w hx hn hc hm hy hn' hc' hm').mono fun e w' ⟨h1, h2⟩ => ⟨by rw [h1, h]; rfl, h2⟩

end Go.Proofs.Ytoodcfldnojkjaa
