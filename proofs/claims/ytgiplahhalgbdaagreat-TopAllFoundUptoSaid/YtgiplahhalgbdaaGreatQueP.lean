/-
  Heaps of whatever is in a strict order: rising and sinking keep what there is, and the first one is ahead of all. No condition.
-/
import Derived.Test.YtgiplahhalgbdaaGreatSrt
namespace Go.Proofs.YtgiplahhalgbdaaGreat
set_option linter.unusedSimpArgs false
set_option linter.unusedVariables false

section
variable {α : Type} {lt : α → α → Bool} {l m : List α}
/-- none is ahead of the one at half its place -/
def Heap (lt : α → α → Bool) (l : List α) : Prop := ∀ j a b, 0 < j → l[j]? = some a → l[(j - 1) / 2]? = some b → lt a b = false
/-- .. but the one at i, maybe, which is to rise -/
structure UpInv (lt : α → α → Bool) (l : List α) (i : Nat) : Prop where
  hi : i < l.length
  ord : ∀ j a b, 0 < j → j ≠ i → l[j]? = some a → l[(j - 1) / 2]? = some b → lt a b = false
  far : ∀ j a b, 0 < i → 0 < j → (j - 1) / 2 = i → l[j]? = some a → l[(i - 1) / 2]? = some b → lt a b = false
/-- .. but those below the one at i, maybe, which is to sink -/
structure DownInv (lt : α → α → Bool) (l : List α) (i : Nat) : Prop where
  ord : ∀ j a b, 0 < j → (j - 1) / 2 ≠ i → l[j]? = some a → l[(j - 1) / 2]? = some b → lt a b = false
  far : ∀ j a b, 0 < i → 0 < j → (j - 1) / 2 = i → l[j]? = some a → l[(i - 1) / 2]? = some b → lt a b = false
theorem heap_nil : Heap lt ([] : List α) := fun j a b _ h => by simp at h
/-- the two at i and k change places -/
def swp (l : List α) (i k : Nat) (a b : α) : List α := (l.set i b).set k a
theorem swp_len (i k : Nat) (a b : α) : (swp l i k a b).length = l.length := by simp [swp]
theorem swp_get {i k : Nat} {a b : α} (hi : i < l.length) (hk : k < l.length) (j : Nat) : (swp l i k a b)[j]? = if j = k then some a else if j = i then some b else l[j]? := by
  unfold swp
  rw [List.getElem?_set, List.getElem?_set]
  by_cases h1 : k = j
  · subst h1; simp [hk]
  · rw [if_neg h1, if_neg (Ne.symm h1)]
    by_cases h2 : i = j
    · subst h2; simp [hi]
    · rw [if_neg h2, if_neg (Ne.symm h2)]
theorem swp_perm {i k : Nat} {a b : α} (ha : l[i]? = some a) (hb : l[k]? = some b) (hne : i ≠ k) : (swp l i k a b).Perm l := by
  have hi := (List.getElem?_eq_some_iff.1 ha).1
  have hk := (List.getElem?_eq_some_iff.1 hb).1
  have e1 : a = l[i] := ((List.getElem?_eq_some_iff.1 ha).2).symm
  have e2 : b = l[k] := ((List.getElem?_eq_some_iff.1 hb).2).symm
  subst e1 e2
  exact List.set_set_perm hi hk
variable (hS : Go.Sort.SWO lt)
theorem Heap.up (h : Heap lt l) (x : α) : UpInv lt (l ++ [x]) l.length := by
  refine ⟨by simp, fun j a b h0 hne ha hb => ?_, fun j a b h0 h1 h2 ha hb => ?_⟩
  · have hj := (List.getElem?_eq_some_iff.1 ha).1
    simp at hj
    rw [List.getElem?_append_left (by omega)] at ha hb
    exact h j a b h0 ha hb
  · have hj := (List.getElem?_eq_some_iff.1 ha).1
    simp at hj
    omega
theorem UpInv.top (h : UpInv lt l 0) : Heap lt l := fun j a b h0 ha hb => h.ord j a b h0 (by omega) ha hb
theorem UpInv.stop {i : Nat} {a b : α} (h : UpInv lt l i) (ha : l[i]? = some a) (hb : l[(i - 1) / 2]? = some b) (hl : lt a b = false) : Heap lt l := fun j x y h0 hx hy => by
  by_cases e : j = i
  · subst e
    rw [ha] at hx; rw [hb] at hy
    injection hx with hx; injection hy with hy
    subst hx hy; exact hl
  · exact h.ord j x y h0 e hx hy
include hS
theorem UpInv.step {i : Nat} {a b : α} (h : UpInv lt l i) (h0 : 0 < i) (ha : l[i]? = some a) (hb : l[(i - 1) / 2]? = some b) (hl : lt a b = true) : UpInv lt (swp l i ((i - 1) / 2) a b) ((i - 1) / 2) := by
  have hi := h.hi
  have hp : (i - 1) / 2 < l.length := by omega
  have hG := swp_get (a := a) (b := b) hi hp
  refine ⟨by rw [swp_len]; exact hp, fun j x y hj hne hx hy => ?_, fun j x y hp0 hj hpj hx hy => ?_⟩
  · rw [hG, if_neg hne] at hx
    rw [hG] at hy
    by_cases e : j = i
    · subst e
      rw [if_pos rfl] at hx hy
      injection hx with hx; injection hy with hy
      subst hx hy; exact lt_asymm hS hl
    · rw [if_neg e] at hx
      by_cases e1 : (j - 1) / 2 = (i - 1) / 2
      · rw [if_pos e1] at hy
        injection hy with hy
        subst hy
        have h1 := h.ord j x b hj e hx (by rw [e1]; exact hb)
        exact hS.ntrans x b a h1 (lt_asymm hS hl)
      · rw [if_neg e1] at hy
        by_cases e2 : (j - 1) / 2 = i
        · rw [if_pos e2] at hy
          injection hy with hy
          subst hy
          exact h.far j x b h0 hj e2 hx hb
        · rw [if_neg e2] at hy
          exact h.ord j x y hj e hx hy
  · rw [hG, if_neg (by omega)] at hx
    rw [hG, if_neg (by omega), if_neg (by omega)] at hy
    have h1 := h.ord ((i - 1) / 2) b y hp0 (by omega) hb hy
    by_cases e : j = i
    · subst e
      rw [if_pos rfl] at hx
      injection hx with hx
      subst hx; exact h1
    · rw [if_neg e] at hx
      exact hS.ntrans x b y (h.ord j x b hj e hx (by rw [hpj]; exact hb)) h1
theorem DownInv.step {i k : Nat} {a b : α} (h : DownInv lt l i) (hk : 0 < k) (hki : (k - 1) / 2 = i) (ha : l[i]? = some a) (hb : l[k]? = some b) (hl : lt b a = true)
    (hs : ∀ j x, 0 < j → (j - 1) / 2 = i → l[j]? = some x → lt x b = false) : DownInv lt (swp l k i b a) k := by
  have hi := (List.getElem?_eq_some_iff.1 ha).1
  have hkl := (List.getElem?_eq_some_iff.1 hb).1
  have hG := swp_get (a := b) (b := a) hkl hi
  refine ⟨fun j x y hj hne hx hy => ?_, fun j x y hp0 hj hpj hx hy => ?_⟩
  · rw [hG] at hx hy
    by_cases e : (j - 1) / 2 = i
    · rw [if_pos e] at hy
      injection hy with hy
      subst hy
      rw [if_neg (by omega)] at hx
      by_cases e1 : j = k
      · subst e1
        rw [if_pos rfl] at hx
        injection hx with hx
        subst hx; exact lt_asymm hS hl
      · rw [if_neg e1] at hx
        exact hs j x hj e hx
    · rw [if_neg e, if_neg (by omega)] at hy
      by_cases e1 : j = i
      · subst e1
        rw [if_pos rfl] at hx
        injection hx with hx
        subst hx
        exact h.far k b y hj hk hki hb hy
      · rw [if_neg e1, if_neg (by omega)] at hx
        exact h.ord j x y hj e hx hy
  · rw [hG, if_neg (by omega), if_neg (by omega)] at hx
    rw [hG, hki, if_pos rfl] at hy
    injection hy with hy
    subst hy
    exact h.ord j x b hj (by omega) hx (by rw [hpj]; exact hb)
omit hS in
theorem DownInv.stop {i : Nat} {a : α} (h : DownInv lt l i) (ha : l[i]? = some a) (hs : ∀ j x, 0 < j → (j - 1) / 2 = i → l[j]? = some x → lt x a = false) : Heap lt l := fun j x y h0 hx hy => by
  by_cases e : (j - 1) / 2 = i
  · rw [e, ha] at hy
    injection hy with hy
    subst hy
    exact hs j x h0 e hx
  · exact h.ord j x y h0 e hx hy
omit hS in
theorem DownInv.leaf {i : Nat} (h : DownInv lt l i) (hs : ∀ j, 0 < j → (j - 1) / 2 = i → l[j]? = none) : Heap lt l := fun j x y h0 hx hy => by
  by_cases e : (j - 1) / 2 = i
  · rw [hs j h0 e] at hx; cases hx
  · exact h.ord j x y h0 e hx hy
/-- of two below i: the one that sinks' place is taken by the one ahead -/
theorem two_kids {i k : Nat} {b : α} (hb : l[k]? = some b) (hk : k = 2 * i + 1 ∨ k = 2 * i + 2) (hc : ∀ c, l[2 * i + 1 + 2 * i + 2 - k]? = some c → lt c b = false) : ∀ j x, 0 < j → (j - 1) / 2 = i → l[j]? = some x → lt x b = false := fun j x h0 hj hx => by
  have : j = k ∨ j = 2 * i + 1 + 2 * i + 2 - k := by omega
  rcases this with rfl | rfl
  · rw [hb] at hx; injection hx with hx; subst hx; exact hS.irrefl _
  · exact hc x hx
theorem Heap.first (h : Heap lt l) {x : α} (hx : l[0]? = some x) : ∀ (j : Nat) (a : α), l[j]? = some a → lt a x = false := by
  intro j
  induction j using Nat.strongRecOn with
  | ind j ih =>
    intro a ha
    rcases Nat.eq_zero_or_pos j with e | e
    · subst e
      rw [hx] at ha; injection ha with ha; subst ha; exact hS.irrefl _
    · have hj := (List.getElem?_eq_some_iff.1 ha).1
      have hp : (j - 1) / 2 < l.length := by omega
      have h1 := ih ((j - 1) / 2) (by omega) _ (List.getElem?_eq_getElem hp)
      exact hS.ntrans a _ x (h j a _ e ha (List.getElem?_eq_getElem hp)) h1
omit hS in
/-- the last one takes the first one's place -/
theorem Heap.pop {x y : α} {n : Nat} (h : Heap lt l) (hn : l.length = n + 1) : DownInv lt ((l.set 0 y).take n) 0 := by
  refine ⟨fun j a b h0 hj ha hb => ?_, fun j a b h0 => absurd h0 (by omega)⟩
  rw [List.getElem?_take] at ha hb
  split at ha
  · rw [if_pos (by omega), List.getElem?_set_ne (by omega)] at hb
    rw [List.getElem?_set_ne (by omega)] at ha
    exact h j a b h0 ha hb
  · cases ha
omit hS in
theorem pop_perm {x y : α} {n : Nat} (hn : l.length = n + 1) (hx : l[0]? = some x) (hy : l[n]? = some y) : (x :: (l.set 0 y).take n).Perm l := by
  rcases l with _ | ⟨z, l⟩
  · simp at hn
  · simp only [List.getElem?_cons_zero, Option.some.injEq] at hx
    subst hx
    simp only [List.length_cons, Nat.add_right_cancel_iff] at hn
    rcases n with _ | n
    · have : l = [] := List.eq_nil_of_length_eq_zero hn
      subst this; simp
    · simp only [List.set_cons_zero, List.take_succ_cons, List.getElem?_cons_succ] at hy ⊢
      refine List.Perm.cons _ ?_
      have hl : l = l.take n ++ [y] := by
        rw [← List.take_append_drop n l]
        congr 1
        · simp
        · have hd : l.drop n = [y] := by
            have h1 : l.drop n = l[n]'(by omega) :: l.drop (n + 1) := List.drop_eq_getElem_cons (by omega)
            rw [h1, List.drop_eq_nil_of_le (by omega)]
            rw [List.getElem?_eq_getElem (by omega)] at hy
            injection hy with hy
            rw [hy]
          exact hd
      conv => rhs; rw [hl]
      exact (List.perm_append_singleton y (l.take n)).symm
end
end Go.Proofs.YtgiplahhalgbdaaGreat
