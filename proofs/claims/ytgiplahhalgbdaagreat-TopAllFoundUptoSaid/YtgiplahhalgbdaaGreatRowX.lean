/-
  Rows of any shape, as lists of cells. No condition.
-/
import Derived.Test.YtgiplahhalgbdaaGreatRowN
namespace Go.Proofs.YtgiplahhalgbdaaGreat
set_option linter.unusedSimpArgs false
set_option linter.unusedVariables false
open Go.RowKit

/-- cells that read as a list -/
def RowX {α : Type} (S : Sh α) (w : World) (R : Nat → Prop) (m : List α) (cs : List Value) : Prop :=
  cs.length = m.length * S.size ∧ ∀ (k : Nat) (x : α), m[k]? = some x → ∃ c, S.rd w R x c ∧ ∀ j, j < S.size → cs[k * S.size + j]? = c[j]?
section
variable {α : Type} {S : Sh α} {w w' : World} {R R' : Nat → Prop} {m : List α} {cs : List Value}
theorem RowX.nil : RowX S w R ([] : List α) [] := ⟨by simp, fun k x h => by simp at h⟩
theorem RowX.snoc {c : List Value} {x : α} (h : RowX S w R m cs) (hr : S.rd w R x c) : RowX S w R (m ++ [x]) (cs ++ c) := by
  have hc : c.length = S.size := S.len hr
  refine ⟨by rw [List.length_append, List.length_append, h.1, hc, List.length_singleton, Nat.add_mul, Nat.one_mul], fun k y hy => ?_⟩
  by_cases hk : k < m.length
  · rw [List.getElem?_append_left hk] at hy
    obtain ⟨d, h1, h2⟩ := h.2 k y hy
    refine ⟨d, h1, fun j hj => ?_⟩
    rw [List.getElem?_append_left ?_]
    · exact h2 j hj
    · rw [h.1]
      have : (k + 1) * S.size ≤ m.length * S.size := Nat.mul_le_mul_right _ hk
      rw [Nat.add_mul, Nat.one_mul] at this
      omega
  · rw [List.getElem?_append_right (by omega)] at hy
    have h0 : k = m.length := by
      have := (List.getElem?_eq_some_iff.1 hy).1
      simp at this; omega
    subst h0
    have : x = y := by simpa using hy
    subst this
    refine ⟨c, hr, fun j hj => ?_⟩
    rw [List.getElem?_append_right (by rw [h.1]; omega), h.1, show m.length * S.size + j - m.length * S.size = j by omega]
theorem RowX.keep (h : RowX S w R m cs) (hk : ∀ p : Addr, R p.block → w'.cell? p = w.cell? p) : RowX S w' R m cs :=
  ⟨h.1, fun k x hx => by obtain ⟨c, h1, h2⟩ := h.2 k x hx; exact ⟨c, S.keep h1 hk, h2⟩⟩
theorem RowX.more (h : RowX S w R m cs) (hR : ∀ b, R b → R' b) : RowX S w R' m cs :=
  ⟨h.1, fun k x hx => by obtain ⟨c, h1, h2⟩ := h.2 k x hx; exact ⟨c, S.more h1 hR, h2⟩⟩
theorem RowX.keepBlocks (h : RowX S w R m cs) (hk : ∀ d, R d → w'.heap[d]? = w.heap[d]?) : RowX S w' R m cs := h.keep fun p hp => World.cell?_of_block (hk _ hp)
theorem RowX.ones (h : RowX S w R m cs) (ho : ∀ x c, S.rd w R x c → ∀ v ∈ c, v.oneCell' = true) : ∀ v ∈ cs, v.oneCell' = true := fun v hv => by
  obtain ⟨i, hi, rfl⟩ := List.getElem_of_mem hv
  have hl := h.1
  have hs : 0 < S.size := by
    rcases Nat.eq_zero_or_pos S.size with e | e
    · rw [e] at hl; omega
    · exact e
  have hk : i / S.size < m.length := by rw [Nat.div_lt_iff_lt_mul hs]; omega
  obtain ⟨c, h1, h2⟩ := h.2 (i / S.size) m[i / S.size] (List.getElem?_eq_getElem hk)
  have h3 := h2 (i % S.size) (Nat.mod_lt _ hs)
  rw [show i / S.size * S.size + i % S.size = i by rw [Nat.mul_comm]; exact Nat.div_add_mod _ _, List.getElem?_eq_getElem hi] at h3
  exact ho _ c h1 _ (List.mem_of_getElem? h3.symm)
/-- a slice that reads as a list: its cells -/
theorem RdR.rowx {A : Option Addr} (h : RdR S w R A m) : ∃ cs, RowX S w R m cs ∧ ∀ i u, cs[i]? = some u → ∃ ad, A = some ad ∧ R ad.block ∧ w.cell? (ad.add i) = some u := by
  have key : ∀ k, k ≤ m.length → ∃ cs, RowX S w R (m.take k) cs ∧ ∀ i u, cs[i]? = some u → ∃ ad, A = some ad ∧ R ad.block ∧ w.cell? (ad.add i) = some u := by
    intro k
    induction k with
    | zero => intro _; exact ⟨[], RowX.nil, fun i u h => by simp at h⟩
    | succ k ih =>
      intro hk
      obtain ⟨cs, h1, h2⟩ := ih (by omega)
      obtain ⟨ad, x, c, e, hb, hx, hr, hc⟩ := h.at_ (k := k) (by omega)
      refine ⟨cs ++ c, by rw [List.take_add_one, hx]; exact h1.snoc hr, fun i u hu => ?_⟩
      by_cases hi : i < cs.length
      · rw [List.getElem?_append_left hi] at hu
        exact h2 i u hu
      · rw [List.getElem?_append_right (by omega)] at hu
        refine ⟨ad, e, hb, ?_⟩
        have := hc _ _ hu
        rw [h1.1, List.length_take, Nat.min_eq_left (by omega)] at this hi
        rwa [show k * S.size + (i - k * S.size) = i by omega] at this
  have := key m.length (Nat.le_refl _)
  rwa [List.take_of_length_le (Nat.le_refl _)] at this
theorem RdR.readsX {B n : Nat} {A : Option Addr} (h : RdR S w R A m) (hn : m.length = n) (hR : ∀ d, R d → d < B) : ∃ cs, RowX S w R m cs ∧ Reads w B S.size A n cs := by
  obtain ⟨cs, h1, h2⟩ := RdR.rowx h
  refine ⟨cs, h1, by rw [h1.1, hn], fun h0 => ?_⟩
  obtain ⟨ad, e, hb, _⟩ := h (by intro e; rw [e] at hn; simp at hn; omega)
  refine ⟨ad, e, hR _ hb, fun j u hu => ?_⟩
  obtain ⟨ad2, e2, _, hc⟩ := h2 j u hu
  rw [e] at e2
  injection e2 with e2
  subst e2
  exact hc
/-- .. a row of the call's own reads as the list -/
theorem RowX.rd {A : Option Addr} {n c base : Nat} {e : TypeId} (hsz : 0 < S.size) (h : RowX S w R m cs) (ho : w.ownsRow base e S.size (.slice A n c) n cs) (hR : ∀ d, R d → R' d) (hg : ∀ g, (Value.slice A n c).ownBlock = some g → R' g) : RdR S w R' A m := fun hne => by
  rcases ho.2 with ⟨hv, rfl⟩ | ⟨g, cap, cur, hv, _, hh, _, _, hs, ht⟩
  · have h1 := ho.1
    rw [h.1] at h1
    have h2 := List.length_pos_iff.2 hne
    have h3 := Nat.mul_pos h2 hsz
    omega
  · injection hv with hA hn hc
    subst hA
    refine ⟨⟨g, 0, none⟩, rfl, hg g rfl, fun k x hx => ?_⟩
    obtain ⟨d, h1, h2⟩ := h.2 k x hx
    refine ⟨d, S.more h1 hR, fun j u hu => ?_⟩
    have hj : j < S.size := by rw [← S.len h1]; exact (List.getElem?_eq_some_iff.1 hu).1
    have h3 := (h2 j hj).trans hu
    rw [add_mk, Nat.zero_add, cell_of_row w g _ cur e (0, 0) hh, ← Array.getElem?_toList]
    rw [← ht, List.getElem?_take] at h3
    split at h3
    · exact h3
    · cases h3
theorem RowX.set {k i : Nat} {x y : α} {v : Value} (h : RowX S w R m cs) (hx : m[k]? = some x) (hi : i < S.size) (hy : ∀ c, S.rd w R x c → (∀ j, j < S.size → cs[k * S.size + j]? = c[j]?) → S.rd w R y (c.set i v)) : RowX S w R (m.set k y) (cs.set (k * S.size + i) v) := by
  have hk := (List.getElem?_eq_some_iff.1 hx).1
  refine ⟨by rw [List.length_set, List.length_set, h.1], fun q z hz => ?_⟩
  by_cases e : q = k
  · subst e
    rw [List.getElem?_set_self hk] at hz
    injection hz with hz
    subst hz
    obtain ⟨c, h1, h2⟩ := h.2 q x hx
    refine ⟨c.set i v, hy c h1 h2, fun j hj => ?_⟩
    by_cases e : j = i
    · subst e
      have hl : q * S.size + j < cs.length := by
        rw [h.1]
        have : (q + 1) * S.size ≤ m.length * S.size := Nat.mul_le_mul_right _ hk
        rw [Nat.add_mul, Nat.one_mul] at this
        omega
      rw [List.getElem?_set_self hl, List.getElem?_set_self (by rw [S.len h1]; exact hj)]
    · rw [List.getElem?_set_ne (by omega), List.getElem?_set_ne (by omega), h2 j hj]
  · rw [List.getElem?_set_ne (by omega)] at hz
    obtain ⟨c, h1, h2⟩ := h.2 q z hz
    refine ⟨c, h1, fun j hj => ?_⟩
    rw [List.getElem?_set_ne, h2 j hj]
    rcases Nat.lt_or_gt_of_ne e with e | e
    · have : (q + 1) * S.size ≤ k * S.size := Nat.mul_le_mul_right _ e
      rw [Nat.add_mul, Nat.one_mul] at this
      omega
    · have : (k + 1) * S.size ≤ q * S.size := Nat.mul_le_mul_right _ e
      rw [Nat.add_mul, Nat.one_mul] at this
      omega
theorem RowX.cell {k j : Nat} {x : α} (h : RowX S w R m cs) (hx : m[k]? = some x) (hj : j < S.size) : ∃ c v, S.rd w R x c ∧ c[j]? = some v ∧ cs[k * S.size + j]? = some v := by
  obtain ⟨c, h1, h2⟩ := h.2 k x hx
  exact ⟨c, c[j]'(by rw [S.len h1]; exact hj), h1, List.getElem?_eq_getElem _, by rw [h2 j hj, List.getElem?_eq_getElem (by rw [S.len h1]; exact hj)]⟩
end
/-- a cell of a row is set -/
theorem own_setCell {w : World} {base size n g cap : Nat} {e : TypeId} {cs : List Value} (h : w.ownsRow base e size (.slice (some ⟨g, 0, none⟩) n cap) n cs) (i : Nat) (v : Value) : (w.setCell ⟨g, i, none⟩ v).ownsRow base e size (.slice (some ⟨g, 0, none⟩) n cap) n (cs.set i v) := by
  rcases h.2 with ⟨hv, _⟩ | ⟨g', cap', cur, hv, h1, h2, h3, h4, h5, h6⟩
  · cases hv
  · injection hv with e1 _ e3
    injection e1 with e1
    injection e1 with e1
    subst e1 e3
    refine ⟨by rw [List.length_set]; exact h.1, .inr ⟨g, cap, cur.setIfInBounds i v, rfl, h1, Blk.set_ h2 i v, h3, h4, by simpa using h5, ?_⟩⟩
    rw [← h6]
    simp only [Array.toList_setIfInBounds, List.take_set]
theorem own_far {w : World} {base size n : Nat} {e : TypeId} {u : Value} {cs : List Value} (h : w.ownsRow base e size u n cs) (p : Addr) (hp : u.ownBlock ≠ some p.block) (v : Value) : (w.setCell p v).ownsRow base e size u n cs :=
  own_keep h fun g hg => Below.heap_setCell w p v g fun e => hp (e ▸ hg)
end Go.Proofs.YtgiplahhalgbdaaGreat
