/-
  Rows of items that a call owns, as lists; items chosen by a list of truths. No condition.
-/
import Derived.Test.YtgiplahhalgbdaaGreatRaP
namespace Go.Proofs.YtgiplahhalgbdaaGreat
open Go.RowKit

/-- cells that read as items -/
def RowI (w : World) (B : Nat) (m : List ItemP) (cs : List Value) : Prop := cs.length = m.length * 3 ∧ ∀ (k : Nat) (x : ItemP), m[k]? = some x → ∃ c, SItem.rd w (fun b => b < B) x c ∧ ∀ (j : Nat) (u : Value), c[j]? = some u → cs[k * 3 + j]? = some u
theorem RowI.nil (w : World) (B : Nat) : RowI w B [] [] := ⟨rfl, fun k x h => by simp at h⟩
theorem item_rd {w : World} {B : Nat} {x : ItemP} {V : Option Addr} {c : Nat} (h1 : x.2.1.length ≤ c) (h2 : c ≤ 9223372036854775807) (h3 : Rd (Sh.int .i32) w B V x.2.1) : SItem.rd w (fun b => b < B) x [.int .u64 x.1, .slice V x.2.1.length c, .int .u64 x.2.2] :=
  ⟨[.int .u64 x.1], [.slice V x.2.1.length c, .int .u64 x.2.2], rfl, rfl, [.slice V x.2.1.length c], [.int .u64 x.2.2], rfl, ⟨V, c, rfl, h1, h2, h3⟩, rfl⟩
theorem RowI.snoc {w : World} {B : Nat} {m : List ItemP} {cs c : List Value} {x : ItemP} (h : RowI w B m cs) (hr : SItem.rd w (fun b => b < B) x c) : RowI w B (m ++ [x]) (cs ++ c) := by
  have hc : c.length = 3 := SItem.len hr
  refine ⟨by rw [List.length_append, List.length_append, h.1, hc]; simp; omega, fun k y hy => ?_⟩
  by_cases hk : k < m.length
  · rw [List.getElem?_append_left hk] at hy
    obtain ⟨d, h1, h2⟩ := h.2 k y hy
    refine ⟨d, h1, fun j u hu => ?_⟩
    have := h2 j u hu
    rw [List.getElem?_append_left (List.getElem?_eq_some_iff.1 this).1]
    exact this
  · rw [List.getElem?_append_right (by omega)] at hy
    have h0 : k - m.length = 0 := by
      have := (List.getElem?_eq_some_iff.1 hy).1
      simp at this; omega
    rw [h0] at hy
    have : x = y := by simpa using hy
    subst this
    refine ⟨c, hr, fun j u hu => ?_⟩
    have e : k = m.length := by omega
    subst e
    rw [List.getElem?_append_right (by rw [h.1]; omega), h.1, show m.length * 3 + j - m.length * 3 = j by omega]
    exact hu
theorem RowI.rd {w w' : World} {B base : Nat} {e : TypeId} {m : List ItemP} {cs : List Value} {A : Option Addr} {n c : Nat} (h : RowI w B m cs) (hB : B ≤ w.heap.size) (hb : Below B w w') (ho : w'.ownsRow base e 3 (.slice A n c) n cs) : Rd SItem w' w'.heap.size A m := fun hne => by
  have hn : m.length = n := by have h1 := ho.1; have h2 := h.1; omega
  obtain ⟨g, cap, hv, hg, hlt⟩ := ho.form (by have := List.length_pos_iff.2 hne; omega)
  have hA : A = some ⟨g, 0, none⟩ := by injection hv
  subst hA
  refine ⟨⟨g, 0, none⟩, rfl, hlt, fun k x hx => ?_⟩
  obtain ⟨d, h1, h2⟩ := h.2 k x hx
  refine ⟨d, SItem.more (SItem.keep h1 fun p hp => hb.cell hp) fun b hb' => by have := hb.size; omega, fun j u hu => ?_⟩
  exact ho.cells (g := g) rfl _ _ (h2 j u hu)
/-- the items that are chosen, of the first k -/
def selK (l : List ItemP) (s : List Bool) : Nat → List ItemP
  | 0 => []
  | k + 1 => selK l s k ++ if s[k]? = some true then (l[k]?).toList else []
theorem selK_sub (l : List ItemP) (s : List Bool) (k : Nat) : (selK l s k).Sublist (l.take k) := by
  induction k with
  | zero => simp [selK]
  | succ k ih =>
    rw [List.take_add_one]
    unfold selK
    refine ih.append ?_
    split
    · exact List.Sublist.refl _
    · exact List.nil_sublist _
theorem selK_yes {l : List ItemP} {s : List Bool} {k : Nat} {x : ItemP} (h : l[k]? = some x) (hs : s[k]? = some true) : selK l s (k + 1) = selK l s k ++ [x] := by
  show selK l s k ++ _ = _
  rw [if_pos hs, h]; rfl
theorem selK_no {l : List ItemP} {s : List Bool} {k : Nat} (hs : s[k]? ≠ some true) : selK l s (k + 1) = selK l s k := by
  show selK l s k ++ _ = _
  rw [if_neg hs, List.append_nil]
theorem selK_le (l : List ItemP) (s : List Bool) (k : Nat) : (selK l s k).length ≤ k := by
  have := (selK_sub l s k).length_le
  rw [List.length_take] at this; omega
theorem RdR.bcell {w : World} {R : Nat → Prop} {A : Option Addr} {k : Nat} {xs : List Bool} (h : RdR Sh.bool w R A xs) (hk : k < xs.length) : ∃ ad x, A = some ad ∧ R ad.block ∧ xs[k]? = some x ∧ w.cell? (ad.add k) = some (.bool x) := by
  obtain ⟨ad, x, cs, e, hb, hx, hr, hc⟩ := h.at_ hk
  have h1 : cs = [.bool x] := hr
  subst h1
  refine ⟨ad, x, e, hb, hx, ?_⟩
  simpa [Sh.bool] using hc 0 _ rfl
theorem wf_hits {q : List Int} {mask : Int} {l : List ItemP} (h : ∀ it ∈ l, 0 ≤ it.1 ∧ it.1 ≤ 18446744073709551615) (n : Nat) : ∀ g ∈ (hitsM q mask l).take n, wfH g := by
  intro g hg
  have h1 : g ∈ cntM q mask l := srt_mem.1 (List.mem_of_mem_take hg)
  unfold cntM at h1
  rw [List.mem_map] at h1
  obtain ⟨it, h2, rfl⟩ := h1
  exact ⟨distOf_le q it.2.1, h it (List.mem_filter.1 h2).1⟩
end Go.Proofs.YtgiplahhalgbdaaGreat
