/-
  The package exact, plainly: what is found of more begins with what is found of less; each hit is an item's; its place; items in another order. No program in sight.
-/
import Derived.Test.YtclpmpikeadnpaaExaE
namespace Go.Proofs.Ytclpmpikeadnpaa
open Go.RowKit

/-- an item is that of a hit -/
def okI (q : List Int) (mask : Int) (g : Hit) (it : ItemP) : Bool := (it.1 == g.2 && (bits .and .u64 it.2.2 mask == mask)) && (distOf q it.2.1 == g.1)
theorem any_snoc {α : Type} {l : List α} {k : Nat} {x : α} {p : α → Bool} (h : l[k]? = some x) : (l.take (k + 1)).any p = ((l.take k).any p || p x) := by
  rw [take_snoc h, List.any_append]; simp
theorem hit_mem {q : List Int} {mask : Int} (hk : 0 ≤ mask ∧ mask ≤ 18446744073709551615) {l : List ItemP} {g : Hit} (h : g ∈ hitsM q mask l) : l.any (okI q mask g) = true := by
  unfold hitsM at h
  have h2 : g ∈ cntM q mask l := srt_mem.1 h
  unfold cntM at h2
  rw [List.mem_map] at h2
  obtain ⟨it, h3, rfl⟩ := h2
  rw [List.mem_filter] at h3
  rw [List.any_eq_true]
  refine ⟨it, h3.1, ?_⟩
  unfold okI
  rw [has_same hk, h3.2]
  simp
theorem hits_pw (q : List Int) (mask : Int) (l : List ItemP) : (hitsM q mask l).Pairwise fun a b => hitLt b a = false := srt_pw swoH _
theorem hits_rev (q : List Int) (mask : Int) (l : List ItemP) : hitsM q mask l.reverse = hitsM q mask l := by
  unfold hitsM cntM
  refine srt_congr swoH totH ?_
  rw [List.filter_reverse, List.map_reverse]
  exact List.reverse_perm _
section
variable {h : List Hit} (hp : h.Pairwise fun a b => hitLt b a = false)
include hp
theorem place_le {i : Nat} {g : Hit} (hg : h[i]? = some g) : placeM g h ≤ i := by
  obtain ⟨h1, h2⟩ := List.getElem?_eq_some_iff.1 hg
  unfold placeM
  have hd : (h.drop i).countP (fun x => hitLt x g) = 0 := by
    rw [List.countP_eq_zero]
    intro z hz
    rw [← List.take_append_drop i h, List.pairwise_append] at hp
    have hp2 := hp.2.1
    rw [List.drop_eq_getElem_cons h1, h2] at hz hp2
    rcases List.mem_cons.1 hz with rfl | hz
    · simp [swoH.irrefl]
    · have := (List.pairwise_cons.1 hp2).1 z hz
      simp [this]
  have ht : h.countP (fun x => hitLt x g) = (h.take i).countP (fun x => hitLt x g) + (h.drop i).countP (fun x => hitLt x g) := by
    rw [← List.countP_append, List.take_append_drop]
  have := List.countP_le_length (p := fun x => hitLt x g) (l := h.take i)
  rw [List.length_take] at this
  omega
theorem hits_step {i : Nat} {f g : Hit} (hf : h[i]? = some f) (hg : h[i + 1]? = some g) : hitLt g f = false := by
  obtain ⟨h1, h2⟩ := List.getElem?_eq_some_iff.1 hf
  obtain ⟨h3, h4⟩ := List.getElem?_eq_some_iff.1 hg
  have := List.pairwise_iff_getElem.1 hp i (i + 1) h1 h3 (by omega)
  rwa [h2, h4] at this
theorem near_long {i : Nat} {g : Hit} (hg : h[i]? = some g) : i + 1 ≤ (nearM g.1 h).length ∧ (nearM g.1 h).take (i + 1) = h.take (i + 1) := by
  obtain ⟨h1, h2⟩ := List.getElem?_eq_some_iff.1 hg
  have hall : ∀ x ∈ h.take (i + 1), decide (x.1 ≤ g.1) = true := by
    intro x hx
    rw [take_snoc hg, List.mem_append] at hx
    rcases hx with hx | hx
    · rw [← List.take_append_drop i h, List.pairwise_append] at hp
      have := hp.2.2 x hx g (by rw [List.drop_eq_getElem_cons h1, h2]; exact List.mem_cons_self)
      rw [not_hit] at this
      exact decide_eq_true (by omega)
    · rw [List.mem_singleton] at hx; subst hx; simp
  have e : nearM g.1 h = h.take (i + 1) ++ (h.drop (i + 1)).takeWhile (fun x => decide (x.1 ≤ g.1)) := by
    unfold nearM
    conv => lhs; rw [← List.take_append_drop (i + 1) h]
    rw [List.takeWhile_append_of_pos hall]
  have hl : (h.take (i + 1)).length = i + 1 := by rw [List.length_take]; omega
  rw [e]
  refine ⟨by rw [List.length_append]; omega, ?_⟩
  rw [List.take_append_of_le_length (by omega), List.take_take, Nat.min_self]
end
theorem lst_min_max (a b : Int) (n : Nat) : lstN (min a b) n ≤ lstN (max a b) n := by unfold lstN; omega
theorem lst_min (a b : Int) (n : Nat) : ¬ (max 0 (min a b) < (lstN (min a b) n : Int)) := by unfold lstN; omega
/-- cells that read as items -/
def RowI (w : World) (B : Nat) (m : List ItemP) (cs : List Value) : Prop := cs.length = m.length * 3 ∧ ∀ (k : Nat) (x : ItemP), m[k]? = some x → ∃ c, SItem.rd w (fun b => b < B) x c ∧ ∀ (j : Nat) (u : Value), c[j]? = some u → cs[k * 3 + j]? = some u
theorem RowI.nil (w : World) (B : Nat) : RowI w B [] [] := ⟨rfl, fun k x h => by simp at h⟩
theorem item_rd {w : World} {B : Nat} {x : ItemP} {V : Option Addr} {c : Nat} (h1 : x.2.1.length ≤ c) (h2 : c ≤ 9223372036854775807) (h3 : Rd (Sh.int .i32) w B V x.2.1) : SItem.rd w (fun b => b < B) x [.int .u64 x.1, .slice V x.2.1.length c, .int .u64 x.2.2] :=
  ⟨[.int .u64 x.1], [.slice V x.2.1.length c, .int .u64 x.2.2], rfl, rfl, [.slice V x.2.1.length c], [.int .u64 x.2.2], rfl, ⟨V, c, rfl, h1, h2, h3⟩, rfl⟩
theorem RowI.snoc {w : World} {B : Nat} {m : List ItemP} {cs c : List Value} {x : ItemP} (h : RowI w B m cs) (hr : SItem.rd w (fun b => b < B) x c) : RowI w B (m ++ [x]) (cs ++ c) := by
  have hc : c.length = 3 := SItem.len hr
  refine ⟨by rw [List.length_append, List.length_append, h.1, hc]; simp; omega, fun k y hy => ?_⟩
  by_cases hk : k < m.length
  · rw [List.getElem?_append_left hk] at hy
    obtain ⟨d, h1, h2⟩ := h.2 k y hy
    refine ⟨d, h1, fun j u hu => ?_⟩
    have := h2 j u hu
    rw [List.getElem?_append_left (List.getElem?_eq_some_iff.1 this).1]
    exact this
  · rw [List.getElem?_append_right (by omega)] at hy
    have h0 : k - m.length = 0 := by
      have := (List.getElem?_eq_some_iff.1 hy).1
      simp at this; omega
    rw [h0] at hy
    have : x = y := by simpa using hy
    subst this
    refine ⟨c, hr, fun j u hu => ?_⟩
    have e : k = m.length := by omega
    subst e
    rw [List.getElem?_append_right (by rw [h.1]; omega), h.1, show m.length * 3 + j - m.length * 3 = j by omega]
    exact hu
theorem RowI.rd {w w' : World} {B base : Nat} {e : TypeId} {m : List ItemP} {cs : List Value} {A : Option Addr} {n c : Nat} (h : RowI w B m cs) (hB : B ≤ w.heap.size) (hb : Below B w w') (ho : w'.ownsRow base e 3 (.slice A n c) n cs) : Rd SItem w' w'.heap.size A m := fun hne => by
  have hn : m.length = n := by have h1 := ho.1; have h2 := h.1; omega
  obtain ⟨g, cap, hv, hg, hlt⟩ := ho.form (by have := List.length_pos_iff.2 hne; omega)
  have hA : A = some ⟨g, 0, none⟩ := by injection hv
  subst hA
  refine ⟨⟨g, 0, none⟩, rfl, hlt, fun k x hx => ?_⟩
  obtain ⟨d, h1, h2⟩ := h.2 k x hx
  refine ⟨d, SItem.more (SItem.keep h1 fun p hp => hb.cell hp) fun b hb' => by have := hb.size; omega, fun j u hu => ?_⟩
  exact ho.cells (g := g) rfl _ _ (h2 j u hu)
theorem rev_at {l : List ItemP} {n j : Nat} (hn : l.length = n) (hj : j < n) : l.reverse[j]? = l[n - 1 - j]? := by
  rw [List.getElem?_reverse (by omega), hn]
end Go.Proofs.Ytclpmpikeadnpaa
