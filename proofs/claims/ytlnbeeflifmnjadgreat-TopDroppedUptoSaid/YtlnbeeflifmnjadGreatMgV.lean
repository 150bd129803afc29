/-
  Texts of one part, put together. No condition.
-/
import Derived.Test.YtlnbeeflifmnjadGreatMgR
import Derived.Test.YtlnbeeflifmnjadGreatMgC
import Derived.Test.YtlnbeeflifmnjadGreatMgb
import Derived.Test.YtlnbeeflifmnjadGreatMgU
import Derived.Test.YtlnbeeflifmnjadGreatMgJ
/-
  A plane without one of its nodes, plainly: what the steps of Drop leave. No program in sight.
-/
namespace Go.Proofs.YtlnbeeflifmnjadGreat
set_option linter.unusedSimpArgs false
set_option linter.unusedVariables false

/-- alike, but for what the lists hold -/
def AlikeN (l l' : List NodeP) : Prop := l'.length = l.length ∧ ∀ (k : Nat) (x : NodeP), l[k]? = some x → ∃ y : NodeP, l'[k]? = some y ∧ y.1 = x.1 ∧ y.2.1 = x.2.1 ∧ y.2.2.1.length = x.2.2.1.length ∧ y.2.2.2 = x.2.2.2
theorem AlikeN.refl (l : List NodeP) : AlikeN l l := ⟨rfl, fun k x h => ⟨x, h, rfl, rfl, rfl, rfl⟩⟩
theorem AlikeN.trans {a b c : List NodeP} (h : AlikeN a b) (k : AlikeN b c) : AlikeN a c := ⟨k.1.trans h.1, fun i x hx => by
  obtain ⟨y, h1, h2, h3, h4, h5⟩ := h.2 i x hx
  obtain ⟨z, k1, k2, k3, k4, k5⟩ := k.2 i y h1
  exact ⟨z, k1, k2.trans h2, k3.trans h3, k4.trans h4, k5.trans h5⟩⟩
theorem AlikeN.next {a b : List NodeP} (h : AlikeN a b) {k : Nat} (hk : k < a.length) : nextF b k = nextF a k := by
  obtain ⟨x, hx⟩ : ∃ x, a[k]? = some x := ⟨_, List.getElem?_eq_getElem hk⟩
  obtain ⟨y, h1, _, _, _, h5⟩ := h.2 k x hx
  rw [nextF_at h1, nextF_at hx, h5]
theorem AlikeN.item {a b : List NodeP} (h : AlikeN a b) (k : Nat) : (b[k]?.map fun n => n.1) = (a[k]?.map fun n => n.1) := by
  rcases e : a[k]? with _ | x
  · have : a.length ≤ k := by
      rcases Nat.lt_or_ge k a.length with h' | h'
      · rw [List.getElem?_eq_getElem h'] at e; cases e
      · exact h'
    rw [List.getElem?_eq_none (by rw [h.1]; exact this)]
  · obtain ⟨y, h1, h2, _⟩ := h.2 k x e
    rw [h1]
    simp [h2]
/-- the node of nobody -/
def bareN : NodeP := ((0, [], 0), 0, [], -1, -1)
/-- the ring without a slot -/
def dropA (ns : List NodeP) (slot : Int) : List NodeP := setPv (setNx ns (prevF ns slot).toNat (nextF ns slot)) (nextF ns slot).toNat (prevF ns slot)
theorem setNx_at {l : List NodeP} {k j : Nat} {z : Int} {x : NodeP} (h : l[j]? = some x) : ∃ y : NodeP, (setNx l k z)[j]? = some y ∧ y.1 = x.1 ∧ y.2.1 = x.2.1 ∧ y.2.2.1 = x.2.2.1 ∧ y.2.2.2.1 = (if j = k then z else x.2.2.2.1) ∧ y.2.2.2.2 = x.2.2.2.2 := by
  unfold setNx
  split
  · rename_i x0 hx0
    by_cases e : j = k
    · subst e
      rw [h] at hx0
      injection hx0 with hx0
      subst hx0
      exact ⟨_, List.getElem?_set_self (List.getElem?_eq_some_iff.1 h).1, rfl, rfl, rfl, by rw [if_pos rfl], rfl⟩
    · exact ⟨x, by rw [List.getElem?_set_ne (fun h => e h.symm)]; exact h, rfl, rfl, rfl, by rw [if_neg e], rfl⟩
  · rename_i h0
    have e : j ≠ k := fun e => by rw [← e, h] at h0; cases h0
    exact ⟨x, h, rfl, rfl, rfl, by rw [if_neg e], rfl⟩
theorem setPv_at {l : List NodeP} {k j : Nat} {z : Int} {x : NodeP} (h : l[j]? = some x) : ∃ y : NodeP, (setPv l k z)[j]? = some y ∧ y.1 = x.1 ∧ y.2.1 = x.2.1 ∧ y.2.2.1 = x.2.2.1 ∧ y.2.2.2.1 = x.2.2.2.1 ∧ y.2.2.2.2 = (if j = k then z else x.2.2.2.2) := by
  unfold setPv
  split
  · rename_i x0 hx0
    by_cases e : j = k
    · subst e
      rw [h] at hx0
      injection hx0 with hx0
      subst hx0
      exact ⟨_, List.getElem?_set_self (List.getElem?_eq_some_iff.1 h).1, rfl, rfl, rfl, rfl, by rw [if_pos rfl]⟩
    · exact ⟨x, by rw [List.getElem?_set_ne (fun h => e h.symm)]; exact h, rfl, rfl, rfl, rfl, by rw [if_neg e]⟩
  · rename_i h0
    have e : j ≠ k := fun e => by rw [← e, h] at h0; cases h0
    exact ⟨x, h, rfl, rfl, rfl, rfl, by rw [if_neg e]⟩
theorem dropA_len (ns : List NodeP) (slot : Int) : (dropA ns slot).length = ns.length := by unfold dropA; rw [setPv_len, setNx_len]
theorem dropA_at {ns : List NodeP} {slot : Int} (hp : 0 ≤ prevF ns slot) {k : Nat} {x : NodeP} (h : ns[k]? = some x) : ∃ y : NodeP, (dropA ns slot)[k]? = some y ∧ y.1 = x.1 ∧ y.2.1 = x.2.1 ∧ y.2.2.1 = x.2.2.1 ∧ y.2.2.2.1 = (if (k : Int) = prevF ns slot then nextF ns slot else x.2.2.2.1) := by
  obtain ⟨y, h1, h2, h3, h4, h5, _⟩ := setNx_at (k := (prevF ns slot).toNat) (z := nextF ns slot) h
  obtain ⟨z, k1, k2, k3, k4, k5, _⟩ := setPv_at (k := (nextF ns slot).toNat) (z := prevF ns slot) h1
  refine ⟨z, k1, k2.trans h2, k3.trans h3, k4.trans h4, ?_⟩
  rw [k5, h5]
  by_cases e : (k : Int) = prevF ns slot
  · rw [if_pos e, if_pos (by omega)]
  · rw [if_neg e, if_neg (by omega)]
/-- what the steps of Drop leave is a plane without the slot -/
theorem dropP_of {ns l : List NodeP} {en top links slot : Int} (hc : CheckP ns en top links) (hs : thereF ns slot = true) (ha : AlikeN (dropA ns slot) l) : DropP ns slot (l.set slot.toNat bareN) := by
  obtain ⟨h1, h2⟩ := there_lt hs
  obtain ⟨p1, p2, p3⟩ := ring_at hc.rg hc.pos (place_iff.2 (.inr hs))
  have q2 := placeF_lt p2 hc.pos
  have hl : l.length = ns.length := ha.1.trans (dropA_len ns slot)
  refine ⟨by rw [List.length_set, hl], fun k hk => ?_, fun k hk hne => ?_, ?_⟩
  · rw [List.getElem?_set_ne (by omega), ha.item k]
    rcases e : ns[k]? with _ | x
    · have : ns.length ≤ k := by
        rcases Nat.lt_or_ge k ns.length with h' | h'
        · rw [List.getElem?_eq_getElem h'] at e; cases e
        · exact h'
      rw [List.getElem?_eq_none (by rw [dropA_len]; exact this)]
    · obtain ⟨y, k1, k2, _⟩ := dropA_at (slot := slot) q2.1 e
      rw [k1]
      simp [k2]
  · have e1 : nextF (l.set slot.toNat bareN) k = nextF l k := by
      unfold nextF nodeF
      rw [show ((k : Int)).toNat = k by omega, List.getElem?_set_ne (by omega)]
    rw [e1, ha.next (by rw [dropA_len]; exact hk)]
    obtain ⟨x, hx⟩ : ∃ x, ns[k]? = some x := ⟨_, List.getElem?_eq_getElem hk⟩
    obtain ⟨y, k1, _, _, _, k5⟩ := dropA_at (slot := slot) q2.1 hx
    rw [nextF_at k1, nextF_at hx, k5]
  · unfold nextF nodeF
    rw [List.getElem?_set_self (by omega)]
    rfl
end Go.Proofs.YtlnbeeflifmnjadGreat

/-
  A plane of the call's own memory of which one of a node's lists is changed. No condition.
-/
namespace Go.Proofs.YtlnbeeflifmnjadGreat
set_option linter.unusedSimpArgs false
set_option linter.unusedVariables false
open Go.RowKit

section
variable {W : World} {R : Nat → Prop} {p : Addr} {v : Value}
/-- whole numbers lie as they lay where a slice is stored over a slice -/
theorem ints_slice {kd : IntKind} {A : Option Addr} {l : List Int} {o1 : Option Addr} {o2 o3 : Nat} (h : RdR (Sh.int kd) W R A l) (hp : W.cell? p = some (.slice o1 o2 o3)) : RdR (Sh.int kd) (W.setCell p v) R A l := fun hn => by
  obtain ⟨ad, e, hb, hc⟩ := h hn
  refine ⟨ad, e, hb, fun k x hx => ?_⟩
  obtain ⟨cs, h1, h2⟩ := hc k x hx
  refine ⟨cs, h1, fun j u hu => ?_⟩
  have hu1 : cs = [.int kd x] := h1
  have h3 := h2 j u hu
  rw [World.cell?_setCell_other _ _ _ _ (fun e => ?_)]
  · exact h3
  · subst hu1
    have hj : j = 0 := by
      rcases j with _ | j
      · rfl
      · simp at hu
    subst hj
    simp at hu
    subst hu
    first
      | (rw [← e] at h3; rw [hp] at h3; injection h3 with h3; cases h3)
      | (rw [e] at h3; rw [hp] at h3; injection h3 with h3; cases h3)
/-- lists of lists: one of them may be another one now -/
theorem lists_slice {L : Option Addr} {ls : List (List Int)} {o1 : Option Addr} {o2 o3 : Nat} (h : RdR (Sh.list (Sh.int .i64)) W R L ls) (hp : W.cell? p = some (.slice o1 o2 o3)) {A : Option Addr} {li : List Int} {c : Nat} (h1 : li.length ≤ c) (h2 : c ≤ 9223372036854775807) (hr : RdR (Sh.int .i64) W R A li) :
    ∃ ls' : List (List Int), ls'.length = ls.length ∧ (∀ m ∈ ls', m ∈ ls ∨ m = li) ∧ ((∀ a, L = some a → a.block ≠ p.block) → ls' = ls) ∧ RdR (Sh.list (Sh.int .i64)) (W.setCell p (.slice A li.length c)) R L ls' := by
  rcases Nat.eq_zero_or_pos ls.length with h0 | h0
  · have e : ls = [] := List.eq_nil_of_length_eq_zero h0
    subst e
    exact ⟨[], rfl, by simp, fun _ => rfl, RdR.nil⟩
  obtain ⟨ad, rfl, hb, hc⟩ := h (fun e => by rw [e] at h0; simp at h0)
  have hs : (Sh.list (Sh.int .i64)).size = 1 := rfl
  by_cases hblk : ad.block = p.block
  · obtain ⟨ls', hl, hp'⟩ := list_choose (p := fun i (m : List Int) => (m ∈ ls ∨ m = li) ∧ ∃ cs, (Sh.list (Sh.int .i64)).rd (W.setCell p (.slice A li.length c)) R m cs ∧ ∀ (j : Nat) (u : Value), cs[j]? = some u → (W.setCell p (.slice A li.length c)).cell? (ad.add (i * 1 + j)) = some u) ls.length (fun i hi => by
      obtain ⟨x, hx⟩ : ∃ x, ls[i]? = some x := ⟨_, List.getElem?_eq_getElem hi⟩
      obtain ⟨cs, k1, k2⟩ := hc i x hx
      obtain ⟨L1, c1, rfl, m1, m2, m3⟩ := list_cells k1
      have k3 := k2 0 _ rfl
      rw [hs] at k3
      by_cases e : ad.add (i * 1 + 0) = p
      · refine ⟨li, .inr rfl, [.slice A li.length c], ⟨A, c, rfl, h1, h2, ints_slice hr hp⟩, fun j u hu => ?_⟩
        rcases j with _ | j
        · simp at hu
          subst hu
          rw [e]
          exact World.cell?_setCell_same' _ _ _ (by rw [hp]; rfl)
        · simp at hu
      · refine ⟨x, .inl (List.mem_of_getElem? hx), [.slice L1 x.length c1], ⟨L1, c1, rfl, m1, m2, ints_slice m3 hp⟩, fun j u hu => ?_⟩
        rcases j with _ | j
        · simp at hu
          subst hu
          rw [World.cell?_setCell_other _ _ _ _ (fun e2 => e (by first | exact e2 | exact e2.symm))]
          exact k3
        · simp at hu)
    refine ⟨ls', hl, fun m hm => ?_, fun hne => absurd hblk (hne ad rfl), fun _ => ⟨ad, rfl, hb, fun k x hx => (hp' k x hx).2⟩⟩
    obtain ⟨i, hi⟩ := List.getElem?_of_mem hm
    exact (hp' i m hi).1
  · refine ⟨ls, rfl, fun m hm => .inl hm, fun _ => rfl, fun _ => ⟨ad, rfl, hb, fun k x hx => ?_⟩⟩
    obtain ⟨cs, k1, k2⟩ := hc k x hx
    obtain ⟨L1, c1, rfl, m1, m2, m3⟩ := list_cells k1
    refine ⟨_, ⟨L1, c1, rfl, m1, m2, ints_slice m3 hp⟩, fun j u hu => ?_⟩
    rw [World.cell?_setCell_other _ _ _ _ (fun e => hblk (by have := block_of_add ad (k * (Sh.list (Sh.int .i64)).size + j); first | (rw [e] at this; exact this.symm) | (rw [← e] at this; exact this.symm)))]
    exact k2 j u hu
end
section
variable {w W W' : World} {b4 n c g : Nat} {v4 va : Value} {en top : Int} {bx bx' : List (Nat × TypeId × Array Value)} {l : List NodeP}
/-- one of a node's lists is another one -/
theorem PE.inner (h : PE w b4 v4 en top bx (.slice (some ⟨g, 0, none⟩) n c) n l W) {p : Addr} {o1 : Option Addr} {o2 o3 : Nat} (hp : W.cell? p = some (.slice o1 o2 o3)) (hw : w.heap.size ≤ p.block) (hf : FrE W (.slice (some ⟨g, 0, none⟩) n c) b4 bx p.block) {A : Option Addr} {li : List Int} {cl : Nat} (h1 : li.length ≤ cl) (h2 : cl ≤ 9223372036854775807)
    (hr : RdR (Sh.int .i64) W (FrE W (.slice (some ⟨g, 0, none⟩) n c) b4 bx) A li) :
    ∃ l' : List NodeP, PE w b4 v4 en top bx (.slice (some ⟨g, 0, none⟩) n c) n l' (W.setCell p (.slice A li.length cl)) ∧ AlikeN l l' ∧ (∀ (j : Nat) (y : NodeP), l'[j]? = some y → ∃ x, l[j]? = some x ∧ ∀ m ∈ y.2.2.1, m ∈ x.2.2.1 ∨ m = li) ∧
      ∀ (j : Nat) (x : NodeP) (L : Option Addr) (n1 c1 : Nat), l[j]? = some x → W.cell? ⟨g, j * 7 + 4, none⟩ = some (.slice L n1 c1) → (∀ a, L = some a → a.block ≠ p.block) → l'[j]? = some x := by
  obtain ⟨cs, k1, k2⟩ := h.own
  have hsz : SNode.size = 7 := rfl
  obtain ⟨l', hl, hq⟩ := list_choose (p := fun i (y : NodeP) => ∃ x, l[i]? = some x ∧ y.1 = x.1 ∧ y.2.1 = x.2.1 ∧ y.2.2.1.length = x.2.2.1.length ∧ y.2.2.2 = x.2.2.2 ∧ (∀ m ∈ y.2.2.1, m ∈ x.2.2.1 ∨ m = li) ∧
      (∀ (L : Option Addr) (n1 c1 : Nat), W.cell? ⟨g, i * 7 + 4, none⟩ = some (.slice L n1 c1) → (∀ a, L = some a → a.block ≠ p.block) → y = x) ∧ ∃ cc, SNode.rd (W.setCell p (.slice A li.length cl)) (FrE W (.slice (some ⟨g, 0, none⟩) n c) b4 bx) y cc ∧ ∀ j, j < 7 → cs[i * 7 + j]? = cc[j]?) l.length (fun i hi => by
    obtain ⟨x, hx⟩ : ∃ x, l[i]? = some x := ⟨_, List.getElem?_eq_getElem hi⟩
    obtain ⟨cc, m1, m2⟩ := k2.2 i x hx
    rw [hsz] at m2
    obtain ⟨V, cV, L, cL, rfl, v1, v2, v3, l1, l2, l3⟩ := node_cells m1
    obtain ⟨ls', a1, a2, a3, a4⟩ := lists_slice l3 hp h1 h2 hr
    have q4 : W.cell? ⟨g, i * 7 + 4, none⟩ = some (.slice L x.2.2.1.length cL) := by
      have := k1.cells (g := g) rfl _ _ (m2 4 (by decide))
      rw [add_mk, Nat.zero_add] at this; exact this
    refine ⟨(x.1, x.2.1, ls', x.2.2.2), x, hx, rfl, rfl, a1, rfl, a2, fun L1 n1 c1 q5 hne => ?_, _, ?_, m2⟩
    · rw [q4] at q5
      injection q5 with q5
      injection q5 with q5 _ _
      rw [a3 (by rw [q5]; exact hne)]
    · have := node_of (w := W.setCell p (.slice A li.length cl)) (R := FrE W (.slice (some ⟨g, 0, none⟩) n c) b4 bx) (x.1, x.2.1, ls', x.2.2.2) v1 v2 (ints_slice v3 hp) (L := L) (cL := cL) (by simp only; omega) l2 a4
      simp only at this
      rw [a1] at this
      exact this)
  have hlen : l'.length = l.length := hl
  refine ⟨l', ⟨h.bel.setCell hw _, Blk.far h.p (fun e => hf.2.2.1 e.symm) _, ⟨cs, own_far k1 _ hf.2.1 _, ⟨by rw [hlen]; exact k2.1, fun k y hy => ?_⟩⟩, h.hb4, fun q hq => ?_⟩, ⟨hlen, fun k x hx => ?_⟩, fun j y hy => ?_, fun j x L n1 c1 hx q4 hne => ?_⟩
  · obtain ⟨x, _, _, _, _, _, _, _, cc, r1, r2⟩ := hq k y hy
    exact ⟨cc, (show SNode.rd _ _ y cc from Sh.more SNode r1 fun d hd => hd.set), r2⟩
  · have := h.bx q hq
    exact ⟨Blk.far this.1 (fun e => hf.2.2.2 q hq e.symm) _, this.2⟩
  · obtain ⟨y, hy⟩ : ∃ y, l'[k]? = some y := ⟨_, List.getElem?_eq_getElem (by rw [hlen]; exact (List.getElem?_eq_some_iff.1 hx).1)⟩
    obtain ⟨x', r1, r2, r3, r4, r5, _⟩ := hq k y hy
    rw [hx] at r1
    injection r1 with r1
    subst r1
    exact ⟨y, hy, r2, r3, r4, r5⟩
  · obtain ⟨x, r1, _, _, _, _, r6, _⟩ := hq j y hy
    exact ⟨x, r1, r6⟩
  · obtain ⟨y, hy⟩ : ∃ y, l'[j]? = some y := ⟨_, List.getElem?_eq_getElem (by rw [hlen]; exact (List.getElem?_eq_some_iff.1 hx).1)⟩
    obtain ⟨x', r1, _, _, _, _, _, r7, _⟩ := hq j y hy
    rw [hx] at r1
    injection r1 with r1
    subst r1
    rw [hy, r7 L n1 c1 q4 hne]
end
end Go.Proofs.YtlnbeeflifmnjadGreat

/-
  The package plane: Drop of a slot that is there. Conditions: the plane is right, the slice of nodes reads as a list, its numbers are small.
-/
namespace Go.Proofs.YtlnbeeflifmnjadGreat
set_option linter.unusedSimpArgs false
set_option linter.unusedVariables false
open Go.RowKit

/-- a node that may be -/
def OkD (y : NodeP) : Prop := OkN y ∧ SmN y ∧ (Lit.int .u64 y.1.1).wf = true
/-- what Drop gives -/
def GivesDr (ns : List NodeP) (slot : Int) (nn : Nat) (w : World) (e : Ending) (w' : World) : Prop :=
  ∃ (A : Option Addr) (c : Nat) (en' top' : Int) (ns' : List NodeP), e = .returned (.tuple #[.agg #[.slice A nn c, .int .i64 en', .int .i64 top'], .bool true]) ∧ OwnR w (fun _ => False) A nn c ns' w' ∧ DropP ns slot ns' ∧ ∀ y ∈ ns', OkD y
/-- Drop's variables -/
structure DsB (w : World) (b3 : Nat) (cs : Array Value) (b6 : Nat) (W : World) : Prop where
  p : PlB w b3 cs W
  r : Blk W b6 24 #[.slice none 0 0, .int .i64 0, .int .i64 0]
  h3 : w.heap.size ≤ b3
  h6 : w.heap.size ≤ b6
  n36 : b3 ≠ b6
theorem DsB.step {w W W' : World} {b3 b6 : Nat} {cs : Array Value} (h : DsB w b3 cs b6 W) (hb : Below W.heap.size W W') : DsB w b3 cs b6 W' := ⟨h.p.step hb, h.r.below hb h.r.lt, h.h3, h.h6, h.n36⟩
theorem DsB.start (w : World) (cs : Array Value) : DsB w w.heap.size cs (w.heap.size + 1) ((w.alloc (.cells cs 24)).alloc (.cells #[.slice none 0 0, .int .i64 0, .int .i64 0] 24)) := by
  have hb1 := below1 w (.cells cs 24)
  have hb2 := below1 (w.alloc (.cells cs 24)) (.cells #[.slice none 0 0, .int .i64 0, .int .i64 0] 24)
  refine ⟨⟨Below.step hb1 hb2, (Blk.new w _ _).alloc _⟩, ?_, by omega, by omega, by omega⟩
  have h := Blk.new (w.alloc (.cells cs 24)) 24 #[.slice none 0 0, .int .i64 0, .int .i64 0]
  simpa using h
/-- whatever the nodes are -/
def PA (w : World) (b4 : Nat) (v4 : Value) (en top : Int) (bx : List (Nat × TypeId × Array Value)) (va : Value) (n : Nat) (W : World) : Prop := ∃ l, PE w b4 v4 en top bx va n l W
section
variable {w W W' : World} {b4 n c g : Nat} {v4 va : Value} {en top : Int} {bx : List (Nat × TypeId × Array Value)}
theorem PA.step (h : PA w b4 v4 en top bx va n W) (hb : Below W.heap.size W W') : PA w b4 v4 en top bx va n W' := by obtain ⟨l, h⟩ := h; exact ⟨l, h.step hb⟩
theorem PA.cells (h : PA w b4 v4 en top bx va n W) : W.cell? ⟨b4, 0, none⟩ = some v4 ∧ W.cell? ⟨b4, 1, none⟩ = some (.int .i64 en) ∧ W.cell? ⟨b4, 2, none⟩ = some (.int .i64 top) := by obtain ⟨l, h⟩ := h; exact h.cells
theorem PA.blk (h : PA w b4 v4 en top bx va n W) {g : Nat} {t : TypeId} {xs : Array Value} (hg : (g, t, xs) ∈ bx) : Blk W g t xs := by obtain ⟨l, h⟩ := h; exact h.blk hg
theorem HdW.other {B H k : Nat} {A : Option Addr} (h : HdW B W A H k) (p : Addr) (hp : ∀ ga, A = some ga → ga.block ≠ p.block) (v : Value) : HdW B (W.setCell p v) A H k :=
  h.cells (fun ga j e => World.cell?_setCell_other _ _ _ _ (fun e2 => hp ga e (by have := block_of_add ga (j * 7 + 4); first | (rw [e2] at this; exact this.symm) | (rw [← e2] at this; exact this.symm)))) fun p _ hf => by rw [World.frozen?_setCell]; exact hf
theorem HdW.setO {B H k : Nat} (h : HdW B W (some ⟨g, 0, none⟩) H k) {i : Nat} (hi : i % 7 ≠ 4) (v : Value) : HdW B (W.setCell ⟨g, i, none⟩ v) (some ⟨g, 0, none⟩) H k :=
  h.cells (fun ga j e => by
    injection e with e
    subst e
    exact World.cell?_setCell_other _ _ _ _ (fun e => by rw [add_mk] at e; injection e with _ e _; omega)) fun p _ hf => by rw [World.frozen?_setCell]; exact hf
end
/-- while the neighbours are told: ns0 the nodes at first, the m-th is xm still -/
structure DrW (w : World) (b3 : Nat) (en top : Int) (bx : List (Nat × TypeId × Array Value)) (g n c B : Nat) (ns0 : List NodeP) (m : Nat) (xm : NodeP) (L : Option Addr) (cL : Nat) (l : List NodeP) (W : World) : Prop where
  pe : PE w b3 (.slice (some ⟨g, 0, none⟩) n c) en top bx (.slice (some ⟨g, 0, none⟩) n c) n l W
  hd : HdW B W (some ⟨g, 0, none⟩) W.heap.size n
  hB : w.heap.size ≤ B
  al : AlikeN ns0 l
  xa : l[m]? = some xm
  cm : W.cell? ⟨g, m * 7 + 4, none⟩ = some (.slice L xm.2.2.1.length cL)
  ok : ∀ y ∈ l, OkD y
section
variable {w W W' : World} {b3 g n c B m cL : Nat} {en top : Int} {bx : List (Nat × TypeId × Array Value)} {ns0 l : List NodeP} {xm : NodeP} {L : Option Addr}
theorem DrW.lg (h : DrW w b3 en top bx g n c B ns0 m xm L cL l W) : g < W.heap.size := by
  obtain ⟨cs, h1, _⟩ := h.pe.own
  exact (h1.lt g rfl).2
theorem DrW.step (h : DrW w b3 en top bx g n c B ns0 m xm L cL l W) (hb : Below W.heap.size W W') : DrW w b3 en top bx g n c B ns0 m xm L cL l W' :=
  ⟨h.pe.step hb, (h.hd.keep (H' := W.heap.size) (fun ga e => by injection e with e; subst e; exact h.lg) hb.block).raise hb.size, h.hB, h.al, h.xa, (hb.cell (p := ⟨g, m * 7 + 4, none⟩) h.lg).trans h.cm, h.ok⟩
/-- the lists of the m-th -/
theorem DrW.lists (h : DrW w b3 en top bx g n c B ns0 m xm L cL l W) : RdR (Sh.list (Sh.int .i64)) W (FrE W (.slice (some ⟨g, 0, none⟩) n c) b3 bx) L xm.2.2.1 := by
  obtain ⟨V, cV, L2, cL2, _, _, _, _, _, hl, _, _, _, _, h4, _, _⟩ := h.pe.node h.xa
  rw [h.cm] at h4
  injection h4 with h4
  injection h4 with h4 _ _
  subst h4
  exact hl
/-- one of another node's lists is another one -/
theorem DrW.inner (h : DrW w b3 en top bx g n c B ns0 m xm L cL l W) {k j : Nat} {y0 : NodeP} (hk : l[k]? = some y0) (hkm : k ≠ m) {aL : Addr} {nL cL2 : Nat} (h4 : W.cell? ⟨g, k * 7 + 4, none⟩ = some (.slice (some aL) nL cL2)) (hf : FrE W (.slice (some ⟨g, 0, none⟩) n c) b3 bx aL.block)
    {o1 : Option Addr} {o2 o3 : Nat} (hp : W.cell? (aL.add j) = some (.slice o1 o2 o3)) {A : Option Addr} {li : List Int} {cl : Nat} (h1 : li.length ≤ cl) (h2 : cl ≤ 9223372036854775807) (hr : RdR (Sh.int .i64) W (FrE W (.slice (some ⟨g, 0, none⟩) n c) b3 bx) A li) (hli : (∀ y ∈ li, (Lit.int .i64 y).wf = true) ∧ li.length ≤ 1048576) :
    ∃ l', DrW w b3 en top bx g n c B ns0 m xm L cL l' (W.setCell (aL.add j) (.slice A li.length cl)) := by
  have hkn : k < n := by rw [← h.pe.len]; exact (List.getElem?_eq_some_iff.1 hk).1
  have hmn : m < n := by rw [← h.pe.len]; exact (List.getElem?_eq_some_iff.1 h.xa).1
  have ha : (aL.add j).block = aL.block := block_of_add _ _
  have hd := h.hd _ rfl
  have e4 : ∀ i, (⟨g, 0, none⟩ : Addr).add (i * 7 + 4) = ⟨g, i * 7 + 4, none⟩ := fun i => by rw [add_mk, Nat.zero_add]
  have hw := (hd.1 k aL nL cL2 hkn (by rw [e4]; exact h4)).1
  have hga : g ≠ aL.block := fun e => hf.2.1 (by rw [← e]; rfl)
  obtain ⟨l', p1, p2, p3, p4⟩ := h.pe.inner hp (by rw [ha]; exact Nat.le_trans h.hB hw) (by rw [ha]; exact hf) h1 h2 hr
  have hx := p4 m xm L _ _ h.xa h.cm (fun a e => by
    subst e
    rw [ha]
    rcases Nat.lt_or_gt_of_ne hkm with q | q
    · have := hd.2 k m aL a _ _ _ _ q hmn (by rw [e4]; exact h4) (by rw [e4]; exact h.cm); omega
    · have := hd.2 m k a aL _ _ _ _ q hkn (by rw [e4]; exact h.cm) (by rw [e4]; exact h4); omega)
  refine ⟨l', p1, ?_, h.hB, h.al.trans p2, hx, ?_, fun y hy => ?_⟩
  · have := h.hd.other (aL.add j) (fun ga e => by injection e with e; subst e; rw [ha]; exact hga) (.slice A li.length cl)
    exact this.raise (by simp)
  · rw [World.cell?_setCell_other _ _ _ _ (fun e => hga (by first | (rw [← ha, ← e]) | (rw [← ha, e])))]
    exact h.cm
  · obtain ⟨i, hi⟩ := List.getElem?_of_mem hy
    obtain ⟨x, hx1, hx2⟩ := p3 i y hi
    obtain ⟨y2, q1, q2, q3, q4, q5⟩ := p2.2 i x hx1
    rw [hi] at q1
    injection q1 with q1
    subst q1
    obtain ⟨⟨o1, o2, o3, o4⟩, ⟨s1, s2, s3⟩, id⟩ := h.ok x (List.mem_of_getElem? hx1)
    refine ⟨⟨by rw [q2]; exact o1, fun t ht => ?_, by rw [q5]; exact o3, by rw [q5]; exact o4⟩, ⟨by rw [q4]; exact s1, by rw [q2]; exact s2, fun t ht => ?_⟩, by rw [q2]; exact id⟩
    · rcases hx2 t ht with k | k
      · exact o2 t k
      · rw [k]; exact hli.1
    · rcases hx2 t ht with k | k
      · exact s3 t k
      · rw [k]; exact hli.2
end
theorem dropA_ok {ns : List NodeP} {slot : Int} (h : ∀ y ∈ ns, OkD y) (h1 : (Lit.int .i64 (nextF ns slot)).wf = true) (h2 : (Lit.int .i64 (prevF ns slot)).wf = true) : ∀ y ∈ dropA ns slot, OkD y := by
  have key : ∀ {l : List NodeP} (k : Nat) (x : NodeP), (∀ y ∈ l, OkD y) → OkD x → ∀ y ∈ l.set k x, OkD y := fun k x hl hx y hy => by
    rcases List.mem_or_eq_of_mem_set hy with k | k
    · exact hl y k
    · rw [k]; exact hx
  have hA : ∀ y ∈ setNx ns (prevF ns slot).toNat (nextF ns slot), OkD y := by
    unfold setNx
    split
    · rename_i x hx
      obtain ⟨⟨a, b, c, d⟩, s, i⟩ := h x (List.mem_of_getElem? hx)
      exact key _ _ h ⟨⟨a, b, h1, d⟩, s, i⟩
    · exact h
  unfold dropA setPv
  split
  · rename_i x hx
    obtain ⟨⟨a, b, c, d⟩, s, i⟩ := hA x (List.mem_of_getElem? hx)
    exact key _ _ hA ⟨⟨a, b, c, h2⟩, s, i⟩
  · exact hA
theorem bare_ok : OkD bareN := ⟨⟨by intro y hy; simp [bareN] at hy, by intro l hl; simp [bareN] at hl, by decide, by decide⟩, ⟨by decide, by decide, by intro l hl; simp [bareN] at hl⟩, by decide⟩
section
variable {w : World} {N : Option Addr} {nn cN : Nat} {ns : List NodeP} {en top : Int}
set_option maxHeartbeats 16000000 in
set_option maxRecDepth 100000 in
theorem drop_any (hp : PlN w N nn ns) {links slot : Int} (hc : CheckP ns en top links) (hs : thereF ns slot = true) : Calls Tryz.prog 8 #[.agg #[.slice N nn cN, .int .i64 en, .int .i64 top], .int .i64 slot, .int .i64 links] w (GivesDr ns slot nn w) := by
  have h20 := hp.n20
  have HP := hide hp
  have Hl := hide hp.len
  have HC := hide hc
  have HT := hide hs
  have hrg := there_lt hs
  obtain ⟨m, rfl⟩ : ∃ m : Nat, slot = m := ⟨slot.toNat, by omega⟩
  have hm1 : m < nn := by have := hp.len; omega
  have m00 : (0 : Int) ≤ m := by omega
  have m01 : (m : Int) < nn := by omega
  obtain ⟨xm, hxm⟩ : ∃ x, ns[m]? = some x := ⟨_, List.getElem?_eq_getElem (by have := hp.len; omega)⟩
  have HXm := hide hxm
  obtain ⟨r1, r2, r3⟩ := ring_at hc.rg hc.pos (place_iff.2 (.inr hs))
  have r1 := placeF_lt r1 hc.pos
  have r2 := placeF_lt r2 hc.pos
  rw [nextF_at hxm] at r1
  rw [prevF_at hxm] at r2
  obtain ⟨q, hq⟩ : ∃ q : Nat, xm.2.2.2.1 = q := ⟨_, (Int.toNat_of_nonneg r1.1).symm⟩
  obtain ⟨p, hpp⟩ : ∃ p : Nat, xm.2.2.2.2 = p := ⟨_, (Int.toNat_of_nonneg r2.1).symm⟩
  have Hq := hide hq
  have Hpp := hide hpp
  have hq1 : q < nn := by have := hp.len; omega
  have hp1 : p < nn := by have := hp.len; omega
  have HDA := hide (show dropA ns (m : Int) = setPv (setNx ns p q) q p from by unfold dropA; rw [nextF_at hxm, prevF_at hxm, hq, hpp]; simp)
  have HND := hide (hc.nd m (live_mem.2 hs))
  have HOk0 := hide (show ∀ y ∈ ns, OkD y from fun y hy => ⟨hp.ok y hy, hp.sm y hy, hp.idw y hy⟩)
  have HOkA := hide (dropA_ok (slot := (m : Int)) HOk0.out (by rw [nextF_at hxm]; exact (hp.ok _ (List.mem_of_getElem? hxm)).n) (by rw [prevF_at hxm]; exact (hp.ok _ (List.mem_of_getElem? hxm)).p))
  have HS := hide (DsB.start w #[.slice N nn cN, .int .i64 en, .int .i64 top])
  clear hp hc hs hrg hxm r1 r2 r3 hq hpp
  go_enter Tryz.func8, Tryz.ntmps8
  go_upto_region 1 with fail
  generalize World.alloc (World.alloc w _) _ = w1 at *
  obtain ⟨b3, hb3⟩ : ∃ b, w.heap.size = b := ⟨_, rfl⟩
  rw [hb3] at HS
  rw [hb3]
  have Hb3 := hide hb3
  clear hb3
  obtain ⟨b6, hb6⟩ : ∃ b, b3 + 1 = b := ⟨_, rfl⟩
  rw [hb6] at HS
  rw [hb6]
  clear hb6
  obtain ⟨p0, p1, p2⟩ := HS.out.p.cells
  go_upto_region 2 with (first
    | (go_at_call 6; refine (check_any (cN := cN) (en := en) (top := top) (HP.out.at_ HS.out.p.bel) links).mono ?_; rintro e w3 ⟨⟨r, rfl, hr, _⟩, hb⟩; obtain rfl : r = 0 := hr.2 HC.out; have HS3 := hide (HS.out.step hb); obtain ⟨p0, p1, p2⟩ := HS3.out.p.cells; clear hb hr HS)
    | (go_at_call 7; refine (there_any (nn := nn) (cN := cN) (en := en) (top := top) (HP.out.at_ HS3.out.p.bel).nd Hl.out (m : Int)).mono ?_; rintro e w4 ⟨rfl, hb⟩; rw [HT.out]; have HS4 := hide (HS3.out.step hb); clear hb HS3))
  clear p0 p1 p2
  have HNd := hide (show RdR SNode w4 (fun d => d < w4.heap.size ∧ ¬ (d = b3 ∨ ∃ q ∈ [(b6, 24, (#[.slice none 0 0, .int .i64 0, .int .i64 0] : Array Value))], d = q.1)) N ns from (RdR.keepBlocks HP.out.nd fun d hd => HS4.out.p.bel.block d hd).more fun d hd => ⟨Nat.lt_of_lt_of_le hd HS4.out.p.bel.size, by
    have := HS4.out.h3; have := HS4.out.h6
    rintro (rfl | ⟨q, hq, rfl⟩)
    · omega
    · rw [List.mem_singleton.1 hq] at *
      simp only at *
      omega⟩)
  have CO := hide (ownH_any (en := en) (top := top) (cN := cN) (HP.out.at_ HS4.out.p.bel) HNd.out (by
    rintro d (rfl | ⟨q, hq, rfl⟩)
    · exact HS4.out.p.pl.lt
    · rw [List.mem_singleton.1 hq]
      exact HS4.out.r.lt))
  clear HNd
  obtain ⟨p0, p1, p2⟩ := HS4.out.p.cells
  go_upto_region 3 with (go_at_call 20; refine CO.out.mono ?_; rintro e w5 ⟨A5, c5, rfl, hor, hhd⟩; have HE := hide (PE.start hor HS4.out.p.bel HS4.out.p.pl HS4.out.h3 (by
    intro q hq
    rw [List.mem_singleton.1 hq]
    exact ⟨HS4.out.r, HS4.out.h6, fun e => HS4.out.n36 e.symm⟩)); have HH := hide hhd; have f0 := HE.out.frozen 0; have f1 := HE.out.frozen 1; have f2 := HE.out.frozen 2; obtain ⟨x0, x1, x2⟩ := HE.out.cells; clear hor hhd)
  clear p0 p1 p2 x0 x1 x2 f0 f1 f2 CO
  have HBs := hide (show w.heap.size ≤ w4.heap.size from HS4.out.p.bel.size)
  obtain ⟨B, hB⟩ : ∃ B, w4.heap.size = B := ⟨_, rfl⟩
  rw [hB] at HH HBs
  clear hB HS4
  obtain ⟨g, cg, hv, ho1, ho2, ho3⟩ := HE.out.form (by omega)
  injection hv with hA _ hcc
  subst hA hcc
  have HE1 := hide (((HE.out.set4 (.slice (some ⟨g, 0, none⟩) nn c5)).set41 en).set42 top)
  have hgb := HE.out.own4
  have HH1 := hide ((((HH.out.other ⟨b3, 0, none⟩ (fun ga e => by injection e with e; subst e; exact fun k => hgb (congrArg some k)) (.slice (some ⟨g, 0, none⟩) nn c5)).other ⟨b3, 1, none⟩ (fun ga e => by injection e with e; subst e; exact fun k => hgb (congrArg some k)) (.int .i64 en)).other ⟨b3, 2, none⟩ (fun ga e => by injection e with e; subst e; exact fun k => hgb (congrArg some k)) (.int .i64 top)).raise (H' := ((((w5.setCell ⟨b3, 0, none⟩ (.slice (some ⟨g, 0, none⟩) nn c5)).setCell ⟨b3, 1, none⟩ (.int .i64 en)).setCell ⟨b3, 2, none⟩ (.int .i64 top))).heap.size) (by simp))
  clear HE HH hgb ho1 ho2 ho3
  generalize ((w5.setCell ⟨b3, 0, none⟩ (.slice (some ⟨g, 0, none⟩) nn c5)).setCell ⟨b3, 1, none⟩ (.int .i64 en)).setCell ⟨b3, 2, none⟩ (.int .i64 top) = w6 at *
  go_upto_region 5 with fail
  obtain ⟨x0, x1, x2⟩ := HE1.out.cells
  obtain ⟨V, cV, L, cL, v1, v2, l1, l2, v3, l3, n0, n1, n2, n3, n4, n5, n6⟩ := HE1.out.node HXm.out
  have Hn4 := hide n4
  rw [Hq.out] at n5
  rw [Hpp.out] at n6
  go_upto_region 6 with fail
  have HE2 := hide (HE1.out.box 38 #[.int .u64 xm.1.1, .slice V xm.1.2.1.length cV, .int .u64 xm.1.2.2, .int .i64 xm.2.1, .slice L xm.2.2.1.length cL, .int .i64 q, .int .i64 p])
  have HH2 := hide ((HH1.out.keep (H' := w6.heap.size) (fun ga e => by injection e with e; subst e; have := HE1.out; obtain ⟨cs, h1, _⟩ := this.own; exact (h1.lt g rfl).2) (fun d hd => Below.heap_alloc w6 (.cells #[.int .u64 xm.1.1, .slice V xm.1.2.1.length cV, .int .u64 xm.1.2.2, .int .i64 xm.2.1, .slice L xm.2.2.1.length cL, .int .i64 q, .int .i64 p] 38) d hd)).raise (H' := (w6.alloc (.cells #[.int .u64 xm.1.1, .slice V xm.1.2.1.length cV, .int .u64 xm.1.2.2, .int .i64 xm.2.1, .slice L xm.2.2.1.length cL, .int .i64 q, .int .i64 p] 38)).heap.size) (by simp))
  have HC4 := hide (show (w6.alloc (.cells #[.int .u64 xm.1.1, .slice V xm.1.2.1.length cV, .int .u64 xm.1.2.2, .int .i64 xm.2.1, .slice L xm.2.2.1.length cL, .int .i64 q, .int .i64 p] 38)).cell? ⟨g, m * 7 + 4, none⟩ = some (.slice L xm.2.2.1.length cL) from (World.cell?_alloc_lt w6 _ ⟨g, m * 7 + 4, none⟩ (by obtain ⟨cs, h1, _⟩ := HE1.out.own; exact (h1.lt g rfl).2)).trans Hn4.out)
  clear x0 x1 x2 n0 n1 n2 n3 n4 n5 n6 v3 l3 HE1 HH1 Hn4
  generalize World.alloc w6 _ = w7 at *
  obtain ⟨b9, hb9⟩ : ∃ b, w6.heap.size = b := ⟨_, rfl⟩
  rw [hb9] at HE2
  rw [hb9]
  clear hb9
  have HE3 := hide (HE2.out.step (Below.refl _ _).drew)
  have HH3 := hide (show HdW B w7.drew (some ⟨g, 0, none⟩) w7.drew.heap.size nn from HH2.out)
  have HC5 := hide (show w7.drew.cell? ⟨g, m * 7 + 4, none⟩ = some (.slice L xm.2.2.1.length cL) from HC4.out)
  clear HE2 HH2 HC4
  obtain ⟨xp, hxp⟩ : ∃ x, ns[p]? = some x := ⟨_, List.getElem?_eq_getElem (by rw [Hl.out]; exact hp1)⟩
  obtain ⟨_, _, _, _, _, _, _, _, _, _, -, -, -, -, -, y5, -⟩ := HE3.out.node hxp
  have z5 := HE3.out.frozenN (p * 7 + 5)
  clear hxp
  refine startO (S := (PA w b3 (.slice (some ⟨g, 0, none⟩) nn c5) en top [(b9, 38, #[.int .u64 xm.1.1, .slice V xm.1.2.1.length cV, .int .u64 xm.1.2.2, .int .i64 xm.2.1, .slice L xm.2.2.1.length cL, .int .i64 q, .int .i64 p]), (b6, 24, #[.slice none 0 0, .int .i64 0, .int .i64 0])] (.slice (some ⟨g, 0, none⟩) nn c5) nn)) 18 (by as_aux_lemma => kernel_rfl) (by as_aux_lemma => kernel_rfl) (⟨_, HE3.out⟩) (fun hHeld => ?_)
  generalize World.drew _ = Wd at *
  refine takeO 0 33 (.fieldAddr 24 (.const (.pointer (some ⟨b3, 0, none⟩))) 0) 0 (.pointer (some ⟨b3, 0, none⟩)) (by as_aux_lemma => kernel_rfl) (by as_aux_lemma => kernel_rfl) (by as_aux_lemma => kernel_rfl) (fun _ _ _ _ _ h => h) (fun W hS => by clear hS hHeld; unfold cEv opC; as_aux_lemma => first | (go_simp; done) | (go_simp <;> rfl)) hHeld ?_
  refine takeO 2 35 (.fieldAddr 38 (.const (.pointer (some ⟨b9, 0, none⟩))) 4) 0 (.pointer (some ⟨b9, 6, none⟩)) (by as_aux_lemma => kernel_rfl) (by as_aux_lemma => kernel_rfl) (by as_aux_lemma => kernel_rfl) (fun _ _ _ _ _ h => h) (fun W hS => by clear hS hHeld; unfold cEv opC; as_aux_lemma => first | (go_simp; done) | (go_simp <;> rfl)) hHeld ?_
  refine takeO 4 37 (.fieldAddr 24 (.const (.pointer (some ⟨b3, 0, none⟩))) 0) 0 (.pointer (some ⟨b3, 0, none⟩)) (by as_aux_lemma => kernel_rfl) (by as_aux_lemma => kernel_rfl) (by as_aux_lemma => kernel_rfl) (fun _ _ _ _ _ h => h) (fun W hS => by clear hS hHeld; unfold cEv opC; as_aux_lemma => first | (go_simp; done) | (go_simp <;> rfl)) hHeld ?_
  refine takeO 6 39 (.fieldAddr 38 (.const (.pointer (some ⟨b9, 0, none⟩))) 3) 0 (.pointer (some ⟨b9, 5, none⟩)) (by as_aux_lemma => kernel_rfl) (by as_aux_lemma => kernel_rfl) (by as_aux_lemma => kernel_rfl) (fun _ _ _ _ _ h => h) (fun W hS => by clear hS hHeld; unfold cEv opC; as_aux_lemma => first | (go_simp; done) | (go_simp <;> rfl)) hHeld ?_
  refine takeO 8 41 (.fieldAddr 38 (.const (.pointer (some ⟨b9, 0, none⟩))) 3) 0 (.pointer (some ⟨b9, 5, none⟩)) (by as_aux_lemma => kernel_rfl) (by as_aux_lemma => kernel_rfl) (by as_aux_lemma => kernel_rfl) (fun _ _ _ _ _ h => h) (fun W hS => by clear hS hHeld; unfold cEv opC; as_aux_lemma => first | (go_simp; done) | (go_simp <;> rfl)) hHeld ?_
  refine takeO 10 43 (.fieldAddr 38 (.const (.pointer (some ⟨b9, 0, none⟩))) 4) 0 (.pointer (some ⟨b9, 6, none⟩)) (by as_aux_lemma => kernel_rfl) (by as_aux_lemma => kernel_rfl) (by as_aux_lemma => kernel_rfl) (fun _ _ _ _ _ h => h) (fun W hS => by clear hS hHeld; unfold cEv opC; as_aux_lemma => first | (go_simp; done) | (go_simp <;> rfl)) hHeld ?_
  refine takeO 1 34 (.load 22 (.const (.pointer (some ⟨b3, 0, none⟩)))) 22 (.slice (some ⟨g, 0, none⟩) nn c5) (by as_aux_lemma => kernel_rfl) (by as_aux_lemma => kernel_rfl) (by as_aux_lemma => kernel_rfl) (fun _ _ _ _ _ h => h) (fun W hS => by obtain ⟨z0, z1, z2⟩ := hS.cells; clear hS hHeld; unfold cEv opC; as_aux_lemma => first | (go_simp; done) | (go_simp <;> rfl)) hHeld ?_
  refine takeO 3 36 (.load 3 (.const (.pointer (some ⟨b9, 6, none⟩)))) 3 (.int .i64 (p : Int)) (by as_aux_lemma => kernel_rfl) (by as_aux_lemma => kernel_rfl) (by as_aux_lemma => kernel_rfl) (fun _ _ _ _ _ h => h) (fun W hS => by have z := (hS.blk (List.mem_cons_self ..)).cell 6; simp at z; clear hS hHeld; unfold cEv opC; as_aux_lemma => first | (go_simp; done) | (go_simp <;> rfl)) hHeld ?_
  refine takeO 5 38 (.load 22 (.const (.pointer (some ⟨b3, 0, none⟩)))) 22 (.slice (some ⟨g, 0, none⟩) nn c5) (by as_aux_lemma => kernel_rfl) (by as_aux_lemma => kernel_rfl) (by as_aux_lemma => kernel_rfl) (fun _ _ _ _ _ h => h) (fun W hS => by obtain ⟨z0, z1, z2⟩ := hS.cells; clear hS hHeld; unfold cEv opC; as_aux_lemma => first | (go_simp; done) | (go_simp <;> rfl)) hHeld ?_
  refine takeO 7 40 (.load 3 (.const (.pointer (some ⟨b9, 5, none⟩)))) 3 (.int .i64 (q : Int)) (by as_aux_lemma => kernel_rfl) (by as_aux_lemma => kernel_rfl) (by as_aux_lemma => kernel_rfl) (fun _ _ _ _ _ h => h) (fun W hS => by have z := (hS.blk (List.mem_cons_self ..)).cell 5; simp at z; clear hS hHeld; unfold cEv opC; as_aux_lemma => first | (go_simp; done) | (go_simp <;> rfl)) hHeld ?_
  refine takeO 9 42 (.load 3 (.const (.pointer (some ⟨b9, 5, none⟩)))) 3 (.int .i64 (q : Int)) (by as_aux_lemma => kernel_rfl) (by as_aux_lemma => kernel_rfl) (by as_aux_lemma => kernel_rfl) (fun _ _ _ _ _ h => h) (fun W hS => by have z := (hS.blk (List.mem_cons_self ..)).cell 5; simp at z; clear hS hHeld; unfold cEv opC; as_aux_lemma => first | (go_simp; done) | (go_simp <;> rfl)) hHeld ?_
  refine takeO 11 44 (.load 3 (.const (.pointer (some ⟨b9, 6, none⟩)))) 3 (.int .i64 (p : Int)) (by as_aux_lemma => kernel_rfl) (by as_aux_lemma => kernel_rfl) (by as_aux_lemma => kernel_rfl) (fun _ _ _ _ _ h => h) (fun W hS => by have z := (hS.blk (List.mem_cons_self ..)).cell 6; simp at z; clear hS hHeld; unfold cEv opC; as_aux_lemma => first | (go_simp; done) | (go_simp <;> rfl)) hHeld ?_
  refine takeO 12 45 (.indexAddr 22 (.const (.slice (some ⟨g, 0, none⟩) nn c5)) (.const (.int .i64 (p : Int)))) 0 (.pointer (some ⟨g, p * 7, none⟩)) (by as_aux_lemma => kernel_rfl) (by as_aux_lemma => kernel_rfl) (by as_aux_lemma => kernel_rfl) (fun _ _ _ _ _ h => h) (fun W hS => by have hnl : (p : Int) < nn := (by omega); have hnl0 : (0 : Int) ≤ p := (by omega); clear hS hHeld; unfold cEv opC; as_aux_lemma => first | (go_simp; done) | (go_simp <;> rfl)) hHeld ?_
  refine takeO 13 46 (.fieldAddr 38 (.const (.pointer (some ⟨g, p * 7, none⟩))) 3) 0 (.pointer (some ⟨g, p * 7 + 5, none⟩)) (by as_aux_lemma => kernel_rfl) (by as_aux_lemma => kernel_rfl) (by as_aux_lemma => kernel_rfl) (fun _ _ _ _ _ h => h) (fun W hS => by clear hS hHeld; unfold cEv opC; as_aux_lemma => first | (go_simp; done) | (go_simp <;> rfl)) hHeld ?_
  refine readyO [14] (by as_aux_lemma => kernel_rfl) (by simp) ?_
  refine storeO 14 (.store 3 (.const (.pointer (some ⟨g, p * 7 + 5, none⟩))) (.const (.int .i64 (q : Int)))) 0 (Wd.setCell ⟨g, p * 7 + 5, none⟩ (.int .i64 (q : Int))) (by as_aux_lemma => kernel_rfl) (by as_aux_lemma => kernel_rfl) (by unfold cEv opC; go_simp) (⟨_, HE3.out.nextF (k := p) hp1 (q : Int)⟩) (fun hHeld2 => ?_) AllReadyH.nil
  clear hHeld
  have hHeld := hHeld2
  clear hHeld2
  have HE4 := hide (HE3.out.nextF (k := p) hp1 (q : Int))
  have HH4 := hide ((HH3.out.setO (i := p * 7 + 5) (by omega) (.int .i64 (q : Int))).raise (H' := (Wd.setCell ⟨g, p * 7 + 5, none⟩ (.int .i64 (q : Int))).heap.size) (by simp))
  have HC6 := hide ((World.cell?_setCell_other Wd ⟨g, p * 7 + 5, none⟩ ⟨g, m * 7 + 4, none⟩ (.int .i64 (q : Int)) (fun e => by injection e with _ e _; omega)).trans HC5.out)
  clear HE3 HH3 y5 z5 HC5
  generalize Wd.setCell ⟨g, p * 7 + 5, none⟩ (.int .i64 (q : Int)) = We at *
  obtain ⟨xq, hxq⟩ : ∃ x, (setNx ns p q)[q]? = some x := ⟨_, List.getElem?_eq_getElem (by rw [HE4.out.len]; omega)⟩
  obtain ⟨_, _, _, _, _, _, _, _, _, _, -, -, -, -, -, -, y6⟩ := HE4.out.node hxq
  have z6 := HE4.out.frozenN (q * 7 + 6)
  clear hxq
  refine takeO 15 47 (.indexAddr 22 (.const (.slice (some ⟨g, 0, none⟩) nn c5)) (.const (.int .i64 (q : Int)))) 0 (.pointer (some ⟨g, q * 7, none⟩)) (by as_aux_lemma => kernel_rfl) (by as_aux_lemma => kernel_rfl) (by as_aux_lemma => kernel_rfl) (fun _ _ _ _ _ h => h) (fun W hS => by have hnl : (q : Int) < nn := (by omega); have hnl0 : (0 : Int) ≤ q := (by omega); clear hS hHeld; unfold cEv opC; as_aux_lemma => first | (go_simp; done) | (go_simp <;> rfl)) hHeld ?_
  refine takeO 16 48 (.fieldAddr 38 (.const (.pointer (some ⟨g, q * 7, none⟩))) 4) 0 (.pointer (some ⟨g, q * 7 + 6, none⟩)) (by as_aux_lemma => kernel_rfl) (by as_aux_lemma => kernel_rfl) (by as_aux_lemma => kernel_rfl) (fun _ _ _ _ _ h => h) (fun W hS => by clear hS hHeld; unfold cEv opC; as_aux_lemma => first | (go_simp; done) | (go_simp <;> rfl)) hHeld ?_
  refine readyO [17] (by as_aux_lemma => kernel_rfl) (by simp) ?_
  refine storeO 17 (.store 3 (.const (.pointer (some ⟨g, q * 7 + 6, none⟩))) (.const (.int .i64 (p : Int)))) 0 (We.setCell ⟨g, q * 7 + 6, none⟩ (.int .i64 (p : Int))) (by as_aux_lemma => kernel_rfl) (by as_aux_lemma => kernel_rfl) (by unfold cEv opC; go_simp) (⟨_, HE4.out.prevF (k := q) hq1 (p : Int)⟩) (fun hHeld2 => ?_) AllReadyH.nil
  clear hHeld
  have hHeld := hHeld2
  clear hHeld2
  have HE5 := hide (HE4.out.prevF (k := q) hq1 (p : Int))
  have HH5 := hide ((HH4.out.setO (i := q * 7 + 6) (by omega) (.int .i64 (p : Int))).raise (H' := (We.setCell ⟨g, q * 7 + 6, none⟩ (.int .i64 (p : Int))).heap.size) (by simp))
  have HC7 := hide ((World.cell?_setCell_other We ⟨g, q * 7 + 6, none⟩ ⟨g, m * 7 + 4, none⟩ (.int .i64 (p : Int)) (fun e => by injection e with _ e _; omega)).trans HC6.out)
  clear HE4 HH4 y6 z6 HC6
  generalize We.setCell ⟨g, q * 7 + 6, none⟩ (.int .i64 (p : Int)) = Wf at *
  refine doneO [(33, .pointer (some ⟨b3, 0, none⟩)), (0, .slice (some ⟨g, 0, none⟩) nn c5), (0, .pointer (some ⟨b9, 6, none⟩)), (0, .int .i64 (p : Int)), (0, .pointer (some ⟨b3, 0, none⟩)), (0, .slice (some ⟨g, 0, none⟩) nn c5), (0, .pointer (some ⟨b9, 5, none⟩)), (0, .int .i64 (q : Int)), (0, .pointer (some ⟨b9, 5, none⟩)), (0, .int .i64 (q : Int)), (0, .pointer (some ⟨b9, 6, none⟩)), (0, .int .i64 (p : Int)), (0, .pointer (some ⟨g, p * 7, none⟩)), (0, .pointer (some ⟨g, p * 7 + 5, none⟩)), (0, .pointer (some ⟨g, q * 7, none⟩)), (0, .pointer (some ⟨g, q * 7 + 6, none⟩))] (by as_aux_lemma => kernel_rfl) (by as_aux_lemma => kernel_rfl) ?_
  simp only [fillG]
  clear hHeld
  rw [← HDA.out] at HE5
  obtain ⟨xm2, hx2, e1, e2, e3, e4⟩ := dropA_at (ns := ns) (slot := (m : Int)) (by rw [prevF_at HXm.out, Hpp.out]; omega) HXm.out
  obtain ⟨BXX, hbx⟩ : ∃ b : List (Nat × TypeId × Array Value), ([(b9, 38, #[.int .u64 xm.1.1, .slice V xm.1.2.1.length cV, .int .u64 xm.1.2.2, .int .i64 xm.2.1, .slice L xm.2.2.1.length cL, .int .i64 q, .int .i64 p]), (b6, 24, #[.slice none 0 0, .int .i64 0, .int .i64 0])] : List (Nat × TypeId × Array Value)) = b := ⟨_, rfl⟩
  have HBx := hide hbx
  rw [hbx] at HE5
  obtain ⟨nl, hnl⟩ : ∃ k, xm.2.2.1.length = k := ⟨_, rfl⟩
  have Hnl := hide hnl
  rw [hnl] at HC7
  have HDr := hide (show DrW w b3 en top BXX g nn c5 B (dropA ns (m : Int)) m xm2 L cL (dropA ns (m : Int)) Wf from ⟨HE5.out, HH5.out, HBs.out, AlikeN.refl _, hx2, by rw [e3, hnl]; exact HC7.out, HOkA.out⟩)
  have HE3m := hide e3
  obtain ⟨aM, _, _, _, hLa, _⟩ := RdR.slc HDr.out.lists (k := 0) (by
    rw [e3, hnl]
    obtain ⟨h1, h2, h3, _⟩ := HND.out
    rw [nodeF_at HXm.out] at h1 h3
    omega)
  subst hLa
  have b9m : (b9, 38, (#[.int .u64 xm.1.1, .slice V xm.1.2.1.length cV, .int .u64 xm.1.2.2, .int .i64 xm.2.1, (.slice (some aM) xm.2.2.1.length cL), .int .i64 q, .int .i64 p] : Array Value)) ∈ BXX := by rw [← hbx]; exact List.mem_cons_self ..
  have b6m : (b6, 24, (#[.slice none 0 0, .int .i64 0, .int .i64 0] : Array Value)) ∈ BXX := by rw [← hbx]; exact List.mem_cons_of_mem _ (List.mem_cons_self ..)
  have y4 := (HE5.out.blk b9m).cell 4
  simp at y4
  rw [hnl] at y4
  have HB6 := hide b6m
  have hl8 : nl ≤ 8 := by
    have h := HND.out
    obtain ⟨h1, h2, h3, _⟩ := h
    rw [nodeF_at HXm.out] at h2 h3
    omega
  clear hx2 e1 e2 e3 e4 hbx hnl HE5 HH5 HC7 b9m b6m
  go_wp2
  go_loopw [52] (fun i wr => ∃ (j : Nat) (l : List NodeP), j ≤ nl ∧ i = .int .i64 j ∧ Hid (DrW w b3 en top BXX g nn c5 B (dropA ns (m : Int)) m xm2 (some aM) cL l wr)) (fun i _ => nl - (intOf i).toNat)
  case atStart => exact ⟨0, _, by omega, rfl, HDr⟩
  case round =>
    obtain ⟨j, l, hj, rfl, HD⟩ := hrel
    clear HDr y4
    by_cases hlt : j < nl
    · have j0 : (0 : Int) ≤ j := by omega
      have j1 : (j : Int) < nl := by omega
      obtain ⟨aM', li, A1, c1, hLa, _, hli, q0, d1, d2, hr1⟩ := RdR.slc HD.out.lists (k := j) (by rw [HE3m.out, Hnl.out]; exact hlt)
      injection hLa with hLa
      subst hLa
      have HLi := hide (show rightE li (m : Int) links (j : Nat) ((ns.length : Int) - 1) ∧ ∀ x ∈ li, listedF ns x j (m : Int) = true from by
        obtain ⟨_, _, _, h4⟩ := HND.out
        obtain ⟨l9, k1, k2, k3⟩ := h4 j (by rw [nodeF_at HXm.out, Hnl.out]; exact hlt)
        rw [nodeF_at HXm.out, ← HE3m.out, hli] at k1
        injection k1 with k1
        subst k1
        exact ⟨k2, k3⟩)
      have HR1 := hide (hr1.rd (B := wr.heap.size) fun d hd => hd.1)
      obtain ⟨n1, hn1⟩ : ∃ k, li.length = k := ⟨_, rfl⟩
      have Hn1 := hide hn1
      rw [hn1] at q0 d1
      clear hr1 hli hn1
      go_wp2
      go_loopw [59] (fun i wr => ∃ (k : Nat) (l : List NodeP), k ≤ n1 ∧ i = .int .i64 k ∧ Hid (DrW w b3 en top BXX g nn c5 B (dropA ns (m : Int)) m xm2 (some aM) cL l wr) ∧ Hid (Rd (Sh.int .i64) wr wr.heap.size A1 li)) (fun i _ => n1 - (intOf i).toNat)
      case atStart => exact ⟨0, _, by omega, rfl, HD, HR1⟩
      case round =>
        obtain ⟨k, l, hk, rfl, HD2, HR2⟩ := hrel
        clear HD HR1 q0
        by_cases hkl : k < n1
        · have k0 : (0 : Int) ≤ k := by omega
          have k1 : (k : Int) < n1 := by omega
          obtain ⟨ad1, x, rfl, _, hv, r0⟩ := RdR.icell HR2.out (k := k) (by have := Hn1.out; omega)
          have hxl := List.mem_of_getElem? hv
          obtain ⟨hx1, hx2, hx3⟩ := HLi.out.1.1 x hxl
          have hxL := HLi.out.2 x hxl
          obtain ⟨q2, rfl⟩ : ∃ q : Nat, x = q := ⟨x.toNat, by omega⟩
          have hqn : q2 < nn := by have := Hl.out; omega
          have hqm : q2 ≠ m := fun e => hx1 (by rw [e])
          obtain ⟨yq, hyq⟩ : ∃ x, ns[q2]? = some x := ⟨_, List.getElem?_eq_getElem (by have := Hl.out; omega)⟩
          obtain ⟨y1, a1, a2, a3, a4, _⟩ := dropA_at (ns := ns) (slot := (m : Int)) (by rw [prevF_at HXm.out, Hpp.out]; omega) hyq
          obtain ⟨y0, b1, b2, b3', b4', b5⟩ := HD2.out.al.2 q2 y1 a1
          have hjq : j < y0.2.2.1.length := by
            rw [b4', a4]
            unfold listedF at hxL
            rw [nodeF_at hyq, Bool.and_eq_true] at hxL
            have h2 := hxL.2
            split at h2
            · rename_i t ht
              exact (List.getElem?_eq_some_iff.1 ht).1
            · cases h2
          obtain ⟨_, _, L2, cL2, _, _, _, _, _, hrl, _, _, _, _, w4', _, _⟩ := HD2.out.pe.node b1
          obtain ⟨aL, lx, A2, c2, hL2, hfr, hlx, wj, s1, s2, hr2⟩ := RdR.slc hrl (k := j) hjq
          subst hL2
          obtain ⟨nL, hnL⟩ : ∃ k, y0.2.2.1.length = k := ⟨_, rfl⟩
          rw [hnL] at w4' hjq
          obtain ⟨n2, hn2⟩ : ∃ k, lx.length = k := ⟨_, rfl⟩
          have Hn2 := hide hn2
          have HY := hide b1
          have HF := hide hfr
          have HW4 := hide w4'
          have HWj := hide wj
          have hok := HD2.out.ok y0 (List.mem_of_getElem? b1)
          have HLx := hide (show (∀ y ∈ lx, (Lit.int .i64 y).wf = true) ∧ lx.length ≤ 1048576 from ⟨hok.1.l lx (List.mem_of_getElem? hlx), hok.2.1.2.2 lx (List.mem_of_getElem? hlx)⟩)
          rw [hn2] at wj s1
          have hn6 : n2 ≤ 1048576 := by have := HLx.out.2; omega
          have fz := ((HD2.out.hd _ rfl).1 q2 aL nL cL2 hqn (by rw [add_mk, Nat.zero_add]; exact w4')).2.2 j
          have haS := hide (show aL.block < wr.heap.size from hfr.1)
          have hgS := hide HD2.out.lg
          have jL0 : (0 : Int) ≤ j := by omega
          have jL1 : (j : Int) < nL := by omega
          have qq0 : (0 : Int) ≤ q2 := by omega
          have qq1 : (q2 : Int) < nn := by omega
          obtain ⟨x0, x1', x2'⟩ := HD2.out.pe.cells
          have CW := hide (eWithout_any A2 n2 c2 lx (m : Int) wr.drew (hr2.rd (B := wr.heap.size) fun d hd => hd.1) hn2 s1 s2 hn6)
          have HDd := hide (HD2.out.step (Below.refl _ _).drew)
          have HRd := hide (show Rd (Sh.int .i64) wr.drew wr.drew.heap.size (some ad1) li from HR2.out)
          clear hv hxl hx1 hx2 hx3 hxL hyq a1 a2 a3 a4 b1 b2 b3' b4' b5 hrl hfr hlx hr2 hok hn2 hnL x1' x2' HD2 HR2 hjq
          go_upto_region 13 with fail
          clear r0
          go_region_law ((go_simp; go_at_call 21; refine CW.out.mono ?_; rintro e w8 ⟨v8, rfl, A8, n8, c8, rfl, t1, t2, t3, t4, t5⟩; have HD8 := hide (HDd.out.step t5); have HL8 := hide (show (∀ y ∈ woF lx (m : Int), (Lit.int .i64 y).wf = true) ∧ (woF lx (m : Int)).length ≤ 1048576 from ⟨fun y hy => HLx.out.1 y (List.mem_filter.1 hy).1, Nat.le_trans (List.length_filter_le _ _) HLx.out.2⟩); have f8 : w8.frozen? (aL.add j) = false := (t5.frozen (p := aL.add j) (by rw [block_of_add]; exact haS.out)).trans fz; obtain ⟨z8, _, _⟩ := HD8.out.pe.cells; have u4 : w8.cell? ⟨g, q2 * 7 + 4, none⟩ = some (.slice (some aL) nL cL2) := (t5.cell (p := ⟨g, q2 * 7 + 4, none⟩) hgS.out).trans HW4.out; have uj : w8.cell? (aL.add j) = some (.slice A2 lx.length c2) := (t5.cell (p := aL.add j) (by rw [block_of_add]; exact haS.out)).trans HWj.out; have HR8 := hide (show ∃ l', DrW w b3 en top BXX g nn c5 B (dropA ns (m : Int)) m xm2 (some aM) cL l' (w8.setCell (aL.add j) (.slice A8 (woF lx (m : Int)).length c8)) from (by
            obtain ⟨y2, k1, k2⟩ : ∃ y2, l[q2]? = some y2 ∧ True := ⟨_, HY.out, trivial⟩
            exact HD8.out.inner (k := q2) (j := j) HY.out hqm u4 ⟨Nat.lt_of_lt_of_le HF.out.1 t5.size, HF.out.2⟩ uj (by rw [t1]; exact t2) t3 (t4.more fun d hd => ⟨hd.2, by have := HD8.out; obtain ⟨cs, h1, _⟩ := HDd.out.pe.own; exact fun e => by have := (h1.lt d e).2; have := hd.1; simp at *; omega, fun e => by have := HDd.out.pe.p.lt; have := hd.1; simp at *; omega, fun p hp e => by have := (HDd.out.pe.bx p hp).1.lt; have := hd.1; simp at *; omega⟩) HL8.out)); have HI8 := hide (show Rd (Sh.int .i64) (w8.setCell (aL.add j) (.slice A8 (woF lx (m : Int)).length c8)) (w8.setCell (aL.add j) (.slice A8 (woF lx (m : Int)).length c8)).heap.size (some ad1) li from (by
            have h := ints_slice (v := .slice A8 (woF lx (m : Int)).length c8) (HRd.out.at_world t5) uj
            exact h.rd (fun d hd => by simpa using hd))); rw [t1] at HR8 HI8; clear t4 t5 CW HDd HRd HD8))
          all_goals
            obtain ⟨l8, hl8'⟩ := HR8.out
            have HD9 := hide hl8'
            clear hl8'
            go_wp2
            go_roundw
            case rel => exact ⟨k + 1, l8, by omega, by go_num, HD9, HI8⟩
            case measure => simp [intOf]; omega
        · obtain rfl : n1 = k := by omega
          clear HR2
          go_wp2
          go_roundw
          case rel => exact ⟨j + 1, l, by omega, by go_num, HD2⟩
          case measure => simp [intOf]; omega
    · obtain rfl : nl = j := by omega
      have HDp := hide (show DropP ns (m : Int) (l.set m bareN) from by have h := dropP_of HC.out HT.out HD.out.al; simpa using h)
      have HOkF := hide (show ∀ y ∈ l.set m bareN, OkD y from fun y hy => by
        rcases List.mem_or_eq_of_mem_set hy with k | k
        · exact HD.out.ok y k
        · rw [k]; exact bare_ok)
      obtain ⟨x0, x1, x2⟩ := HD.out.pe.cells
      obtain ⟨_, _, _, _, -, -, -, -, -, -, a0, a1, a2, a3, a4, a5, a6⟩ := HD.out.pe.node HD.out.xa
      have z0 := HD.out.pe.frozenN (m * 7)
      have z1 := HD.out.pe.frozenN (m * 7 + 1)
      have z2 := HD.out.pe.frozenN (m * 7 + 2)
      have z3 := HD.out.pe.frozenN (m * 7 + 3)
      have z4 := HD.out.pe.frozenN (m * 7 + 4)
      have z5 := HD.out.pe.frozenN (m * 7 + 5)
      have z6 := HD.out.pe.frozenN (m * 7 + 6)
      have H7 := hide (show PE w b3 (.slice (some ⟨g, 0, none⟩) nn c5) en top BXX (.slice (some ⟨g, 0, none⟩) nn c5) nn (l.set m bareN) (((((((wr.setCell ⟨g, m * 7, none⟩ (.int .u64 0)).setCell ⟨g, m * 7 + 1, none⟩ (.slice none 0 0)).setCell ⟨g, m * 7 + 2, none⟩ (.int .u64 0)).setCell ⟨g, m * 7 + 3, none⟩ (.int .i64 0)).setCell ⟨g, m * 7 + 4, none⟩ (.slice none 0 0)).setCell ⟨g, m * 7 + 5, none⟩ (.int .i64 (-1))).setCell ⟨g, m * 7 + 6, none⟩ (.int .i64 (-1))) from HD.out.pe.put7 HD.out.xa bareN (V := none) (L := none) (cV := 0) (cL := 0) (by simp [bareN]) (by omega) RdR.nil (by simp [bareN]) (by omega) RdR.nil)
      clear HD
      go_upto_region 17 with fail
      clear x0 x1 x2 a0 a1 a2 a3 a4 a5 a6 z0 z1 z2 z3 z4 z5 z6
      generalize ((((((wr.setCell ⟨g, m * 7, none⟩ (.int .u64 0)).setCell ⟨g, m * 7 + 1, none⟩ (.slice none 0 0)).setCell ⟨g, m * 7 + 2, none⟩ (.int .u64 0)).setCell ⟨g, m * 7 + 3, none⟩ (.int .i64 0)).setCell ⟨g, m * 7 + 4, none⟩ (.slice none 0 0)).setCell ⟨g, m * 7 + 5, none⟩ (.int .i64 (-1))).setCell ⟨g, m * 7 + 6, none⟩ (.int .i64 (-1)) = w9 at *
      obtain ⟨x0, x1, x2⟩ := H7.out.cells
      have f1 := H7.out.frozen 1
      have f2 := H7.out.frozen 2
      by_cases he : en = m
      · have e0 : (en == (m : Int)) = true := beq_iff_eq.2 he
        clear he
        go_upto_region 19 with fail
        have HQ := hide (((H7.out.set41 0).set42 0).drop (bx' := [(b6, 24, (#[.slice none 0 0, .int .i64 0, .int .i64 0] : Array Value))]) (by intro q hq; rw [List.mem_singleton.1 hq]; exact HB6.out))
        clear x0 x1 x2 f1 f2 e0 H7
        generalize (w9.setCell ⟨b3, 1, none⟩ (.int .i64 0)).setCell ⟨b3, 2, none⟩ (.int .i64 0) = wa at *
        obtain ⟨x0, x1, x2⟩ := HQ.out.cells
        obtain ⟨y0, y1, y2⟩ := (HQ.out.blk (List.mem_cons_self ..)).cell3
        have f0 := (HQ.out.blk (List.mem_cons_self ..)).frozen 0
        have f1 := (HQ.out.blk (List.mem_cons_self ..)).frozen 1
        have f2 := (HQ.out.blk (List.mem_cons_self ..)).frozen 2
        go_wp2
        have h3 := ((HQ.out.setX (bx := []) (by simp) 0 (.slice (some ⟨g, 0, none⟩) nn c5)).setX (bx := []) (by simp) 1 (.int .i64 0)).setX (bx := []) (by simp) 2 (.int .i64 0)
        simp only [List.setIfInBounds_toArray, List.set_cons_zero, List.set_cons_succ] at h3
        obtain ⟨q0, q1, q2⟩ := (h3.blk (List.mem_cons_self ..)).cell3
        have HG := hide h3.give
        clear h3 HQ
        exact bodyPost_ret (v := .tuple #[.agg #[(.slice (some ⟨g, 0, none⟩) nn c5), .int .i64 0, .int .i64 0], .bool true]) (by simp [results, Tryz.results8, go_sem, q0, q1, q2]) rfl ⟨_, _, _, _, _, rfl, HG.out, HDp.out, HOkF.out⟩
      · have e0 : (en == (m : Int)) = false := beq_eq_false_iff_ne.2 he
        clear he
        go_upto_region 19 with fail
        have HQ := hide (H7.out.drop (bx' := [(b6, 24, (#[.slice none 0 0, .int .i64 0, .int .i64 0] : Array Value))]) (by intro q hq; rw [List.mem_singleton.1 hq]; exact HB6.out))
        clear x0 x1 x2 f1 f2 e0 H7
        obtain ⟨x0, x1, x2⟩ := HQ.out.cells
        obtain ⟨y0, y1, y2⟩ := (HQ.out.blk (List.mem_cons_self ..)).cell3
        have f0 := (HQ.out.blk (List.mem_cons_self ..)).frozen 0
        have f1 := (HQ.out.blk (List.mem_cons_self ..)).frozen 1
        have f2 := (HQ.out.blk (List.mem_cons_self ..)).frozen 2
        go_wp2
        have h3 := ((HQ.out.setX (bx := []) (by simp) 0 (.slice (some ⟨g, 0, none⟩) nn c5)).setX (bx := []) (by simp) 1 (.int .i64 en)).setX (bx := []) (by simp) 2 (.int .i64 top)
        simp only [List.setIfInBounds_toArray, List.set_cons_zero, List.set_cons_succ] at h3
        obtain ⟨q0, q1, q2⟩ := (h3.blk (List.mem_cons_self ..)).cell3
        have HG := hide h3.give
        clear h3 HQ
        exact bodyPost_ret (v := .tuple #[.agg #[(.slice (some ⟨g, 0, none⟩) nn c5), .int .i64 en, .int .i64 top], .bool true]) (by simp [results, Tryz.results8, go_sem, q0, q1, q2]) rfl ⟨_, _, _, _, _, rfl, HG.out, HDp.out, HOkF.out⟩
end
end Go.Proofs.YtlnbeeflifmnjadGreat
