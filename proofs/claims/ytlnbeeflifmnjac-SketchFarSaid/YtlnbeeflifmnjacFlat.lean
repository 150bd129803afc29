/-
  Slices of plain data (structs of numbers, of k cells): their cells; what is owned reads; the sort's rows. No condition.
-/
import Derived.Test.YtlnbeeflifmnjacLib3
import Derived.Shelf.GgSortFunc.InsertionK
namespace Go.Proofs.Ytlnbeeflifmnjac
set_option linter.unusedSimpArgs false
set_option linter.unusedVariables false
open Go.RowKit

/-- a shape without pointers -/
structure Flat {α : Type} (S : Sh α) (enc : α → List Value) : Prop where
  rd : ∀ w R x cs, S.rd w R x cs ↔ cs = enc x
  len : ∀ x, (enc x).length = S.size
  one : ∀ x, ∀ v ∈ enc x, v.oneCell' = true
  pos : 0 < S.size
theorem flatInt (k : IntKind) : Flat (Sh.int k) (fun x => [.int k x]) :=
  ⟨fun _ _ _ _ => Iff.rfl, fun _ => rfl, fun x v hv => by simp at hv; subst hv; rfl, Nat.one_pos⟩
theorem flatPair {α β : Type} {S : Sh α} {T : Sh β} {e : α → List Value} {f : β → List Value} (h : Flat S e) (k : Flat T f) : Flat (Sh.pair S T) (fun x => e x.1 ++ f x.2) where
  rd w R x cs := by
    constructor
    · rintro ⟨c, d, rfl, h1, h2⟩
      rw [(h.rd _ _ _ _).1 h1, (k.rd _ _ _ _).1 h2]
    · rintro rfl
      exact ⟨_, _, rfl, (h.rd _ _ _ _).2 rfl, (k.rd _ _ _ _).2 rfl⟩
  len x := by rw [List.length_append, h.len, k.len]; rfl
  one x v hv := by
    rcases List.mem_append.1 hv with hv | hv
    · exact h.one _ _ hv
    · exact k.one _ _ hv
  pos := Nat.lt_of_lt_of_le h.pos (Nat.le_add_right _ _)
/-- the cells of a list -/
def fcs {α : Type} (enc : α → List Value) (l : List α) : List Value := l.flatMap enc
/-- what a call that makes a list leaves: all of it new -/
def NewL {α : Type} (S : Sh α) (w : World) (l : List α) (v : Value) (w' : World) : Prop :=
  ∃ A n c, v = .slice A n c ∧ l.length = n ∧ n ≤ c ∧ c ≤ 9223372036854775807 ∧ RdR S w' (Btw w.heap.size w'.heap.size) A l ∧ Below w.heap.size w w'
section
variable {α : Type} {S : Sh α} {enc : α → List Value} {l : List α} {w w' : World} {R : Nat → Prop} {A : Option Addr}
theorem fcs_nil : fcs enc ([] : List α) = [] := rfl
theorem fcs_cons (x : α) (l : List α) : fcs enc (x :: l) = enc x ++ fcs enc l := rfl
theorem fcs_append (l m : List α) : fcs enc (l ++ m) = fcs enc l ++ fcs enc m := by simp [fcs]
theorem fcs_snoc (l : List α) (x : α) : fcs enc (l ++ [x]) = fcs enc l ++ enc x := by simp [fcs]
theorem Flat.clen (h : Flat S enc) (l : List α) : (fcs enc l).length = l.length * S.size := by
  induction l with
  | nil => simp [fcs]
  | cons x l ih => rw [fcs_cons, List.length_append, ih, h.len, List.length_cons, Nat.add_mul, Nat.one_mul, Nat.add_comm]
theorem Flat.at_ (h : Flat S enc) {i : Nat} {x : α} (hx : l[i]? = some x) {j : Nat} (hj : j < S.size) : (fcs enc l)[i * S.size + j]? = (enc x)[j]? := by
  induction l generalizing i with
  | nil => simp at hx
  | cons y l ih =>
    rw [fcs_cons]
    rcases i with _ | i
    · simp at hx; subst hx
      rw [List.getElem?_append_left (by rw [h.len]; omega)]; simp
    · simp at hx
      rw [List.getElem?_append_right (by rw [h.len, Nat.add_mul, Nat.one_mul]; omega), h.len, ← ih hx]
      congr 1
      rw [Nat.add_mul, Nat.one_mul]; omega
theorem Flat.split (h : Flat S enc) {t : Nat} (ht : t < l.length * S.size) : ∃ x, l[t / S.size]? = some x ∧ (fcs enc l)[t]? = (enc x)[t % S.size]? := by
  have hi : t / S.size < l.length := Nat.div_lt_of_lt_mul (by rwa [Nat.mul_comm])
  refine ⟨l[t / S.size], List.getElem?_eq_getElem hi, ?_⟩
  rw [← h.at_ (List.getElem?_eq_getElem hi) (Nat.mod_lt t h.pos), Nat.mul_comm, Nat.div_add_mod]
theorem Flat.ones (h : Flat S enc) (l : List α) : ∀ u ∈ fcs enc l, u.oneCell' = true := by
  intro u hu
  simp only [fcs, List.mem_flatMap] at hu
  obtain ⟨x, _, hx⟩ := hu
  exact h.one x u hx
theorem Flat.mk_ (h : Flat S enc) {ad : Addr} (hR : R ad.block) (hc : ∀ (j : Nat) (u : Value), (fcs enc l)[j]? = some u → w.cell? (ad.add j) = some u) : RdR S w R (some ad) l := fun _ =>
  ⟨ad, rfl, hR, fun k x hx => ⟨enc x, (h.rd _ _ _ _).2 rfl, fun j u hu => by
    have hj : j < S.size := by rw [← h.len x]; exact (List.getElem?_eq_some_iff.1 hu).1
    exact hc _ _ ((h.at_ hx hj).trans hu)⟩⟩
theorem Flat.cells (h : Flat S enc) (hx : RdR S w R A l) (hne : l ≠ []) : ∃ ad, A = some ad ∧ R ad.block ∧ ∀ (t : Nat) (u : Value), (fcs enc l)[t]? = some u → w.cell? (ad.add t) = some u := by
  obtain ⟨ad, e, hb, hc⟩ := hx hne
  refine ⟨ad, e, hb, fun t u hu => ?_⟩
  have ht : t < l.length * S.size := by rw [← h.clen]; exact (List.getElem?_eq_some_iff.1 hu).1
  obtain ⟨x, hx, he⟩ := h.split ht
  obtain ⟨cs, h1, h2⟩ := hc _ x hx
  rw [(h.rd _ _ _ _).1 h1] at h2
  have := h2 (t % S.size) u (he ▸ hu)
  rwa [Nat.mul_comm, Nat.div_add_mod] at this
theorem Flat.reads (h : Flat S enc) {B m : Nat} (hR : ∀ b, R b → b < B) (hx : RdR S w R A l) (hn : l.length = m) : Reads w B S.size A m (fcs enc l) :=
  ⟨by rw [h.clen, hn], fun h0 => by
    obtain ⟨ad, e, hb, hc⟩ := h.cells hx (by rintro rfl; simp at hn; omega)
    exact ⟨ad, e, hR _ hb, hc⟩⟩
theorem Flat.own (h : Flat S enc) {base : Nat} {e : TypeId} {n c : Nat} (ho : w.ownsRow base e S.size (.slice A n c) n (fcs enc l)) : RdR S w (Btw base w.heap.size) A l := fun hne => by
  have hl : l.length = n := by have := ho.1; rw [h.clen] at this; exact Nat.eq_of_mul_eq_mul_right h.pos this
  obtain ⟨g, cap, hv, hg, hlt⟩ := ho.form (by have := List.length_pos_iff.2 hne; omega)
  have hA : A = some ⟨g, 0, none⟩ := by injection hv
  subst hA
  exact h.mk_ (R := Btw base w.heap.size) (ad := ⟨g, 0, none⟩) ⟨hg, hlt⟩ (fun j u hu => ho.cells (g := g) rfl j _ hu) hne
theorem Flat.new (h : Flat S enc) {e : TypeId} {v : Value} {n : Nat} (ho : w'.ownsRow w.heap.size e S.size v n (fcs enc l)) (hb : Below w.heap.size w w') : NewL S w l v w' := by
  obtain ⟨A, c, rfl, h1, h2⟩ := own_form ho
  exact ⟨A, n, c, rfl, by have := ho.1; rw [h.clen] at this; exact Nat.eq_of_mul_eq_mul_right h.pos this, h1, h2, h.own ho, hb⟩
end
section
variable {α : Type} [Inhabited α] {S : Sh α} {enc : α → List Value} {l : List α} {w w' : World}
theorem Flat.flatK (h : Flat S enc) (l : List α) : (Go.Sort.flatK enc S.size l.toArray).toList = fcs enc l := by
  apply List.ext_getElem?
  intro t
  by_cases ht : t < l.length * S.size
  · obtain ⟨x, hx, he⟩ := h.split ht
    have hs : t < (Go.Sort.flatK enc S.size l.toArray).size := by simpa using ht
    have hm : t % S.size < (enc x).length := by rw [h.len]; exact Nat.mod_lt _ h.pos
    have hg := Go.Sort.get_flatK enc S.size l.toArray t (by simpa using ht)
    rw [getElem!_pos (Go.Sort.flatK enc S.size l.toArray) t hs] at hg
    have hd : (l.toArray)[t / S.size]! = x := by
      obtain ⟨h1, h2⟩ := List.getElem?_eq_some_iff.1 hx
      rw [getElem!_pos l.toArray (t / S.size) (by simpa using h1)]; simpa using h2
    rw [hd, getElem!_pos (enc x) (t % S.size) hm] at hg
    rw [he, List.getElem?_eq_getElem hm, Array.getElem?_toList, Array.getElem?_eq_getElem hs, hg]
  · rw [List.getElem?_eq_none (by simpa using ht), List.getElem?_eq_none (by rw [h.clen]; omega)]
theorem Flat.holds (h : Flat S enc) {base g n cap : Nat} {e : TypeId} (ho : w.ownsRow base e S.size (.slice (some ⟨g, 0, none⟩) n cap) n (fcs enc l)) : Go.Sort.HoldsK enc S.size w g 0 l.toArray := by
  have hl : l.length = n := by have := ho.1; rw [h.clen] at this; exact Nat.eq_of_mul_eq_mul_right h.pos this
  intro t ht
  have ht' : t < l.length * S.size := by simpa using ht
  rcases ho.2 with ⟨hv, _⟩ | ⟨g', cap', cur, hv, hb, hg, h1, h2, h3, h4⟩
  · cases hv
  · injection hv with hv _ e3
    injection hv with hv
    injection hv with hv
    subst hv
    rw [Nat.zero_add]
    refine ⟨?_, Blk.frozen (t := e) (cs := cur) hg t⟩
    have hs : t < (Go.Sort.flatK enc S.size l.toArray).size := by simpa using ht'
    have e1 : (fcs enc l)[t]? = some ((Go.Sort.flatK enc S.size l.toArray)[t]!) := by
      rw [← h.flatK, Array.getElem?_toList, Array.getElem?_eq_getElem hs, getElem!_pos (Go.Sort.flatK enc S.size l.toArray) t hs]
    rw [Blk.cell (t := e) (cs := cur) hg t, ← Array.getElem?_toList]
    rw [← h4, List.getElem?_take, if_pos (by rw [← hl]; exact ht')] at e1
    exact e1
end
theorem Flat.blk {α : Type} {S : Sh α} {enc : α → List Value} (h : Flat S enc) {w : World} {g : Nat} {t : TypeId} {cs : Array Value} {l : List α} (hb : Blk w g t cs) (e : cs.toList = fcs enc l) : Rd S w w.heap.size (some ⟨g, 0, none⟩) l :=
  h.mk_ (R := fun b => b < w.heap.size) (ad := ⟨g, 0, none⟩) hb.lt fun j u hu => by rw [add_mk, Nat.zero_add, hb.cell j, ← Array.getElem?_toList, e]; exact hu
end Go.Proofs.Ytlnbeeflifmnjac
