/-
  Appends from slices of ints; new lists of lists. No condition.
-/
import Derived.Test.YtlnbeeflifmnjacLib2
namespace Go.Proofs.Ytlnbeeflifmnjac
set_option linter.unusedSimpArgs false
set_option linter.unusedVariables false
open Go.RowKit

theorem add_succ' (a : Addr) (k : Nat) : a.add (k + 1) = ⟨a.block, a.off + 1 + k, none⟩ := by
  show (⟨a.block, a.off + (k + 1), none⟩ : Addr) = _
  congr 1; omega
theorem list_pick {α : Type} {p : Nat → α → Prop} (n : Nat) (h : ∀ i, i < n → ∃ x, p i x) : ∃ l : List α, l.length = n ∧ ∀ (i : Nat) (x : α), l[i]? = some x → p i x := by
  induction n with
  | zero => exact ⟨[], rfl, fun i x hx => by simp at hx⟩
  | succ n ih =>
    obtain ⟨l, hl, hp⟩ := ih fun i hi => h i (by omega)
    obtain ⟨x, hx⟩ := h n (by omega)
    refine ⟨l ++ [x], by simp [hl], fun i y hy => ?_⟩
    rcases Nat.lt_or_ge i l.length with hi | hi
    · rw [List.getElem?_append_left hi] at hy; exact hp i y hy
    · rw [List.getElem?_append_right hi] at hy
      have : i - l.length = 0 := by
        rcases Nat.eq_zero_or_pos (i - l.length) with h0 | h0
        · exact h0
        · rw [List.getElem?_eq_none (by simp; omega)] at hy; cases hy
      rw [this] at hy
      simp at hy
      subst hy
      have : i = n := by omega
      rw [this]; exact hx
theorem RdR.readsk {kd : IntKind} {w : World} {B : Nat} {R : Nat → Prop} {A : Option Addr} {xs : List Int} {n : Nat} (h : RdR (Sh.int kd) w R A xs) (hR : ∀ b, R b → b < B) (hn : xs.length = n) : Reads w B 1 A n (xs.map (Value.int kd)) := by
  refine ⟨by simp [hn], fun h0 => ?_⟩
  obtain ⟨ad, e, hb, hc⟩ := h (by rintro rfl; simp at hn; omega)
  refine ⟨ad, e, hR _ hb, fun j u hu => ?_⟩
  rw [List.getElem?_map, Option.map_eq_some_iff] at hu
  obtain ⟨x, hx, rfl⟩ := hu
  obtain ⟨cs, h1, h2⟩ := hc j x hx
  have h1' : cs = [.int kd x] := h1
  subst h1'
  simpa [Sh.int] using h2 0 _ rfl
section
variable {P : Program}
/-- 'append(s, src...)', ints -/
theorem wpList_append_ints {ops : Array Oper} {rest : List Oper} {o : Oper} {a : Act} {Q : Exit → Act → World → Prop} {w : World} (hgd : o.guard = none) (s x : Operand) (t : TypeId)
    (ho : o.op = .call { callee := .builtin .append, args := #[s, x], argTypes := #[t, t] })
    (base : Nat) {e : TypeId} {z : Value} {bytes : Nat} (ht : P.underlying t = some (.slice e)) (hinfo : (P.info? e).map (fun i => (i.zero, i.size, i.bytes)) = some (some z, 1, bytes)) (hzs : z.cells.size = 1)
    (v : Value) (n : Nat) (xs : List Value) (hs : a.eval s = v) (hown : w.ownsRow base e 1 v n xs)
    {kd : IntKind} (B : Nat) (A : Option Addr) (m c : Nat) (ys : List Int) (hx : a.eval x = .slice A m c) (hr : Rd (Sh.int kd) w B A ys) (hl : ys.length = m)
    (h63 : n + m ≤ maxLen) (hbytes : (n + m) * bytes ≤ 140737488355328) (hbase : base ≤ w.heap.size)
    (h : ∀ v' w', w'.ownsRow base e 1 v' (n + m) (xs ++ ys.map (Value.int kd)) → w.grownBy w' v.ownBlock → (v'.ownBlock = v.ownBlock ∨ v'.ownBlock = some w.heap.size) → wpList P ops Q rest (a.put o.dst v') w') : wpList P ops Q (o :: rest) a w := by
  obtain ⟨i, hi, hz, hsize, hby⟩ := info_parts hinfo
  exact wpList_append_any w hgd s x t ho base e i z 1 bytes ht hi hz hsize hby hzs (by decide) v n xs hs hown B A m c (ys.map (Value.int kd)) hx (RdR.readsk hr (fun b hb => hb) hl) (by simp [Value.oneCell']) h63 hbytes hbase h
end
/-- what a call that makes a list of lists leaves: all of it new -/
def NewLists (kd : IntKind) (w : World) (xss : List (List Int)) (v : Value) (w' : World) : Prop :=
  ∃ A n c, v = .slice A n c ∧ xss.length = n ∧ n ≤ c ∧ c ≤ 9223372036854775807 ∧ RdR (Sh.list (Sh.int kd)) w' (Btw w.heap.size w'.heap.size) A xss ∧ Below w.heap.size w w'
theorem NewLists.below {kd : IntKind} {w w' : World} {xss : List (List Int)} {v : Value} (h : NewLists kd w xss v w') : Below w.heap.size w w' := by obtain ⟨_, _, _, _, _, _, _, _, hb⟩ := h; exact hb
def GivesI (kd : IntKind) (w : World) (xs : List Int) (e : Ending) (w' : World) : Prop := ∃ v, e = .returned v ∧ NewInts kd w xs v w'
def GivesL (kd : IntKind) (w : World) (xss : List (List Int)) (e : Ending) (w' : World) : Prop := ∃ v, e = .returned v ∧ NewLists kd w xss v w'
/-- the cells of slices of ints: each reads as a list, in blocks of R -/
def HdR (kd : IntKind) (w : World) (R : Nat → Prop) (hs : List Value) (xss : List (List Int)) : Prop :=
  hs.length = xss.length ∧ ∀ (k : Nat) (xs : List Int), xss[k]? = some xs → ∃ A c, hs[k]? = some (.slice A xs.length c) ∧ xs.length ≤ c ∧ c ≤ 9223372036854775807 ∧ RdR (Sh.int kd) w R A xs
section
variable {kd : IntKind} {w w' : World} {R R' : Nat → Prop} {hs : List Value} {xss : List (List Int)}
theorem HdR.nil : HdR kd w R [] [] := ⟨rfl, fun k xs h => by simp at h⟩
theorem HdR.keep (h : HdR kd w R hs xss) (hk : ∀ b, R b → w'.heap[b]? = w.heap[b]?) : HdR kd w' R hs xss := ⟨h.1, fun k xs hx => by
  obtain ⟨A, c, h1, h2, h3, h4⟩ := h.2 k xs hx
  exact ⟨A, c, h1, h2, h3, h4.keepBlocks hk⟩⟩
theorem HdR.more (h : HdR kd w R hs xss) (hk : ∀ b, R b → R' b) : HdR kd w R' hs xss := ⟨h.1, fun k xs hx => by
  obtain ⟨A, c, h1, h2, h3, h4⟩ := h.2 k xs hx
  exact ⟨A, c, h1, h2, h3, h4.more hk⟩⟩
theorem HdR.snoc (h : HdR kd w R hs xss) {A : Option Addr} {n c : Nat} {xs : List Int} (hl : xs.length = n) (hc : n ≤ c) (hm : c ≤ 9223372036854775807) (hr : RdR (Sh.int kd) w R A xs) : HdR kd w R (hs ++ [.slice A n c]) (xss ++ [xs]) := by
  refine ⟨by simp [h.1], fun k ys hy => ?_⟩
  rcases Nat.lt_or_ge k xss.length with hk | hk
  · rw [List.getElem?_append_left hk] at hy
    obtain ⟨A', c', h1, h2⟩ := h.2 k ys hy
    exact ⟨A', c', by rw [List.getElem?_append_left (by rw [h.1]; exact hk)]; exact h1, h2⟩
  · rw [List.getElem?_append_right hk] at hy
    have hlt := (List.getElem?_eq_some_iff.1 hy).1
    simp at hlt
    obtain rfl : k = xss.length := by omega
    simp at hy
    subst hy hl
    exact ⟨A, c, by rw [List.getElem?_append_right (by rw [h.1]; exact Nat.le_refl _)]; simp [h.1], hc, hm, hr⟩
/-- a row of the call's own that holds such cells, as a list of lists -/
theorem HdR.own {base : Nat} {e : TypeId} {A : Option Addr} {n c : Nat} (h : HdR kd w R hs xss) (ho : w.ownsRow base e 1 (.slice A n c) n hs) (hR : ∀ b, base ≤ b → b < w.heap.size → R b) : RdR (Sh.list (Sh.int kd)) w R A xss := fun hne => by
  have hl : hs.length = n := by simpa using ho.1
  have hp : 0 < n := by rw [← hl, h.1]; exact List.length_pos_iff.2 hne
  obtain ⟨g, cap, hv, hg, hlt⟩ := ho.form hp
  have hA : A = some ⟨g, 0, none⟩ := by injection hv
  subst hA
  refine ⟨_, rfl, hR g hg hlt, fun k x hx => ?_⟩
  obtain ⟨A', c', h1, h2, h3, h4⟩ := h.2 k x hx
  refine ⟨[.slice A' x.length c'], ⟨A', c', rfl, h2, h3, h4⟩, fun j u hu => ?_⟩
  rcases j with _ | j
  · simp at hu; subst hu
    have := ho.cells (g := g) rfl k _ h1
    simpa [Sh.list] using this
  · simp at hu
/-- a block that holds such cells -/
theorem HdR.blk {g : Nat} {t : TypeId} {cs : Array Value} (h : HdR kd w R hs xss) (hb : Blk w g t cs) (he : cs.toList = hs) (hR : R g) : RdR (Sh.list (Sh.int kd)) w R (some ⟨g, 0, none⟩) xss := fun _ => by
  refine ⟨_, rfl, hR, fun k x hx => ?_⟩
  obtain ⟨A', c', h1, h2, h3, h4⟩ := h.2 k x hx
  refine ⟨[.slice A' x.length c'], ⟨A', c', rfl, h2, h3, h4⟩, fun j u hu => ?_⟩
  rcases j with _ | j
  · simp at hu; subst hu
    rw [add_mk, hb.cell, ← h1, ← he]
    simp [Sh.list]
  · simp at hu
end
end Go.Proofs.Ytlnbeeflifmnjac
