/-
  What came in, read as values of Lean's: integers, truths, slices, structs, arrays, in each other. No condition.
-/
import Derived.Test.YtlnbeeflifmnjacLib2
import Derived.Deep.Slices
import Derived.Deep.Fields
import Derived.ChangeSame
import Derived.OpenShut
import Derived.Deep.Draws
namespace Go.Proofs.Ytlnbeeflifmnjac
set_option linter.unusedSimpArgs false
set_option linter.unusedVariables false
open Go.ChangeShapes Go.WideShapes Go.Deep

theorem block_lt_of_cell' {w : World} {p : Addr} {v : Value} (h : w.cell? p = some v) : p.block < w.heap.size := by
  rcases Nat.lt_or_ge p.block w.heap.size with h' | h'
  · exact h'
  · simp [World.cell?, Array.getElem?_eq_none h'] at h
theorem list_choose {α : Type} {p : Nat → α → Prop} (n : Nat) (h : ∀ i, i < n → ∃ x, p i x) : ∃ l : List α, l.length = n ∧ ∀ (i : Nat) (x : α), l[i]? = some x → p i x := by
  induction n with
  | zero => exact ⟨[], rfl, fun i x hx => by simp at hx⟩
  | succ n ih =>
    obtain ⟨l, hl, hp⟩ := ih fun i hi => h i (by omega)
    obtain ⟨x, hx⟩ := h n (by omega)
    refine ⟨l ++ [x], by simp [hl], fun i y hy => ?_⟩
    rcases Nat.lt_or_ge i l.length with hi | hi
    · rw [List.getElem?_append_left hi] at hy; exact hp i y hy
    · rw [List.getElem?_append_right hi] at hy
      have : i - l.length = 0 := by
        rcases Nat.eq_zero_or_pos (i - l.length) with h0 | h0
        · exact h0
        · rw [List.getElem?_eq_none (by simp; omega)] at hy; cases hy
      rw [this] at hy
      simp at hy
      subst hy
      have : i = n := by omega
      rw [this]; exact hx

/-- all data of the type T read by the shape S, as values of which Ok holds -/
def Opens (P : Program) {α : Type} (T : TypeId) (S : Sh α) (Ok : α → Prop) : Prop :=
  ∀ {H : Type} {enc : TypeId × Value → H} {w : World} {base : Nat} {spare : Nat → Bool} {held : Bool} {fuel : Nat} {cs : List Value} {x : DataW H × List MemPlace},
    DataW.trod enc P w base spare held fuel T cs = some x → ∃ v, Ok v ∧ S.rd w (fun b => b < w.heap.size) v cs
section
variable {P : Program}
theorem opens_int {T : TypeId} {kd : IntKind} (ht : P.underlying T = some (.int kd)) : Opens P T (Sh.int kd) (fun n => (Lit.int kd n).wf = true) := fun h => by
  obtain ⟨n, rfl, _, hw⟩ := DataW.trod_int ht h
  exact ⟨n, hw, rfl⟩
theorem opens_bool {T : TypeId} (ht : P.underlying T = some .bool) : Opens P T Sh.bool (fun _ => True) := fun h => by
  obtain ⟨b, rfl, _⟩ := DataW.trod_bool ht h
  exact ⟨b, trivial, rfl⟩
theorem opens_str {T : TypeId} (ht : P.underlying T = some .string) : Opens P T Sh.str (fun s => s.size ≤ 9223372036854775807) := fun h => by
  obtain ⟨s, rfl, _, hs⟩ := DataW.trod_string ht h
  exact ⟨s, by simpa [maxLen] using hs, rfl⟩
theorem opens_slice {α : Type} {T e : TypeId} {S : Sh α} {Ok : α → Prop} (ht : P.underlying T = some (.slice e)) (hC : P.cellsOf e = S.size) (h0 : 0 < S.size) (h : Opens P e S Ok) : Opens P T (Sh.list S) (fun l => ∀ x ∈ l, Ok x) := by
  intro H enc w base spare held fuel cs x hx
  rcases open_slice ht hx with ⟨rfl, _⟩ | ⟨a, len, cap, m, n, D, Pl, rfl, hb, hl, hm, hmm, _, hi⟩
  · exact ⟨[], by simp, none, 0, rfl, by simp, by omega, RdR.nil⟩
  · have hlm : len ≤ m := by rw [hmm]; split <;> omega
    obtain ⟨l, hlen, hp⟩ := list_choose (p := fun i (v : α) => Ok v ∧ ∃ cs, S.rd w (fun b => b < w.heap.size) v cs ∧ ∀ (j : Nat) (u : Value), cs[j]? = some u → w.cell? (a.add (i * S.size + j)) = some u) len (fun i hil => by
      obtain ⟨cs', hc, ht'⟩ := hi i (by omega)
      obtain ⟨v, hv, hr⟩ := h ht'
      obtain ⟨_, hcl, hat⟩ := World.cells?_some hc
      rw [hC] at hcl hat
      refine ⟨v, hv, cs', hr, fun j u hu => ?_⟩
      have hj : j < S.size := by rw [← hcl]; exact (List.getElem?_eq_some_iff.1 hu).1
      have := hat j hj
      rw [add_of_add] at this
      rw [this, hu])
    refine ⟨l, fun x hx => ?_, some a, cap, by rw [hlen], by omega, by simpa [maxLen] using hm, fun hne => ⟨a, rfl, ?_, fun k x hk => (hp k x hk).2⟩⟩
    · obtain ⟨i, hi'⟩ := List.getElem?_of_mem hx
      exact (hp i x hi').1
    · obtain ⟨y, hy⟩ : ∃ y, l[0]? = some y := ⟨_, List.getElem?_eq_getElem (List.length_pos_iff.2 hne)⟩
      obtain ⟨_, cs', hr, hc⟩ := hp 0 y hy
      have hcl := S.len hr
      have := hc 0 (cs'[0]'(by omega)) (List.getElem?_eq_getElem (by omega))
      have := block_lt_of_cell' this
      rwa [block_of_add] at this
/-- the fields from here on, the first at the cell off -/
def FieldsOpen (P : Program) {α : Type} (fs : List Field) (off : Nat) (S : Sh α) (Ok : α → Prop) : Prop :=
  ∀ {H : Type} {enc : TypeId × Value → H} {w : World} {base : Nat} {spare : Nat → Bool} {held : Bool} {n : Nat} {cs : List Value},
    (∀ f ∈ fs, ∃ x, DataW.trod enc P w base spare held n f.type ((cs.drop f.offset).take (P.cellsOf f.type)) = some x) → ∃ v, Ok v ∧ S.rd w (fun b => b < w.heap.size) v ((cs.drop off).take S.size)
theorem fields_last {α : Type} {f : Field} {off : Nat} {S : Sh α} {Ok : α → Prop} (ho : f.offset = off) (hC : P.cellsOf f.type = S.size) (h : Opens P f.type S Ok) : FieldsOpen P [f] off S Ok := by
  intro H enc w base spare held n cs hx
  obtain ⟨x, hx⟩ := hx f (by simp)
  rw [ho, hC] at hx
  exact h hx
theorem fields_cons {α β : Type} {f : Field} {fs : List Field} {off : Nat} {S : Sh α} {T : Sh β} {Ok : α → Prop} {Ok' : β → Prop} (ho : f.offset = off) (hC : P.cellsOf f.type = S.size) (h : Opens P f.type S Ok) (k : FieldsOpen P fs (off + S.size) T Ok') :
    FieldsOpen P (f :: fs) off (S.pair T) (fun p => Ok p.1 ∧ Ok' p.2) := by
  intro H enc w base spare held n cs hx
  obtain ⟨x, hx1⟩ := hx f (by simp)
  rw [ho, hC] at hx1
  obtain ⟨v, hv, hr⟩ := h hx1
  obtain ⟨u, hu, hs⟩ := k fun f' hf' => hx f' (by simp [hf'])
  refine ⟨(v, u), ⟨hv, hu⟩, _, _, ?_, hr, hs⟩
  show (cs.drop off).take (S.size + T.size) = _
  rw [List.take_add, List.drop_drop]
theorem opens_struct {α : Type} {T : TypeId} {fs : Array Field} {S : Sh α} {Ok : α → Prop} (ht : P.underlying T = some (.struct fs)) (hC : P.cellsOf T = S.size) (k : FieldsOpen P fs.toList 0 S Ok) : Opens P T S Ok := by
  intro H enc w base spare held fuel cs x hx
  obtain ⟨xs, n, _, _, hl, hxl, hf⟩ := DataW.trod_struct ht hx
  obtain ⟨v, hv, hr⟩ := k (enc := enc) (w := w) (base := base) (spare := spare) (held := held) (n := n) (cs := cs) fun f hf' => by
    obtain ⟨i, hi⟩ := List.getElem?_of_mem hf'
    have hi' : fs[i]? = some f := by simpa using hi
    have hlt : i < xs.length := by rw [hxl]; exact (Array.getElem?_eq_some_iff.1 hi').1
    exact ⟨_, (hf i f hi').trans (List.getElem?_eq_getElem hlt)⟩
  refine ⟨v, hv, ?_⟩
  rw [List.drop_zero, List.take_of_length_le (by rw [hl, hC]; exact Nat.le_refl _)] at hr
  exact hr
/-- an array of two -/
theorem opens_array2 {α : Type} {T e : TypeId} {S : Sh α} {Ok : α → Prop} (ht : P.underlying T = some (.array 2 e)) (hC : P.cellsOf T = S.size + S.size) (hE : P.cellsOf e = S.size) (h : Opens P e S Ok) : Opens P T (S.pair S) (fun p => Ok p.1 ∧ Ok p.2) := by
  intro H enc w base spare held fuel cs x hx
  obtain ⟨xs, n, _, _, hl, hxl, hf⟩ := DataW.trod_array ht hx
  have h0 := (hf 0 (by omega)).trans (List.getElem?_eq_getElem (by omega))
  have h1 := (hf 1 (by omega)).trans (List.getElem?_eq_getElem (by omega))
  rw [hE] at h0 h1
  obtain ⟨v, hv, hr⟩ := h h0
  obtain ⟨u, hu, hs⟩ := h h1
  refine ⟨(v, u), ⟨hv, hu⟩, _, _, ?_, hr, hs⟩
  simp only [Nat.zero_mul, List.drop_zero, Nat.one_mul]
  rw [← List.take_add, List.take_of_length_le (by rw [hl, hC]; exact Nat.le_refl _)]
end
theorem sh_int {kd : IntKind} {w : World} {R : Nat → Prop} {x : Int} {cs : List Value} (h : (Sh.int kd).rd w R x cs) : cs = [.int kd x] := h
theorem sh_bool {w : World} {R : Nat → Prop} {x : Bool} {cs : List Value} (h : Sh.bool.rd w R x cs) : cs = [.bool x] := h
theorem sh_list {α : Type} {S : Sh α} {w : World} {B : Nat} {xs : List α} {A : Option Addr} {n c : Nat} (h : (Sh.list S).rd w (fun b => b < B) xs [.slice A n c]) : xs.length = n ∧ n ≤ c ∧ c ≤ 9223372036854775807 ∧ Rd S w B A xs := by
  obtain ⟨A', c', e, h1, h2, h3⟩ := h
  injection e with e _
  injection e with e1 e2 e3
  subst e1 e2 e3
  exact ⟨rfl, h1, h2, h3⟩
theorem wf_i64 {n : Int} (h : (Lit.int .i64 n).wf = true) : -9223372036854775808 ≤ n ∧ n ≤ 9223372036854775807 := by
  simp [Lit.wf, IntKind.min, IntKind.max, IntKind.signed, IntKind.bits] at h; omega
theorem wf_i32 {n : Int} (h : (Lit.int .i32 n).wf = true) : -2147483648 ≤ n ∧ n ≤ 2147483647 := by
  simp [Lit.wf, IntKind.min, IntKind.max, IntKind.signed, IntKind.bits] at h; omega
theorem wf_u64 {n : Int} (h : (Lit.int .u64 n).wf = true) : 0 ≤ n ∧ n ≤ 18446744073709551615 := by
  simp [Lit.wf, IntKind.min, IntKind.max, IntKind.signed, IntKind.bits] at h; omega
end Go.Proofs.Ytlnbeeflifmnjac
