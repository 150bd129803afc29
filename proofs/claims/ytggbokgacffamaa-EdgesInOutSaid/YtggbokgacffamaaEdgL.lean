/-
  The package edges: a map that counts ints: its keys. Condition: the numbers are those of int.
-/
import Derived.Test.YtggbokgacffamaaEdgK
import Derived.Maps.Keyed
import Derived.WideKeyEntry
import Derived.WideLaws
import Derived.Carry
namespace Go.Proofs.Ytggbokgacffamaa
open Go.RowKit
open Go.ChangeMaps (setBlock)

theorem intKeyed : Maps.Keyed Try.prog 3 := Maps.int_keyed Try.underlying3
theorem int_key {x : Int} (h : -9223372036854775808 ≤ x ∧ x ≤ 9223372036854775807) : keyOf Try.prog 3 (.int .i64 x) = some (.int .i64 x) :=
  Maps.keyOf_int_mk Try.underlying3 (by simp only [Lit.wf, Bool.and_eq_true, decide_eq_true_eq]; exact h)
theorem intV_inj {a b : Int} (h : Value.int .i64 a = Value.int .i64 b) : a = b := by injection h
/-- a map's keys are the elements of a list -/
structure IM (es : Array MapEntry) (l : List Int) : Prop where
  keys : ∀ e ∈ es.toList, ∃ x v, x ∈ l ∧ (-9223372036854775808 ≤ x ∧ x ≤ 9223372036854775807) ∧ e.key = .int .i64 x ∧ e.val = .int .i64 v
  all : ∀ x ∈ l, ∃ e ∈ es.toList, e.key = .int .i64 x
  nod : (es.toList.map (·.key)).Nodup
theorem IM.start : IM #[] [] := ⟨fun e h => by simp at h, fun h hh => by simp at hh, by simp⟩
theorem sub_len {α : Type} [DecidableEq α] : ∀ (a b : List α), a.Nodup → (∀ x ∈ a, x ∈ b) → a.length ≤ b.length
  | [], _, _, _ => Nat.zero_le _
  | x :: a, b, h, hs => by
    have hx := hs x (List.mem_cons_self ..)
    have := sub_len a (b.erase x) (List.nodup_cons.1 h).2 fun y hy => by
      have hne : y ≠ x := fun e => (List.nodup_cons.1 h).1 (e ▸ hy)
      exact (List.mem_erase_of_ne hne).2 (hs y (List.mem_cons_of_mem _ hy))
    rw [List.length_erase_of_mem hx] at this
    have := List.length_pos_of_mem hx
    simp only [List.length_cons]; omega
theorem nodup_len {α : Type} [DecidableEq α] (a b : List α) (h : a.Nodup) (hs : ∀ x, x ∈ a ↔ x ∈ b) : a.length = b.length ↔ b.Nodup := by
  constructor
  · intro hl
    induction b generalizing a with
    | nil => exact List.nodup_nil
    | cons y b ih =>
      have hy := (hs y).2 (List.mem_cons_self ..)
      by_cases hb : y ∈ b
      · have := sub_len a b h fun x hx => by
          rcases List.mem_cons.1 ((hs x).1 hx) with rfl | h'
          · exact hb
          · exact h'
        simp only [List.length_cons] at hl; omega
      · refine List.nodup_cons.2 ⟨hb, ih (a.erase y) (h.erase _) (fun x => ?_) (by rw [List.length_erase_of_mem hy, hl]; simp)⟩
        rw [h.mem_erase_iff, hs, List.mem_cons]
        constructor
        · rintro ⟨h1, h2 | h2⟩
          · exact (h1 h2).elim
          · exact h2
        · intro h1
          exact ⟨fun e => hb (e ▸ h1), .inr h1⟩
  · intro hb
    have := sub_len a b h fun x hx => (hs x).1 hx
    have := sub_len b a hb fun x hx => (hs x).2 hx
    omega
section
variable {w : World} {b : Nat} {es : Array MapEntry} {clock : Nat} {l : List Int} {x : Int}
theorem IM.size (M : IM es l) : es.size = l.length ↔ l.Nodup := by
  have h1 : (es.toList.map (fun e => intOf e.key)).Nodup := by
    refine List.pairwise_map.2 ((List.pairwise_map.1 M.nod).imp_of_mem fun {a c} ha hc hne e => hne ?_)
    obtain ⟨x, _, _, _, e1, _⟩ := M.keys a ha
    obtain ⟨y, _, _, _, e2, _⟩ := M.keys c hc
    rw [e1, e2] at e
    rw [e1, e2, show x = y from e]
  rw [← nodup_len _ l h1 fun x => ?_]
  · simp
  · rw [List.mem_map]
    constructor
    · rintro ⟨e, he, rfl⟩
      obtain ⟨x, _, hx, _, e1, _⟩ := M.keys e he
      rw [e1]; exact hx
    · intro hx
      obtain ⟨e, he, e1⟩ := M.all x hx
      exact ⟨e, he, by rw [e1]; rfl⟩
theorem IM.find (M : IM es l) (hw : -9223372036854775808 ≤ x ∧ x ≤ 9223372036854775807) (w : World) :
    ((Instr.findKey 3 (.int .i64 x) es.toList).run Try.prog w = .ok none w ∧ (∀ e ∈ es.toList, e.key ≠ .int .i64 x)) ∨
    ∃ (j : Nat) (e : MapEntry) (v : Int), (Instr.findKey 3 (.int .i64 x) es.toList).run Try.prog w = .ok (some (j, e.val)) w ∧ es.toList[j]? = some e ∧ e.key = .int .i64 x ∧ e.val = .int .i64 v := by
  rcases intKeyed.find w (int_key hw) es.toList (fun e he => by
    obtain ⟨x', v', _, hw', e1, _⟩ := M.keys e he
    rw [e1]; exact ⟨_, int_key hw'⟩) with ⟨h1, h2⟩ | ⟨j, e0, h1, h2, h3⟩
  · exact .inl ⟨h1, h2⟩
  · obtain ⟨_, v, _, _, _, e2⟩ := M.keys e0 (List.mem_of_getElem? h2)
    exact .inr ⟨j, e0, v, h1, h2, h3, e2⟩
theorem IM.look (M : IM es l) (hw : -9223372036854775808 ≤ x ∧ x ≤ 9223372036854775807) (hb : w.heap[b]? = some (.map es clock)) :
    ∃ v : Int, (Instr.lookup 55 (.map (some b)) (.int .i64 x) false).run Try.prog w = .ok (.int .i64 v) w := by
  have hz : ∀ u : World, (zeroValue 3).run Try.prog u = .ok (.int .i64 0) u := fun u => by kernel_rfl
  rcases M.find hw w with ⟨h1, _⟩ | ⟨j, e0, v, h1, _, _, h4⟩
  · exact ⟨0, by simp [Instr.lookup, run_underlying Try.underlying55, MapKept.run_getObj_map hb, intKeyed.check w _ (int_key hw), h1, hz, Result.andThen]⟩
  · exact ⟨v, by simp [Instr.lookup, run_underlying Try.underlying55, MapKept.run_getObj_map hb, intKeyed.check w _ (int_key hw), h1, h4, Result.andThen]⟩
theorem IM.put (M : IM es l) (hw : -9223372036854775808 ≤ x ∧ x ≤ 9223372036854775807) (hb : w.heap[b]? = some (.map es clock)) (v : Int) :
    ∃ (es1 : Array MapEntry) (clock1 : Nat), (Instr.mapUpdate 55 (.map (some b)) (.int .i64 x) (.int .i64 v)).run Try.prog w = .ok () (setBlock w b (.map es1 clock1)) ∧ IM es1 (l ++ [x]) := by
  rcases M.find hw w with ⟨h1, h2⟩ | ⟨j, e0, v0, h1, h2, h3, h4⟩
  · refine ⟨es.push ⟨.int .i64 x, .int .i64 v, clock⟩, clock + 1, ?_, ⟨fun e he => ?_, fun h' hh => ?_, ?_⟩⟩
    · simp [Instr.mapUpdate, run_underlying Try.underlying55, MapKept.run_getObj_map hb, intKeyed.check w false (int_key hw), h1, MapKept.run_setObj_map _ hb, Result.andThen, setBlock]
    · simp only [Array.toList_push, List.mem_append, List.mem_singleton] at he
      rcases he with he | rfl
      · obtain ⟨x', v', h1, h2, h3⟩ := M.keys e he
        exact ⟨x', v', by simp [h1], h2, h3⟩
      · exact ⟨x, v, by simp, hw, rfl, rfl⟩
    · rcases List.mem_append.1 hh with hh | hh
      · obtain ⟨e, he, hk⟩ := M.all h' hh
        exact ⟨e, by simp [he], hk⟩
      · rw [List.mem_singleton.1 hh]
        exact ⟨⟨.int .i64 x, .int .i64 v, clock⟩, by simp, rfl⟩
    · simp only [Array.toList_push, List.map_append, List.map_cons, List.map_nil]
      refine List.nodup_append.2 ⟨M.nod, by simp, fun a ha c hc e1 => ?_⟩
      simp only [List.mem_singleton] at hc
      obtain ⟨y, hy, rfl⟩ := List.mem_map.1 ha
      exact h2 y hy (e1.trans hc)
  · have hj : es[j]? = some e0 := by simpa using h2
    have hkk : (es.modify j (fun e => { e with key := .int .i64 x, val := .int .i64 v })).toList = es.toList.set j { e0 with key := .int .i64 x, val := .int .i64 v } := by
      rw [Array.toList_modify, ChangeMaps.modify_eq_set _ _ _ _ h2]
    have hjl : j < es.toList.length := (List.getElem?_eq_some_iff.1 h2).1
    refine ⟨es.modify j (fun e => { e with key := .int .i64 x, val := .int .i64 v }), clock, ?_, ⟨fun e he => ?_, fun y hy => ?_, ?_⟩⟩
    · simp [Instr.mapUpdate, run_underlying Try.underlying55, MapKept.run_getObj_map hb, intKeyed.check w false (int_key hw), h1, hj, h3, intKeyed.stays w (int_key hw), MapKept.run_setObj_map _ hb, Result.andThen, setBlock]
    · rw [hkk] at he
      rcases List.mem_or_eq_of_mem_set he with he | rfl
      · obtain ⟨x', v', h1, h2, h3⟩ := M.keys e he
        exact ⟨x', v', by simp [h1], h2, h3⟩
      · exact ⟨x, v, by simp, hw, rfl, rfl⟩
    · have hm : ∃ e ∈ es.toList, e.key = .int .i64 y := by
        rcases List.mem_append.1 hy with hm | hm
        · exact M.all y hm
        · rw [List.mem_singleton.1 hm]; exact ⟨e0, List.mem_of_getElem? h2, h3⟩
      obtain ⟨e, he, hek⟩ := hm
      obtain ⟨i, hi⟩ := List.getElem?_of_mem he
      rw [hkk]
      by_cases e1 : j = i
      · subst e1
        rw [h2] at hi
        injection hi with hi
        subst hi
        exact ⟨_, List.mem_of_getElem? (i := j) (by rw [List.getElem?_set, if_pos rfl, if_pos hjl]), by rw [← hek, h3]⟩
      · exact ⟨e, List.mem_of_getElem? (i := i) (by rw [List.getElem?_set, if_neg e1]; exact hi), hek⟩
    · rw [hkk, List.map_set, show (({ e0 with key := .int .i64 x, val := .int .i64 v } : MapEntry).key) = e0.key from h3.symm, WideElems.set_self _ _ _ (by rw [List.getElem?_map, h2]; rfl)]
      exact M.nod
end
/-- a map that has just these keys lies at a block -/
def MapAtI (w : World) (b : Nat) (l : List Int) : Prop := ∃ es clock, w.heap[b]? = some (.map es clock) ∧ IM es l
theorem MapAtI.below {w w' : World} {B b : Nat} {l : List Int} (h : MapAtI w b l) (hb : Below B w w') (hB : b < B) : MapAtI w' b l := by
  obtain ⟨es, clock, h1, h2⟩ := h
  exact ⟨es, clock, (hb.block b hB).trans h1, h2⟩
theorem MapAtI.lt {w : World} {b : Nat} {l : List Int} (h : MapAtI w b l) : b < w.heap.size := by
  obtain ⟨es, clock, h1, _⟩ := h
  exact (Array.getElem?_eq_some_iff.1 h1).1
theorem MapAtI.look {w : World} {b : Nat} {l : List Int} (h : MapAtI w b l) {x : Int} (hw : -9223372036854775808 ≤ x ∧ x ≤ 9223372036854775807) : ∃ v : Int, (Instr.lookup 55 (.map (some b)) (.int .i64 x) false).run Try.prog w = .ok (.int .i64 v) w := by
  obtain ⟨es, clock, h1, h2⟩ := h
  exact h2.look hw h1
theorem setBlock_belowI {B : Nat} {a w : World} {b : Nat} {es : Array MapEntry} {clock : Nat} (h : Below B a w) (hb : w.heap[b]? = some (.map es clock)) (hB : B ≤ b) (o : Obj) : Below B a (setBlock w b o) :=
  ⟨h.os, h.tape, h.output, by simpa [setBlock] using h.size, fun k hk => (ChangeMaps.heap_setBlock_other hb o (by omega)).trans (h.block k hk)⟩
theorem MapAtI.put {w : World} {b : Nat} {l : List Int} (h : MapAtI w b l) {x : Int} (hw : -9223372036854775808 ≤ x ∧ x ≤ 9223372036854775807) (v : Int) : ∃ w' : World,
    (Instr.mapUpdate 55 (.map (some b)) (.int .i64 x) (.int .i64 v)).run Try.prog w = .ok () w' ∧ MapAtI w' b (l ++ [x]) ∧ Below b w w' := by
  obtain ⟨es, clock, h1, h2⟩ := h
  obtain ⟨es1, clock1, e1, M1⟩ := h2.put hw h1 v
  exact ⟨_, e1, ⟨_, _, ChangeMaps.heap_setBlock_same h1 _, M1⟩, setBlock_belowI (Below.refl b w) h1 (Nat.le_refl _) _⟩
theorem MapAtI.len {w : World} {b : Nat} {l : List Int} (h : MapAtI w b l) (ty : TypeId) : ∃ m : Nat, (Builtin.len_ #[55] ty #[.map (some b)]).run Try.prog w = .ok (.int .i64 m) w ∧ (m = l.length ↔ l.Nodup) := by
  obtain ⟨es, clock, h1, h2⟩ := h
  exact ⟨es.size, run_len_map (P := Try.prog) w 55 ty b es clock (by kernel_rfl) h1, h2.size⟩
end Go.Proofs.Ytggbokgacffamaa
