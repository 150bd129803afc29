/-
  Maps with keys of an integer kind, as lists of pairs in the order in which they were laid: look-up, store, delete, length, range. No condition.
-/
import Derived.Test.YtgiplahhalgbdaaGreatLib2
import Derived.Maps.Keyed
import Derived.Maps.RangeWalk
import Derived.WideKeyEntry
import Derived.WideLaws
import Derived.Carry
namespace Go.Proofs.YtgiplahhalgbdaaGreat
open Go.RowKit
open Go.ChangeMaps (setBlock)

section
variable {β : Type}
/-- what a key has -/
def lookF (m : List (Int × β)) (k : Int) : Option β := (m.find? (fun p => p.1 == k)).map (·.2)
/-- a key has v -/
def putF (m : List (Int × β)) (k : Int) (v : β) : List (Int × β) := if (lookF m k).isSome then m.map (fun p => if p.1 == k then (k, v) else p) else m ++ [(k, v)]
/-- a key has nothing -/
def dropF (m : List (Int × β)) (k : Int) : List (Int × β) := m.filter (fun p => !(p.1 == k))
def KeysOk (kd : IntKind) (m : List (Int × β)) : Prop := (∀ p ∈ m, (Lit.int kd p.1).wf = true) ∧ (m.map (·.1)).Nodup
theorem lookF_none {m : List (Int × β)} {k : Int} (h : ∀ p ∈ m, p.1 ≠ k) : lookF m k = none := by
  unfold lookF
  rw [List.find?_eq_none.2 (fun p hp => by simpa using h p hp)]; rfl
theorem lookF_none_iff {m : List (Int × β)} {k : Int} : lookF m k = none ↔ ∀ p ∈ m, p.1 ≠ k := by
  constructor
  · intro h p hp
    unfold lookF at h
    rw [Option.map_eq_none_iff, List.find?_eq_none] at h
    simpa using h p hp
  · exact lookF_none
theorem lookF_at {m : List (Int × β)} (hn : (m.map (·.1)).Nodup) {k : Int} {v : β} (h : (k, v) ∈ m) : lookF m k = some v := by
  induction m with
  | nil => simp at h
  | cons p m ih =>
    rw [List.map_cons, List.nodup_cons] at hn
    unfold lookF
    rw [List.find?_cons]
    by_cases e : p.1 = k
    · simp only [e, beq_self_eq_true]
      rcases List.mem_cons.1 h with rfl | h'
      · rfl
      · exact absurd (List.mem_map.2 ⟨(k, v), h', e.symm⟩ : p.1 ∈ m.map (·.1)) hn.1
    · rw [show (p.1 == k) = false by simpa using e]
      rcases List.mem_cons.1 h with rfl | h'
      · exact absurd rfl e
      · exact ih hn.2 h'
theorem lookF_mem {m : List (Int × β)} {k : Int} {v : β} (h : lookF m k = some v) : (k, v) ∈ m := by
  unfold lookF at h
  rw [Option.map_eq_some_iff] at h
  obtain ⟨⟨a, b⟩, h1, rfl⟩ := h
  have := List.find?_some h1
  have e : a = k := by simpa using this
  exact e ▸ List.mem_of_find?_eq_some h1
theorem lookF_iff {m : List (Int × β)} (hn : (m.map (·.1)).Nodup) {k : Int} {v : β} : lookF m k = some v ↔ (k, v) ∈ m := ⟨lookF_mem, lookF_at hn⟩
theorem lookF_perm {m l : List (Int × β)} (hn : (m.map (·.1)).Nodup) (hp : m.Perm l) (k : Int) : lookF m k = lookF l k := by
  have hl := (hp.map (·.1)).nodup_iff.1 hn
  rcases h : lookF m k with _ | v
  · exact (lookF_none fun p hpl => lookF_none_iff.1 h p (hp.mem_iff.2 hpl)).symm
  · exact (lookF_at hl (hp.mem_iff.1 (lookF_mem h))).symm
theorem mapset_eq {m : List (Int × β)} (hn : (m.map (·.1)).Nodup) {j : Nat} {k : Int} {v0 : β} (h : m[j]? = some (k, v0)) (v : β) : m.set j (k, v) = m.map (fun p => if p.1 == k then (k, v) else p) := by
  have hj : j < m.length := (List.getElem?_eq_some_iff.1 h).1
  have hjv : m[j] = (k, v0) := (List.getElem?_eq_some_iff.1 h).2
  apply List.ext_getElem
  · simp
  · intro i h1 h2
    simp only [List.getElem_set, List.getElem_map]
    by_cases e : j = i
    · subst e; rw [if_pos rfl, hjv]; simp
    · rw [if_neg e]
      have hi : i < m.length := by simpa using h1
      have : m[i].1 ≠ k := fun e1 => e (by
        have h3 : (m.map (·.1))[i]'(by simpa using hi) = (m.map (·.1))[j]'(by simpa using hj) := by simp [hjv, e1]
        exact ((List.getElem_inj hn).1 h3).symm)
      rw [show (m[i].1 == k) = false by simpa using this]; rfl
theorem maperase_eq : ∀ {m : List (Int × β)}, (m.map (·.1)).Nodup → ∀ {j : Nat} {k : Int} {v0 : β}, m[j]? = some (k, v0) → m.eraseIdx j = dropF m k
  | [], _, j, k, v0, h => by simp at h
  | p :: m, hn, j, k, v0, h => by
    rw [List.map_cons, List.nodup_cons] at hn
    rcases j with _ | j
    · simp only [List.getElem?_cons_zero, Option.some.injEq] at h
      subst h
      unfold dropF
      rw [List.eraseIdx_cons_zero, List.filter_cons]
      simp only [beq_self_eq_true, Bool.not_true, Bool.false_eq_true, if_false]
      exact (List.filter_eq_self.2 fun q hq => by
        have : q.1 ≠ k := fun e => hn.1 (e ▸ List.mem_map.2 ⟨q, hq, rfl⟩)
        simpa using this).symm
    · simp only [List.getElem?_cons_succ] at h
      have hne : p.1 ≠ k := fun e => hn.1 (by rw [e]; exact List.mem_map.2 ⟨_, List.mem_of_getElem? h, rfl⟩)
      have ih := maperase_eq hn.2 h
      unfold dropF at ih ⊢
      rw [List.eraseIdx_cons_succ, List.filter_cons, ih]
      simp [hne]
theorem KeysOk.put {kd : IntKind} {m : List (Int × β)} (h : KeysOk kd m) {k : Int} (hw : (Lit.int kd k).wf = true) (v : β) : KeysOk kd (putF m k v) := by
  unfold putF
  by_cases e : (lookF m k).isSome = true
  · rw [if_pos e]
    have e1 : (m.map (fun p => if p.1 == k then (k, v) else p)).map (·.1) = m.map (·.1) := by
      rw [List.map_map]
      refine List.map_congr_left fun p _ => ?_
      by_cases e2 : p.1 = k
      · simp [e2]
      · simp [e2]
    refine ⟨fun p hp => ?_, by rw [e1]; exact h.2⟩
    obtain ⟨q, hq, rfl⟩ := List.mem_map.1 hp
    by_cases e2 : q.1 = k
    · simp [e2, hw]
    · simp [e2, h.1 q hq]
  · rw [if_neg e]
    have e1 : lookF m k = none := by simpa using e
    refine ⟨fun p hp => ?_, ?_⟩
    · rcases List.mem_append.1 hp with hp | hp
      · exact h.1 p hp
      · rw [List.mem_singleton.1 hp]; exact hw
    · rw [List.map_append]
      refine List.nodup_append.2 ⟨h.2, by simp, fun a ha c hc e2 => ?_⟩
      obtain ⟨q, hq, rfl⟩ := List.mem_map.1 ha
      simp only [List.map_cons, List.map_nil, List.mem_singleton] at hc
      exact lookF_none_iff.1 e1 q hq (e2.trans hc)
theorem KeysOk.drop {kd : IntKind} {m : List (Int × β)} (h : KeysOk kd m) (k : Int) : KeysOk kd (dropF m k) :=
  ⟨fun p hp => h.1 p (List.mem_filter.1 hp).1, h.2.sublist (List.filter_sublist.map _)⟩
theorem KeysOk.nil {kd : IntKind} : KeysOk kd ([] : List (Int × β)) := ⟨by simp, by simp⟩
theorem lookF_nil (k : Int) : lookF ([] : List (Int × β)) k = none := rfl
theorem lookF_append (m l : List (Int × β)) (k : Int) : lookF (m ++ l) k = (lookF m k).or (lookF l k) := by
  unfold lookF
  rw [List.find?_append]
  cases m.find? (fun p => p.1 == k) <;> simp
theorem lookF_cons (p : Int × β) (m : List (Int × β)) (k : Int) : lookF (p :: m) k = if p.1 == k then some p.2 else lookF m k := by
  unfold lookF
  rw [List.find?_cons]
  by_cases e : p.1 == k <;> simp [e]
theorem lookF_put (m : List (Int × β)) (k : Int) (v : β) (x : Int) : lookF (putF m k v) x = if x = k then some v else lookF m x := by
  unfold putF
  by_cases e : (lookF m k).isSome = true
  · rw [if_pos e]
    induction m with
    | nil => simp [lookF] at e
    | cons p m ih =>
      rw [List.map_cons, lookF_cons, lookF_cons]
      by_cases e1 : p.1 = k
      · have hx : ∀ x, x ≠ k → lookF (m.map (fun p => if p.1 == k then (k, v) else p)) x = lookF m x := by
          intro x hx
          clear ih e
          induction m with
          | nil => rfl
          | cons q m ih =>
            rw [List.map_cons, lookF_cons, lookF_cons, ih]
            by_cases e2 : q.1 = k
            · simp [e2, Ne.symm hx]
            · simp [e2]
        by_cases e3 : x = k
        · subst e3; simp [e1]
        · rw [if_neg e3]
          simp only [e1, beq_self_eq_true, if_true]
          have : (k == x) = false := by simpa using (Ne.symm e3)
          simp only [this, Bool.false_eq_true, if_false]
          exact hx x e3
      · have e' : (lookF m k).isSome = true := by
          rw [lookF_cons, show (p.1 == k) = false by simpa using e1] at e
          simpa using e
        rw [ih e']
        by_cases e3 : x = k
        · subst e3; simp [e1]
        · simp [e1, e3]
  · rw [if_neg e, lookF_append, lookF_cons]
    have e1 : lookF m k = none := by simpa using e
    by_cases e3 : x = k
    · subst e3; simp [e1]
    · have : (k == x) = false := by simpa using (Ne.symm e3)
      simp only [this, Bool.false_eq_true, if_false, lookF_nil, e3]
      simp
theorem lookF_drop (m : List (Int × β)) (k x : Int) : lookF (dropF m k) x = if x = k then none else lookF m x := by
  unfold dropF
  induction m with
  | nil => simp [lookF]
  | cons p m ih =>
    rw [List.filter_cons, lookF_cons]
    by_cases e1 : p.1 = k
    · simp only [e1, beq_self_eq_true, Bool.not_true, Bool.false_eq_true, if_false, ih]
      by_cases e3 : x = k
      · simp [e3]
      · have : (k == x) = false := by simpa using (Ne.symm e3)
        simp [e3, this]
    · simp only [show (p.1 == k) = false by simpa using e1, Bool.not_false, if_true, lookF_cons, ih]
      by_cases e3 : x = k
      · subst e3; simp [e1]
      · simp [e3]
theorem dropF_len {m : List (Int × β)} (hn : (m.map (·.1)).Nodup) {k : Int} {v : β} (h : lookF m k = some v) : (dropF m k).length + 1 = m.length := by
  obtain ⟨j, hj⟩ := List.getElem?_of_mem (lookF_mem h)
  rw [← maperase_eq hn hj, List.length_eraseIdx_of_lt (List.getElem?_eq_some_iff.1 hj).1]
  have := (List.getElem?_eq_some_iff.1 hj).1
  omega
end

/-- a map's entries: pairs, in the order in which they were laid -/
structure ME {β : Type} (kd : IntKind) (enc : β → Value) (es : Array MapEntry) (clock : Nat) (m : List (Int × β)) : Prop where
  eq : es.toList.map (fun e => (e.key, e.val)) = m.map (fun p => (Value.int kd p.1, enc p.2))
  ok : KeysOk kd m
  born : (es.toList.map (·.born)).Nodup
  old : ∀ e ∈ es.toList, e.born < clock
section
variable {β : Type} {kd : IntKind} {enc : β → Value} {es : Array MapEntry} {clock : Nat} {m : List (Int × β)}
theorem ME.start : ME kd enc #[] 0 [] := ⟨rfl, KeysOk.nil, by simp, by simp⟩
theorem ME.size (M : ME kd enc es clock m) : es.size = m.length := by
  have := congrArg List.length M.eq
  simpa using this
theorem ME.at_ (M : ME kd enc es clock m) {j : Nat} {e : MapEntry} (h : es.toList[j]? = some e) : ∃ x v, m[j]? = some (x, v) ∧ e.key = .int kd x ∧ e.val = enc v := by
  have h1 : (es.toList.map (fun e => (e.key, e.val)))[j]? = some (e.key, e.val) := by rw [List.getElem?_map, h]; rfl
  rw [M.eq, List.getElem?_map, Option.map_eq_some_iff] at h1
  obtain ⟨⟨x, v⟩, h2, h3⟩ := h1
  injection h3 with h3 h4
  exact ⟨x, v, h2, h3.symm, h4.symm⟩
theorem ME.mem (M : ME kd enc es clock m) {e : MapEntry} (h : e ∈ es.toList) : ∃ x v, (x, v) ∈ m ∧ e.key = .int kd x ∧ e.val = enc v := by
  obtain ⟨j, hj⟩ := List.getElem?_of_mem h
  obtain ⟨x, v, h1, h2⟩ := M.at_ hj
  exact ⟨x, v, List.mem_of_getElem? h1, h2⟩
theorem ME.has (M : ME kd enc es clock m) {j : Nat} {x : Int} {v : β} (h : m[j]? = some (x, v)) : ∃ e, es.toList[j]? = some e ∧ e.key = .int kd x ∧ e.val = enc v := by
  have h1 : (m.map (fun p => (Value.int kd p.1, enc p.2)))[j]? = some (Value.int kd x, enc v) := by rw [List.getElem?_map, h]; rfl
  rw [← M.eq, List.getElem?_map, Option.map_eq_some_iff] at h1
  obtain ⟨e, h2, h3⟩ := h1
  injection h3 with h3 h4
  exact ⟨e, h2, h3, h4⟩
variable {P : Program} {kT eT mT : TypeId}
theorem ME.find (M : ME kd enc es clock m) (hk : P.underlying kT = some (.int kd)) {x : Int} (hw : (Lit.int kd x).wf = true) (w : World) :
    ((Instr.findKey kT (.int kd x) es.toList).run P w = .ok none w ∧ lookF m x = none) ∨
    ∃ (j : Nat) (e : MapEntry) (v : β), (Instr.findKey kT (.int kd x) es.toList).run P w = .ok (some (j, enc v)) w ∧ es.toList[j]? = some e ∧ e.key = .int kd x ∧ m[j]? = some (x, v) ∧ lookF m x = some v := by
  rcases (Maps.int_keyed hk).find w (Maps.keyOf_int_mk hk hw) es.toList (fun e he => by
    obtain ⟨x', v', h1, e1, _⟩ := M.mem he
    rw [e1]; exact ⟨_, Maps.keyOf_int_mk hk (M.ok.1 _ h1)⟩) with ⟨h1, h2⟩ | ⟨j, e0, h1, h2, h3⟩
  · refine .inl ⟨h1, lookF_none fun p hp e1 => ?_⟩
    obtain ⟨j, hj⟩ := List.getElem?_of_mem hp
    obtain ⟨e, h4, h5, _⟩ := M.has (x := p.1) (v := p.2) hj
    exact h2 e (List.mem_of_getElem? h4) (by rw [h5, e1])
  · obtain ⟨x', v, h4, h5, h6⟩ := M.at_ h2
    rw [h3] at h5
    injection h5 with _ h5
    subst h5
    exact .inr ⟨j, e0, v, by rw [h1, h6], h2, h3, h4, lookF_at M.ok.2 (List.mem_of_getElem? h4)⟩
end

/-- a map lies at a block -/
def MapA {β : Type} (kd : IntKind) (enc : β → Value) (w : World) (b : Nat) (m : List (Int × β)) : Prop := ∃ es clock, w.heap[b]? = some (.map es clock) ∧ ME kd enc es clock m
section
variable {β : Type} {kd : IntKind} {enc : β → Value} {w w' : World} {b : Nat} {m : List (Int × β)} {P : Program} {kT eT mT : TypeId}
theorem MapA.new (w : World) : MapA kd enc (w.alloc (.map #[] 0)) w.heap.size ([] : List (Int × β)) := ⟨_, _, heap_alloc_new _ _, ME.start⟩
theorem MapA.below {B : Nat} (h : MapA kd enc w b m) (hb : Below B w w') (hB : b < B) : MapA kd enc w' b m := by
  obtain ⟨es, clock, h1, h2⟩ := h
  exact ⟨es, clock, (hb.block b hB).trans h1, h2⟩
theorem MapA.block (h : MapA kd enc w b m) (hb : w'.heap[b]? = w.heap[b]?) : MapA kd enc w' b m := by
  obtain ⟨es, clock, h1, h2⟩ := h
  exact ⟨es, clock, hb.trans h1, h2⟩
theorem MapA.lt (h : MapA kd enc w b m) : b < w.heap.size := by
  obtain ⟨es, clock, h1, _⟩ := h
  exact (Array.getElem?_eq_some_iff.1 h1).1
theorem MapA.ok (h : MapA kd enc w b m) : KeysOk kd m := by
  obtain ⟨es, clock, _, h2⟩ := h
  exact h2.ok
theorem MapA.look (h : MapA kd enc w b m) (hk : P.underlying kT = some (.int kd)) (ht : P.underlying mT = some (.map kT eT)) {d : β} (hz : ∀ u : World, (zeroValue eT).run P u = .ok (enc d) u) {x : Int} (hw : (Lit.int kd x).wf = true) :
    (Instr.lookup mT (.map (some b)) (.int kd x) false).run P w = .ok (enc ((lookF m x).getD d)) w := by
  obtain ⟨es, clock, h1, M⟩ := h
  have hc := fun em => (Maps.int_keyed hk).check w em (Maps.keyOf_int_mk hk hw)
  rcases M.find hk hw w with ⟨h2, h3⟩ | ⟨j, e0, v, h2, _, _, _, h5⟩
  · simp [Instr.lookup, run_underlying ht, MapKept.run_getObj_map h1, hc, h2, hz, Result.andThen, h3]
  · simp [Instr.lookup, run_underlying ht, MapKept.run_getObj_map h1, hc, h2, Result.andThen, h5]
theorem MapA.lookOk (h : MapA kd enc w b m) (hk : P.underlying kT = some (.int kd)) (ht : P.underlying mT = some (.map kT eT)) {d : β} (hz : ∀ u : World, (zeroValue eT).run P u = .ok (enc d) u) {x : Int} (hw : (Lit.int kd x).wf = true) :
    (Instr.lookup mT (.map (some b)) (.int kd x) true).run P w = .ok (.tuple #[enc ((lookF m x).getD d), .bool (lookF m x).isSome]) w := by
  obtain ⟨es, clock, h1, M⟩ := h
  have hc := fun em => (Maps.int_keyed hk).check w em (Maps.keyOf_int_mk hk hw)
  rcases M.find hk hw w with ⟨h2, h3⟩ | ⟨j, e0, v, h2, _, _, _, h5⟩
  · simp [Instr.lookup, run_underlying ht, MapKept.run_getObj_map h1, hc, h2, hz, Result.andThen, h3]
  · simp [Instr.lookup, run_underlying ht, MapKept.run_getObj_map h1, hc, h2, Result.andThen, h5]
theorem MapA.len (h : MapA kd enc w b m) (ht : P.underlying mT = some (.map kT eT)) (ty : TypeId) : (Builtin.len_ #[mT] ty #[.map (some b)]).run P w = .ok (.int .i64 m.length) w := by
  obtain ⟨es, clock, h1, M⟩ := h
  rw [← M.size]
  simp [Builtin.len_, run_underlying ht, MapKept.run_getObj_map h1, goInt]
/-- what a store into a map's block leaves -/
def MapPut (w w' : World) (b : Nat) : Prop := w'.os = w.os ∧ w'.tape = w.tape ∧ w'.output = w.output ∧ w'.heap.size = w.heap.size ∧ ∀ i, i ≠ b → w'.heap[i]? = w.heap[i]?
theorem MapPut.below {B : Nat} {a : World} (h : MapPut w w' b) (hb : Below B a w) (hB : B ≤ b) : Below B a w' :=
  ⟨h.1.trans hb.os, h.2.1.trans hb.tape, h.2.2.1.trans hb.output, by rw [h.2.2.2.1]; exact hb.size, fun k hk => (h.2.2.2.2 k (by omega)).trans (hb.block k hk)⟩
theorem MapPut.size (h : MapPut w w' b) : w'.heap.size = w.heap.size := h.2.2.2.1
theorem MapPut.cell (h : MapPut w w' b) {p : Addr} (hp : p.block ≠ b) : w'.cell? p = w.cell? p := World.cell?_of_block (h.2.2.2.2 _ hp)
theorem mapPut_set {es0 : Array MapEntry} {c0 : Nat} (hb : w.heap[b]? = some (.map es0 c0)) (o : Obj) : MapPut w (setBlock w b o) b :=
  ⟨rfl, rfl, rfl, by simp [setBlock], fun i hi => ChangeMaps.heap_setBlock_other hb o hi⟩
theorem MapA.put (h : MapA kd enc w b m) (hk : P.underlying kT = some (.int kd)) (ht : P.underlying mT = some (.map kT eT)) {x : Int} (hw : (Lit.int kd x).wf = true) (v : β) : ∃ w' : World,
    (Instr.mapUpdate mT (.map (some b)) (.int kd x) (enc v)).run P w = .ok () w' ∧ MapA kd enc w' b (putF m x v) ∧ MapPut w w' b := by
  obtain ⟨es, clock, h1, M⟩ := h
  have hc := fun em => (Maps.int_keyed hk).check w em (Maps.keyOf_int_mk hk hw)
  rcases M.find hk hw w with ⟨h2, h3⟩ | ⟨j, e0, v0, h2, h3, h4, h5, h6⟩
  · refine ⟨setBlock w b (.map (es.push ⟨.int kd x, enc v, clock⟩) (clock + 1)), ?_, ⟨_, _, ChangeMaps.heap_setBlock_same h1 _, ⟨?_, M.ok.put hw v, ?_, ?_⟩⟩, mapPut_set h1 _⟩
    · simp [Instr.mapUpdate, run_underlying ht, MapKept.run_getObj_map h1, hc, h2, MapKept.run_setObj_map _ h1, Result.andThen, setBlock]
    · unfold putF
      rw [h3]
      simp only [Option.isSome_none, Bool.false_eq_true, if_false, Array.toList_push, List.map_append, M.eq]
      rfl
    · simp only [Array.toList_push, List.map_append, List.map_cons, List.map_nil]
      refine List.nodup_append.2 ⟨M.born, by simp, fun a ha c hc e1 => ?_⟩
      simp only [List.mem_singleton] at hc
      obtain ⟨y, hy, rfl⟩ := List.mem_map.1 ha
      have := M.old y hy
      omega
    · intro e he
      simp only [Array.toList_push, List.mem_append, List.mem_singleton] at he
      rcases he with he | rfl
      · have := M.old e he; omega
      · exact Nat.lt_succ_self _
  · have hj : es[j]? = some e0 := by simpa using h3
    have hkk : (es.modify j (fun e => { e with key := .int kd x, val := enc v })).toList = es.toList.set j { e0 with key := .int kd x, val := enc v } := by
      rw [Array.toList_modify, ChangeMaps.modify_eq_set _ _ _ _ h3]
    refine ⟨setBlock w b (.map (es.modify j (fun e => { e with key := .int kd x, val := enc v })) clock), ?_, ⟨_, _, ChangeMaps.heap_setBlock_same h1 _, ⟨?_, M.ok.put hw v, ?_, ?_⟩⟩, mapPut_set h1 _⟩
    · simp [Instr.mapUpdate, run_underlying ht, MapKept.run_getObj_map h1, hc, h2, hj, h4, (Maps.int_keyed hk).stays w (Maps.keyOf_int_mk hk hw), MapKept.run_setObj_map _ h1, Result.andThen, setBlock]
    · unfold putF
      rw [h6, hkk]
      simp only [Option.isSome_some, if_true]
      rw [← mapset_eq M.ok.2 h5 v, List.map_set, List.map_set, M.eq]
    · rw [hkk, List.map_set, show (({ e0 with key := .int kd x, val := enc v } : MapEntry).born) = e0.born from rfl, WideElems.set_self _ _ _ (by rw [List.getElem?_map, h3]; rfl)]
      exact M.born
    · intro e he
      rw [hkk] at he
      rcases List.mem_or_eq_of_mem_set he with he | rfl
      · exact M.old e he
      · exact M.old e0 (List.mem_of_getElem? h3)
theorem MapA.drop (h : MapA kd enc w b m) (hk : P.underlying kT = some (.int kd)) (ht : P.underlying mT = some (.map kT eT)) {x : Int} (hw : (Lit.int kd x).wf = true) : ∃ w' : World,
    (∀ ty, (Builtin.delete_ #[mT, kT] ty #[.map (some b), .int kd x]).run P w = .ok (.tuple #[]) w') ∧ MapA kd enc w' b (dropF m x) ∧ MapPut w w' b := by
  obtain ⟨es, clock, h1, M⟩ := h
  have hc := fun em => (Maps.int_keyed hk).check w em (Maps.keyOf_int_mk hk hw)
  rcases M.find hk hw w with ⟨h2, h3⟩ | ⟨j, e0, v0, h2, h3, h4, h5, h6⟩
  · refine ⟨setBlock w b (.map es clock), ?_, ⟨_, _, ChangeMaps.heap_setBlock_same h1 _, ?_⟩, mapPut_set h1 _⟩
    · intro ty; simp [Builtin.delete_, run_underlying ht, MapKept.run_getObj_map h1, hc, h2, MapKept.run_setObj_map _ h1, Result.andThen, setBlock]
    · have : dropF m x = m := List.filter_eq_self.2 fun p hp => by simpa using lookF_none_iff.1 h3 p hp
      rw [this]; exact M
  · have hjl : j < es.toList.length := (List.getElem?_eq_some_iff.1 h3).1
    have hjs : j < es.size := by simpa using hjl
    have hsub : (es.eraseIdxIfInBounds j).toList = es.toList.eraseIdx j := by
      unfold Array.eraseIdxIfInBounds
      rw [dif_pos hjs]
      simp
    refine ⟨setBlock w b (.map (es.eraseIdxIfInBounds j) clock), ?_, ⟨_, _, ChangeMaps.heap_setBlock_same h1 _, ⟨?_, M.ok.drop x, ?_, ?_⟩⟩, mapPut_set h1 _⟩
    · intro ty; simp [Builtin.delete_, run_underlying ht, MapKept.run_getObj_map h1, hc, h2, MapKept.run_setObj_map _ h1, Result.andThen, setBlock]
    · rw [hsub, ← maperase_eq M.ok.2 h5, ChangeMaps.map_eraseIdx, ChangeMaps.map_eraseIdx, M.eq]
    · rw [hsub, ChangeMaps.map_eraseIdx]
      exact M.born.sublist (List.eraseIdx_sublist _ _)
    · intro e he
      rw [hsub] at he
      exact M.old e ((List.eraseIdx_sublist _ _).subset he)

/-- a loop over a map is under way: done have been handed out -/
def RangeA {β : Type} (kd : IntKind) (enc : β → Value) (w : World) (b r : Nat) (m done : List (Int × β)) : Prop := ∃ es clock seen,
  w.heap[b]? = some (.map es clock) ∧ ME kd enc es clock m ∧ w.heap[r]? = some (.mapIter (some b) clock seen clock) ∧
  (∀ p ∈ done, p ∈ m) ∧ (done.map (·.1)).Nodup ∧ ∀ e ∈ es.toList, ∀ x, e.key = .int kd x → (seen.contains e.born = true ↔ x ∈ done.map (·.1))
theorem RangeA.below {r : Nat} {done : List (Int × β)} (h : RangeA kd enc w b r m done) (hb : w'.heap[b]? = w.heap[b]?) (hr : w'.heap[r]? = w.heap[r]?) : RangeA kd enc w' b r m done := by
  obtain ⟨es, clock, seen, h1, h2, h3, h4⟩ := h
  exact ⟨es, clock, seen, hb.trans h1, h2, hr.trans h3, h4⟩
theorem RangeA.map {r : Nat} {done : List (Int × β)} (h : RangeA kd enc w b r m done) : MapA kd enc w b m := by
  obtain ⟨es, clock, seen, h1, h2, _⟩ := h
  exact ⟨es, clock, h1, h2⟩
theorem RangeA.lt {r : Nat} {done : List (Int × β)} (h : RangeA kd enc w b r m done) : r < w.heap.size := by
  obtain ⟨es, clock, seen, _, _, h3, _⟩ := h
  exact (Array.getElem?_eq_some_iff.1 h3).1
theorem RangeA.ne {r : Nat} {done : List (Int × β)} (h : RangeA kd enc w b r m done) : r ≠ b := by
  obtain ⟨es, clock, seen, h1, _, h3, _⟩ := h
  rintro rfl
  rw [h1] at h3
  cases h3
theorem RangeA.sub {r : Nat} {done : List (Int × β)} (h : RangeA kd enc w b r m done) : (∀ p ∈ done, p ∈ m) ∧ (done.map (·.1)).Nodup := by
  obtain ⟨es, clock, seen, _, _, _, h4, h5, _⟩ := h
  exact ⟨h4, h5⟩
theorem nodup_of_keys {l : List (Int × β)} (h : (l.map (·.1)).Nodup) : l.Nodup := (List.pairwise_map.1 h).imp fun hne e => hne (by rw [e])
theorem len_le_of_keys {l m : List (Int × β)} (h : (l.map (·.1)).Nodup) (hs : ∀ p ∈ l, p ∈ m) : l.length ≤ m.length := by
  have key : ∀ (a : List Int) (b : List Int), a.Nodup → (∀ x ∈ a, x ∈ b) → a.length ≤ b.length := by
    intro a
    induction a with
    | nil => intro b _ _; exact Nat.zero_le _
    | cons x a ih =>
      intro b hn hs
      have hx := hs x (List.mem_cons_self ..)
      have := ih (b.erase x) (List.nodup_cons.1 hn).2 fun y hy => by
        have hne : y ≠ x := fun e => (List.nodup_cons.1 hn).1 (e ▸ hy)
        exact (List.mem_erase_of_ne hne).2 (hs y (List.mem_cons_of_mem _ hy))
      rw [List.length_erase_of_mem hx] at this
      have := List.length_pos_of_mem hx
      simp only [List.length_cons]; omega
  have := key (l.map (·.1)) (m.map (·.1)) h fun x hx => by
    obtain ⟨p, hp, rfl⟩ := List.mem_map.1 hx
    exact List.mem_map.2 ⟨p, hs p hp, rfl⟩
  simpa using this
theorem MapA.range (h : MapA kd enc w b m) (ht : P.underlying mT = some (.map kT eT)) : ∃ w', (Instr.range mT (.map (some b))).run P w = .ok (.pointer (some ⟨w.heap.size, 0, none⟩)) w' ∧ RangeA kd enc w' b w.heap.size m [] ∧ Below w.heap.size w w' ∧ w'.heap.size = w.heap.size + 1 := by
  have hlt := h.lt
  obtain ⟨es, clock, h1, M⟩ := h
  refine ⟨_, run_range_map w mT kT eT b es clock ht h1, ⟨es, clock, #[], ((MapKept.heap_alloc w _).2 b hlt).trans h1, M, heap_alloc_new _ _, by simp, by simp, by simp⟩, below1 _ _, by simp⟩
/-- what a step of a loop over a map leaves -/
def MapStep (w w' : World) (r : Nat) : Prop := w'.os = w.os ∧ w'.tape = w.tape ∧ w'.output = w.output ∧ w'.heap.size = w.heap.size ∧ ∀ i, i ≠ r → w'.heap[i]? = w.heap[i]?
theorem RangeA.next {r : Nat} {done : List (Int × β)} (h : RangeA kd enc w b r m done) (ty : TypeId) :
    ((Instr.next (.pointer (some ⟨r, 0, none⟩)) false ty).run P w = .ok (.tuple #[.bool false]) w ∧ done.Perm m) ∨
    ∃ x v w', (Instr.next (.pointer (some ⟨r, 0, none⟩)) false ty).run P w = .ok (.tuple #[.bool true, .int kd x, enc v]) w' ∧ (x, v) ∈ m ∧ x ∉ done.map (·.1) ∧ RangeA kd enc w' b r m (done ++ [(x, v)]) ∧ MapStep w w' r ∧ w'.rangeLeft b r < w.rangeLeft b r ∧
      (Instr.entry (.pointer (some ⟨r, 0, none⟩))).run P w' = .ok (.tuple #[.int kd x, enc v]) w' := by
  have hne := h.ne
  obtain ⟨es, clock, seen, h1, M, h3, h4, h5, h6⟩ := h
  rcases run_next_at (P := P) w ty r b clock clock seen es clock h3 h1 M.old (Nat.le_refl _) with ⟨h0, hrun⟩ | ⟨e, he, w1, hal, hrun⟩
  · refine .inl ⟨hrun, (List.perm_ext_iff_of_nodup (nodup_of_keys h5) (nodup_of_keys M.ok.2)).2 fun p => ⟨h4 p, fun hp => ?_⟩⟩
    obtain ⟨j, hj⟩ := List.getElem?_of_mem hp
    obtain ⟨e, e1, e2, _⟩ := M.has (x := p.1) (v := p.2) hj
    have hes := List.mem_of_getElem? e1
    have hs : seen.contains e.born = true := by
      rcases hsc : seen.contains e.born with _ | _
      · have : e ∈ (leftOf es seen).toList := by
          unfold leftOf
          simp only [Array.toList_filter, List.mem_filter]
          exact ⟨hes, by rw [hsc]; rfl⟩
        have hz : (leftOf es seen) = #[] := Array.eq_empty_of_size_eq_zero h0
        rw [hz] at this
        simp at this
      · rfl
    obtain ⟨q, hq, hq1⟩ := List.mem_map.1 ((h6 e hes p.1 e2).1 hs)
    have e3 := lookF_at M.ok.2 (k := p.1) (v := q.2) (by rw [← hq1]; exact h4 q hq)
    have e4 := lookF_at M.ok.2 (k := p.1) (v := p.2) hp
    rw [e3] at e4
    injection e4 with e4
    rwa [show p = q from Prod.ext hq1.symm e4.symm]
  · have hes : e ∈ es.toList ∧ seen.contains e.born = false := by
      unfold leftOf at he
      simp only [Array.toList_filter, List.mem_filter] at he
      exact ⟨he.1, by simpa using he.2⟩
    obtain ⟨x, v, hm, e1, e2⟩ := M.mem hes.1
    have hx : x ∉ done.map (·.1) := fun hx => by
      rw [(h6 e hes.1 x e1).2 hx] at hes
      simp at hes
    rw [e1, e2] at hrun
    have h3' : w1.heap[r]? = some (.mapIter (some b) clock seen clock) := by rcases hal with rfl | rfl <;> exact h3
    have h1' : w1.heap[b]? = some (.map es clock) := by rcases hal with rfl | rfl <;> exact h1
    have hset : ∀ i, (setBlock w1 r (.mapIter (some b) clock (seen.push e.born) clock)).heap[i]? = if i = r then some (.mapIter (some b) clock (seen.push e.born) clock) else w1.heap[i]? := by
      intro i
      have hr := (Array.getElem?_eq_some_iff.1 h3').1
      simp only [setBlock, Array.getElem?_setIfInBounds]
      by_cases ei : r = i
      · subst ei; simp [hr]
      · rw [if_neg ei, if_neg (Ne.symm ei)]
    refine .inr ⟨x, v, _, hrun, hm, hx, ⟨es, clock, seen.push e.born, by rw [hset, if_neg (Ne.symm hne)]; exact h1', M, by rw [hset, if_pos rfl], fun p hp => ?_, ?_, fun e' he' x' hx' => ?_⟩, ?_, ?_⟩
    · rcases List.mem_append.1 hp with hp | hp
      · exact h4 p hp
      · rw [List.mem_singleton.1 hp]; exact hm
    · rw [List.map_append]
      refine List.nodup_append.2 ⟨h5, by simp, fun a ha c hc e3 => ?_⟩
      simp only [List.map_cons, List.map_nil, List.mem_singleton] at hc
      rw [e3, hc] at ha
      exact hx ha
    · have hcon : (seen.push e.born).contains e'.born = true ↔ seen.contains e'.born = true ∨ e'.born = e.born := by simp
      rw [hcon, h6 e' he' x' hx', List.map_append, List.mem_append]
      simp only [List.map_cons, List.map_nil, List.mem_singleton]
      constructor
      · rintro (h | h)
        · exact .inl h
        · rw [born_inj M.born he' hes.1 h, e1] at hx'
          injection hx' with _ hx'
          exact .inr hx'.symm
      · rintro (h | h)
        · exact .inl h
        · obtain ⟨i, hi⟩ := List.getElem?_of_mem he'
          obtain ⟨k, hk⟩ := List.getElem?_of_mem hes.1
          obtain ⟨_, _, g1, g2, _⟩ := M.at_ hi
          obtain ⟨_, _, g3, g4, _⟩ := M.at_ hk
          rw [hx'] at g2
          rw [e1] at g4
          injection g2 with _ g2
          injection g4 with _ g4
          subst g2 g4 h
          have hij : i = k := by
            have a1 := (List.getElem?_eq_some_iff.1 g1)
            have a2 := (List.getElem?_eq_some_iff.1 g3)
            obtain ⟨b1, c1⟩ := a1
            obtain ⟨b2, c2⟩ := a2
            refine (List.getElem_inj (xs := m.map (·.1)) (h₀ := by simpa using b1) (h₁ := by simpa using b2) M.ok.2).1 ?_
            simp [c1, c2]
          subst hij
          rw [hi] at hk
          injection hk with hk
          exact .inr (by rw [hk])
    · refine ⟨?_, ?_, ?_, ?_, fun i hi => ?_⟩
      · rcases hal with rfl | rfl <;> rfl
      · rcases hal with rfl | rfl <;> rfl
      · rcases hal with rfl | rfl <;> rfl
      · rcases hal with rfl | rfl <;> simp [setBlock]
      · rw [hset, if_neg hi]
        rcases hal with rfl | rfl <;> rfl
    · have a1 : (setBlock w1 r (.mapIter (some b) clock (seen.push e.born) clock)).heap[b]? = some (.map es clock) := by rw [hset, if_neg (Ne.symm hne)]; exact h1'
      have a2 : (setBlock w1 r (.mapIter (some b) clock (seen.push e.born) clock)).heap[r]? = some (.mapIter (some b) clock (seen.push e.born) clock) := by rw [hset, if_pos rfl]
      simp only [World.rangeLeft, a1, a2, h1, h3]
      have e4 : leftOf es (seen.push e.born) = (leftOf es seen).filter (fun x => !(x.born == e.born)) := by
        unfold leftOf
        rw [Array.filter_filter]
        congr 1
        funext x
        simp only [Array.contains_push, Bool.not_or]
        rw [Bool.and_comm]
      refine ⟨?_, ?_⟩
      · have e5 : ((leftOf es seen).filter (fun x => !(x.born == e.born))).toList = (leftOf es seen).toList.filter (fun x => !(x.born == e.born)) := by rw [Array.toList_filter]
        have e6 := (List.length_filter_lt_length_iff_exists (p := fun x : MapEntry => !(x.born == e.born)) (l := (leftOf es seen).toList)).2 ⟨e, he, by simp⟩
        rw [← e5] at e6
        rw [e4]
        rw [Array.length_toList, Array.length_toList] at e6
        exact e6
      · have hent := run_entry_at (P := P) (setBlock w1 r (.mapIter (some b) clock (seen.push e.born) clock)) r b clock seen es clock e a2 a1 hes.1 M.born
        rw [hent, e1, e2]
theorem MapStep.below {r B : Nat} {a : World} (h : MapStep w w' r) (hb : Below B a w) (hB : B ≤ r) : Below B a w' :=
  ⟨h.1.trans hb.os, h.2.1.trans hb.tape, h.2.2.1.trans hb.output, by rw [h.2.2.2.1]; exact hb.size, fun k hk => (h.2.2.2.2 k (by omega)).trans (hb.block k hk)⟩
theorem rangeLeft_same {r : Nat} (hb : w'.heap[b]? = w.heap[b]?) (hr : w'.heap[r]? = w.heap[r]?) : w'.rangeLeft b r = w.rangeLeft b r := by simp only [World.rangeLeft, hb, hr]
theorem MapStep.size {r : Nat} (h : MapStep w w' r) : w'.heap.size = w.heap.size := h.2.2.2.1
end
section
variable {P : Program} (w : World) {ops : Array Oper} {rest : List Oper} {o : Oper} {a : Act} {Q : Exit → Act → World → Prop} {β : Type} {kd : IntKind} {enc : β → Value} {b r : Nat} {m done : List (Int × β)} {kT eT mT : TypeId}
/-- 'range m' -/
theorem wpList_range_m (hg : o.guard = none) (s : Operand) (hop : o.op = Op.range mT s) (ht : P.underlying mT = some (.map kT eT)) (hs : a.eval s = .map (some b)) (h : MapA kd enc w b m)
    (hK : ∀ w', RangeA kd enc w' b w.heap.size m [] → Below w.heap.size w w' → w'.heap.size = w.heap.size + 1 → wpList P ops Q rest (a.put o.dst (.pointer (some ⟨w.heap.size, 0, none⟩))) w') : wpList P ops Q (o :: rest) a w := by
  refine wpList_plain hg fun K' hK' => ?_
  obtain ⟨w', hrun, r1, r2, r3⟩ := h.range ht
  unfold Oper.wp
  simp [execOp, hop, hs, hrun, Result.andThen]
  exact hK' _ _ (hK w' r1 r2 r3)
/-- the step -/
theorem wpList_next_m (hg : o.guard = none) (it : Operand) (hop : o.op = Op.next it false) (hit : a.eval it = .pointer (some ⟨r, 0, none⟩)) (h : RangeA kd enc w b r m done)
    (hDone : done.Perm m → wpList P ops Q rest (a.put o.dst (.tuple #[.bool false])) w)
    (hMore : ∀ (x : Int) (v : β) (w' : World), (x, v) ∈ m → x ∉ done.map (·.1) → RangeA kd enc w' b r m (done ++ [(x, v)]) → MapStep w w' r → w'.rangeLeft b r < w.rangeLeft b r →
      (Instr.entry (.pointer (some ⟨r, 0, none⟩))).run P w' = .ok (.tuple #[.int kd x, enc v]) w' → wpList P ops Q rest (a.put o.dst (.tuple #[.bool true, .int kd x, enc v])) w') : wpList P ops Q (o :: rest) a w := by
  refine wpList_plain hg fun K' hK' => ?_
  unfold Oper.wp
  rcases h.next (P := P) o.type with ⟨hrun, hp⟩ | ⟨x, v, w', hrun, r1, r2, r3, r4, r5, r6⟩
  · simp [execOp, hop, hit, hrun, Result.andThen]
    exact hK' _ _ (hDone hp)
  · simp [execOp, hop, hit, hrun, Result.andThen]
    exact hK' _ _ (hMore x v w' r1 r2 r3 r4 r5 r6)
end
end Go.Proofs.YtgiplahhalgbdaaGreat
