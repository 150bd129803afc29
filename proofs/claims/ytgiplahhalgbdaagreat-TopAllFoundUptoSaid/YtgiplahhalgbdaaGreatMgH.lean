/-
  Texts of one part, put together. No condition.
-/
import Derived.Test.YtgiplahhalgbdaaGreatLib2
import Derived.Test.YtgiplahhalgbdaaGreatLib3
import Derived.Test.YtgiplahhalgbdaaGreatEqI
import Derived.Maps.Keyed
import Derived.WideKeyEntry
import Derived.WideLaws
import Derived.Carry
/-
  The package edges: Most, Has, and the reference's. Conditions: the slices read as lists of ints.
-/
namespace Go.Proofs.YtgiplahhalgbdaaGreat
open Go.RowKit

/-- how many neighbours there may be -/
def mostF (links level : Int) : Int := if level = 0 then 2 * min (max links 1) 32 else min (max links 1) 32
theorem most_any (a b : Int) (w : World) : Calls Tryz.prog 49 #[.int .i64 a, .int .i64 b] w fun e w' => e = .returned (.int .i64 (mostF a b)) ∧ w = w' := by
  by_cases h : b = 0
  · have HF := hide (show mostF a b = 2 * min (max a 1) 32 by unfold mostF; rw [if_pos h])
    subst h
    have h1 : 1 ≤ min (max a 1) 32 := by omega
    have h2 : min (max a 1) 32 ≤ 32 := by omega
    go_enter Tryz.func49, Tryz.ntmps49
    go_wp2
    all_goals go_ret
    all_goals exact ⟨congrArg (fun z => Ending.returned (Value.int .i64 z)) (by rw [HF.out]; omega), rfl⟩
  · have HF := hide (show mostF a b = min (max a 1) 32 by unfold mostF; rw [if_neg h])
    have hb : (b == 0) = false := by simpa using h
    go_enter Tryz.func49, Tryz.ntmps49
    go_wp2
    all_goals go_ret
    all_goals exact ⟨congrArg (fun z => Ending.returned (Value.int .i64 z)) (by rw [HF.out]; omega), rfl⟩
theorem mem_take_snoc {l : List Int} {k : Nat} {x y : Int} (h : l[k]? = some x) : y ∈ l.take (k + 1) ↔ y ∈ l.take k ∨ y = x := by
  rw [List.take_add_one, h]; simp
end Go.Proofs.YtgiplahhalgbdaaGreat

/-
  The package edges: a map that counts ints: its keys. Condition: the numbers are those of int.
-/
namespace Go.Proofs.YtgiplahhalgbdaaGreat
open Go.RowKit
open Go.ChangeMaps (setBlock)

theorem intKeyed : Maps.Keyed Tryz.prog 3 := Maps.int_keyed Tryz.underlying3
theorem int_key {x : Int} (h : -9223372036854775808 ≤ x ∧ x ≤ 9223372036854775807) : keyOf Tryz.prog 3 (.int .i64 x) = some (.int .i64 x) :=
  Maps.keyOf_int_mk Tryz.underlying3 (by simp only [Lit.wf, Bool.and_eq_true, decide_eq_true_eq]; exact h)
theorem intV_inj {a b : Int} (h : Value.int .i64 a = Value.int .i64 b) : a = b := by injection h
/-- a map's keys are the elements of a list -/
structure IM (es : Array MapEntry) (l : List Int) : Prop where
  keys : ∀ e ∈ es.toList, ∃ x v, x ∈ l ∧ (-9223372036854775808 ≤ x ∧ x ≤ 9223372036854775807) ∧ e.key = .int .i64 x ∧ e.val = .int .i64 v
  all : ∀ x ∈ l, ∃ e ∈ es.toList, e.key = .int .i64 x
  nod : (es.toList.map (·.key)).Nodup
theorem IM.start : IM #[] [] := ⟨fun e h => by simp at h, fun h hh => by simp at hh, by simp⟩
theorem sub_len {α : Type} [DecidableEq α] : ∀ (a b : List α), a.Nodup → (∀ x ∈ a, x ∈ b) → a.length ≤ b.length
  | [], _, _, _ => Nat.zero_le _
  | x :: a, b, h, hs => by
    have hx := hs x (List.mem_cons_self ..)
    have := sub_len a (b.erase x) (List.nodup_cons.1 h).2 fun y hy => by
      have hne : y ≠ x := fun e => (List.nodup_cons.1 h).1 (e ▸ hy)
      exact (List.mem_erase_of_ne hne).2 (hs y (List.mem_cons_of_mem _ hy))
    rw [List.length_erase_of_mem hx] at this
    have := List.length_pos_of_mem hx
    simp only [List.length_cons]; omega
theorem nodup_len {α : Type} [DecidableEq α] (a b : List α) (h : a.Nodup) (hs : ∀ x, x ∈ a ↔ x ∈ b) : a.length = b.length ↔ b.Nodup := by
  constructor
  · intro hl
    induction b generalizing a with
    | nil => exact List.nodup_nil
    | cons y b ih =>
      have hy := (hs y).2 (List.mem_cons_self ..)
      by_cases hb : y ∈ b
      · have := sub_len a b h fun x hx => by
          rcases List.mem_cons.1 ((hs x).1 hx) with rfl | h'
          · exact hb
          · exact h'
        simp only [List.length_cons] at hl; omega
      · refine List.nodup_cons.2 ⟨hb, ih (a.erase y) (h.erase _) (fun x => ?_) (by rw [List.length_erase_of_mem hy, hl]; simp)⟩
        rw [h.mem_erase_iff, hs, List.mem_cons]
        constructor
        · rintro ⟨h1, h2 | h2⟩
          · exact (h1 h2).elim
          · exact h2
        · intro h1
          exact ⟨fun e => hb (e ▸ h1), .inr h1⟩
  · intro hb
    have := sub_len a b h fun x hx => (hs x).1 hx
    have := sub_len b a hb fun x hx => (hs x).2 hx
    omega
section
variable {w : World} {b : Nat} {es : Array MapEntry} {clock : Nat} {l : List Int} {x : Int}
theorem IM.size (M : IM es l) : es.size = l.length ↔ l.Nodup := by
  have h1 : (es.toList.map (fun e => intOf e.key)).Nodup := by
    refine List.pairwise_map.2 ((List.pairwise_map.1 M.nod).imp_of_mem fun {a c} ha hc hne e => hne ?_)
    obtain ⟨x, _, _, _, e1, _⟩ := M.keys a ha
    obtain ⟨y, _, _, _, e2, _⟩ := M.keys c hc
    rw [e1, e2] at e
    rw [e1, e2, show x = y from e]
  rw [← nodup_len _ l h1 fun x => ?_]
  · simp
  · rw [List.mem_map]
    constructor
    · rintro ⟨e, he, rfl⟩
      obtain ⟨x, _, hx, _, e1, _⟩ := M.keys e he
      rw [e1]; exact hx
    · intro hx
      obtain ⟨e, he, e1⟩ := M.all x hx
      exact ⟨e, he, by rw [e1]; rfl⟩
theorem IM.find (M : IM es l) (hw : -9223372036854775808 ≤ x ∧ x ≤ 9223372036854775807) (w : World) :
    ((Instr.findKey 3 (.int .i64 x) es.toList).run Tryz.prog w = .ok none w ∧ (∀ e ∈ es.toList, e.key ≠ .int .i64 x)) ∨
    ∃ (j : Nat) (e : MapEntry) (v : Int), (Instr.findKey 3 (.int .i64 x) es.toList).run Tryz.prog w = .ok (some (j, e.val)) w ∧ es.toList[j]? = some e ∧ e.key = .int .i64 x ∧ e.val = .int .i64 v := by
  rcases intKeyed.find w (int_key hw) es.toList (fun e he => by
    obtain ⟨x', v', _, hw', e1, _⟩ := M.keys e he
    rw [e1]; exact ⟨_, int_key hw'⟩) with ⟨h1, h2⟩ | ⟨j, e0, h1, h2, h3⟩
  · exact .inl ⟨h1, h2⟩
  · obtain ⟨_, v, _, _, _, e2⟩ := M.keys e0 (List.mem_of_getElem? h2)
    exact .inr ⟨j, e0, v, h1, h2, h3, e2⟩
theorem IM.look (M : IM es l) (hw : -9223372036854775808 ≤ x ∧ x ≤ 9223372036854775807) (hb : w.heap[b]? = some (.map es clock)) :
    ∃ v : Int, (Instr.lookup 94 (.map (some b)) (.int .i64 x) false).run Tryz.prog w = .ok (.int .i64 v) w := by
  have hz : ∀ u : World, (zeroValue 3).run Tryz.prog u = .ok (.int .i64 0) u := fun u => by kernel_rfl
  rcases M.find hw w with ⟨h1, _⟩ | ⟨j, e0, v, h1, _, _, h4⟩
  · exact ⟨0, by simp [Instr.lookup, run_underlying Tryz.underlying94, MapKept.run_getObj_map hb, intKeyed.check w _ (int_key hw), h1, hz, Result.andThen]⟩
  · exact ⟨v, by simp [Instr.lookup, run_underlying Tryz.underlying94, MapKept.run_getObj_map hb, intKeyed.check w _ (int_key hw), h1, h4, Result.andThen]⟩
theorem IM.put (M : IM es l) (hw : -9223372036854775808 ≤ x ∧ x ≤ 9223372036854775807) (hb : w.heap[b]? = some (.map es clock)) (v : Int) :
    ∃ (es1 : Array MapEntry) (clock1 : Nat), (Instr.mapUpdate 94 (.map (some b)) (.int .i64 x) (.int .i64 v)).run Tryz.prog w = .ok () (setBlock w b (.map es1 clock1)) ∧ IM es1 (l ++ [x]) := by
  rcases M.find hw w with ⟨h1, h2⟩ | ⟨j, e0, v0, h1, h2, h3, h4⟩
  · refine ⟨es.push ⟨.int .i64 x, .int .i64 v, clock⟩, clock + 1, ?_, ⟨fun e he => ?_, fun h' hh => ?_, ?_⟩⟩
    · simp [Instr.mapUpdate, run_underlying Tryz.underlying94, MapKept.run_getObj_map hb, intKeyed.check w false (int_key hw), h1, MapKept.run_setObj_map _ hb, Result.andThen, setBlock]
    · simp only [Array.toList_push, List.mem_append, List.mem_singleton] at he
      rcases he with he | rfl
      · obtain ⟨x', v', h1, h2, h3⟩ := M.keys e he
        exact ⟨x', v', by simp [h1], h2, h3⟩
      · exact ⟨x, v, by simp, hw, rfl, rfl⟩
    · rcases List.mem_append.1 hh with hh | hh
      · obtain ⟨e, he, hk⟩ := M.all h' hh
        exact ⟨e, by simp [he], hk⟩
      · rw [List.mem_singleton.1 hh]
        exact ⟨⟨.int .i64 x, .int .i64 v, clock⟩, by simp, rfl⟩
    · simp only [Array.toList_push, List.map_append, List.map_cons, List.map_nil]
      refine List.nodup_append.2 ⟨M.nod, by simp, fun a ha c hc e1 => ?_⟩
      simp only [List.mem_singleton] at hc
      obtain ⟨y, hy, rfl⟩ := List.mem_map.1 ha
      exact h2 y hy (e1.trans hc)
  · have hj : es[j]? = some e0 := by simpa using h2
    have hkk : (es.modify j (fun e => { e with key := .int .i64 x, val := .int .i64 v })).toList = es.toList.set j { e0 with key := .int .i64 x, val := .int .i64 v } := by
      rw [Array.toList_modify, ChangeMaps.modify_eq_set _ _ _ _ h2]
    have hjl : j < es.toList.length := (List.getElem?_eq_some_iff.1 h2).1
    refine ⟨es.modify j (fun e => { e with key := .int .i64 x, val := .int .i64 v }), clock, ?_, ⟨fun e he => ?_, fun y hy => ?_, ?_⟩⟩
    · simp [Instr.mapUpdate, run_underlying Tryz.underlying94, MapKept.run_getObj_map hb, intKeyed.check w false (int_key hw), h1, hj, h3, intKeyed.stays w (int_key hw), MapKept.run_setObj_map _ hb, Result.andThen, setBlock]
    · rw [hkk] at he
      rcases List.mem_or_eq_of_mem_set he with he | rfl
      · obtain ⟨x', v', h1, h2, h3⟩ := M.keys e he
        exact ⟨x', v', by simp [h1], h2, h3⟩
      · exact ⟨x, v, by simp, hw, rfl, rfl⟩
    · have hm : ∃ e ∈ es.toList, e.key = .int .i64 y := by
        rcases List.mem_append.1 hy with hm | hm
        · exact M.all y hm
        · rw [List.mem_singleton.1 hm]; exact ⟨e0, List.mem_of_getElem? h2, h3⟩
      obtain ⟨e, he, hek⟩ := hm
      obtain ⟨i, hi⟩ := List.getElem?_of_mem he
      rw [hkk]
      by_cases e1 : j = i
      · subst e1
        rw [h2] at hi
        injection hi with hi
        subst hi
        exact ⟨_, List.mem_of_getElem? (i := j) (by rw [List.getElem?_set, if_pos rfl, if_pos hjl]), by rw [← hek, h3]⟩
      · exact ⟨e, List.mem_of_getElem? (i := i) (by rw [List.getElem?_set, if_neg e1]; exact hi), hek⟩
    · rw [hkk, List.map_set, show (({ e0 with key := .int .i64 x, val := .int .i64 v } : MapEntry).key) = e0.key from h3.symm, WideElems.set_self _ _ _ (by rw [List.getElem?_map, h2]; rfl)]
      exact M.nod
end
/-- a map that has just these keys lies at a block -/
def MapAtI (w : World) (b : Nat) (l : List Int) : Prop := ∃ es clock, w.heap[b]? = some (.map es clock) ∧ IM es l
theorem MapAtI.below {w w' : World} {B b : Nat} {l : List Int} (h : MapAtI w b l) (hb : Below B w w') (hB : b < B) : MapAtI w' b l := by
  obtain ⟨es, clock, h1, h2⟩ := h
  exact ⟨es, clock, (hb.block b hB).trans h1, h2⟩
theorem MapAtI.lt {w : World} {b : Nat} {l : List Int} (h : MapAtI w b l) : b < w.heap.size := by
  obtain ⟨es, clock, h1, _⟩ := h
  exact (Array.getElem?_eq_some_iff.1 h1).1
theorem MapAtI.look {w : World} {b : Nat} {l : List Int} (h : MapAtI w b l) {x : Int} (hw : -9223372036854775808 ≤ x ∧ x ≤ 9223372036854775807) : ∃ v : Int, (Instr.lookup 94 (.map (some b)) (.int .i64 x) false).run Tryz.prog w = .ok (.int .i64 v) w := by
  obtain ⟨es, clock, h1, h2⟩ := h
  exact h2.look hw h1
theorem setBlock_belowI {B : Nat} {a w : World} {b : Nat} {es : Array MapEntry} {clock : Nat} (h : Below B a w) (hb : w.heap[b]? = some (.map es clock)) (hB : B ≤ b) (o : Obj) : Below B a (setBlock w b o) :=
  ⟨h.os, h.tape, h.output, by simpa [setBlock] using h.size, fun k hk => (ChangeMaps.heap_setBlock_other hb o (by omega)).trans (h.block k hk)⟩
theorem MapAtI.put {w : World} {b : Nat} {l : List Int} (h : MapAtI w b l) {x : Int} (hw : -9223372036854775808 ≤ x ∧ x ≤ 9223372036854775807) (v : Int) : ∃ w' : World,
    (Instr.mapUpdate 94 (.map (some b)) (.int .i64 x) (.int .i64 v)).run Tryz.prog w = .ok () w' ∧ MapAtI w' b (l ++ [x]) ∧ Below b w w' := by
  obtain ⟨es, clock, h1, h2⟩ := h
  obtain ⟨es1, clock1, e1, M1⟩ := h2.put hw h1 v
  exact ⟨_, e1, ⟨_, _, ChangeMaps.heap_setBlock_same h1 _, M1⟩, setBlock_belowI (Below.refl b w) h1 (Nat.le_refl _) _⟩
theorem MapAtI.len {w : World} {b : Nat} {l : List Int} (h : MapAtI w b l) (ty : TypeId) : ∃ m : Nat, (Builtin.len_ #[94] ty #[.map (some b)]).run Tryz.prog w = .ok (.int .i64 m) w ∧ (m = l.length ↔ l.Nodup) := by
  obtain ⟨es, clock, h1, h2⟩ := h
  exact ⟨es.size, run_len_map (P := Tryz.prog) w 94 ty b es clock (by kernel_rfl) h1, h2.size⟩
end Go.Proofs.YtgiplahhalgbdaaGreat

/-
  The package edges: Right, and the reference's. Conditions: the slice reads as a list of ints; at most a million of them.
-/
namespace Go.Proofs.YtgiplahhalgbdaaGreat
open Go.RowKit ChangeMaps

/-- a number that may stand in a list of neighbours -/
def okE (self slots x : Int) : Prop := x ≠ self ∧ 1 ≤ x ∧ x ≤ slots
/-- a list of neighbours is right -/
def rightE (l : List Int) (self links level slots : Int) : Prop := (∀ x ∈ l, okE self slots x) ∧ l.Nodup ∧ (l.length : Int) ≤ mostF links level
noncomputable instance (l : List Int) (self links level slots : Int) : Decidable (rightE l self links level slots) := Classical.propDecidable _
theorem takeI_snoc {α : Type} {l : List α} {j : Nat} {x : α} (h : l[j]? = some x) : l.take (j + 1) = l.take j ++ [x] := by rw [List.take_add_one, h]; rfl
def I64 (l : List Int) : Prop := ∀ x ∈ l, -9223372036854775808 ≤ x ∧ x ≤ 9223372036854775807
theorem okE_snoc {l : List Int} {k : Nat} {y self slots : Int} (h : ∀ x ∈ l.take k, okE self slots x) (hv : l[k]? = some y) (hy : okE self slots y) : ∀ x ∈ l.take (k + 1), okE self slots x := fun x hx => by
  rcases (mem_take_snoc hv).1 hx with h1 | rfl
  · exact h x h1
  · exact hy
theorem not_rightE {l : List Int} {self links level slots y : Int} {k : Nat} (hv : l[k]? = some y) (h : ¬ okE self slots y) : decide (rightE l self links level slots) = false :=
  decide_eq_false fun hr => h (hr.1 y (List.mem_of_getElem? hv))
set_option maxHeartbeats 2000000 in
theorem eRight_any (A : Option Addr) (n c : Nat) (l : List Int) (self links level slots : Int) (w : World) (hx : Rd (Sh.int .i64) w w.heap.size A l) (hn : l.length = n) (hc : n ≤ c) (hm : c ≤ 9223372036854775807) (hi : I64 l) :
    Calls Tryz.prog 34 #[.slice A n c, .int .i64 self, .int .i64 links, .int .i64 level, .int .i64 slots] w fun e w' => e = .returned (.bool (decide (rightE l self links level slots))) ∧ Below w.heap.size w w' := by
  have HX := hide hx
  have Hn := hide hn
  have HW := hide hi
  clear hx hn hi
  have hmm := @run_makeMap Tryz.prog
  have HM := hide (fun W => most_any links level W)
  go_enter Tryz.func34, Tryz.ntmps34
  go_wp2
  go_loopw [10, 13, 17] (fun _ _ i wr => ∃ j : Nat, j ≤ n ∧ i = .int .i64 j ∧ Hid (MapAtI wr w.heap.size (l.take j)) ∧ Hid (∀ x ∈ l.take j, okE self slots x) ∧ Hid (Below w.heap.size w wr)) (fun _ _ i _ => n - (intOf i).toNat)
  case atStart => exact ⟨0, by omega, rfl, hide ⟨_, _, heap_alloc_new _ _, IM.start⟩, hide (by simp), hide (below1 _ _)⟩
  case round =>
    obtain ⟨j, hj, rfl, HT, HO, HBl⟩ := hrel
    by_cases hlt : j < n
    · obtain ⟨ad, y, rfl, _, hv, q0⟩ := RdR.icell (HX.out.below HBl.out (Nat.le_refl _)) (k := j) (by have := Hn.out; omega)
      have hwy := hide (HW.out _ (List.mem_of_getElem? hv))
      have g0 : (0 : Int) ≤ j := by omega
      have g1 : (j : Int) < n := by omega
      by_cases ho : okE self slots y
      · have hs : (y == self) = false := by simpa using ho.1
        have h2 : ¬ y < 1 := by have := ho.2.1; omega
        have h3 : ¬ slots < y := by have := ho.2.2; omega
        have HO1 := hide (okE_snoc HO.out hv ho)
        have HSn := hide (takeI_snoc hv)
        obtain ⟨v, L1⟩ := HT.out.look hwy.out
        obtain ⟨w4, E1, T1, B1⟩ := HT.out.put hwy.out (wrap64 (v + 1))
        have HT1 := hide T1
        have HB1 := hide (HBl.out.trans B1)
        clear hv ho T1 B1
        go_wp2
        go_roundw
        case rel => exact ⟨j + 1, by omega, by go_num, by rw [HSn.out]; exact HT1, HO1, HB1⟩
        case measure => simp [intOf]; omega
      · have HF := hide (not_rightE (links := links) (level := level) hv ho)
        have HNO := hide ho
        clear hv ho
        by_cases e1 : y = self
        · have hs : (y == self) = true := by simpa using e1
          clear e1
          go_wp2
          all_goals go_ret
          all_goals exact ⟨by rw [HF.out]; try rfl, HBl.out⟩
        · have hs : (y == self) = false := by simpa using e1
          by_cases e2 : y < 1
          · clear e1
            go_wp2
            all_goals go_ret
            all_goals exact ⟨by rw [HF.out]; try rfl, HBl.out⟩
          · have e3 : slots < y := by
              have := HNO.out
              unfold okE at this
              omega
            clear e1
            go_wp2
            all_goals go_ret
            all_goals exact ⟨by rw [HF.out]; try rfl, HBl.out⟩
    · obtain rfl : j = n := by omega
      rw [List.take_of_length_le (by have := Hn.out; omega)] at HT HO
      obtain ⟨m, L1, hml⟩ := HT.out.len 3
      rw [Hn.out] at hml
      by_cases e1 : m = j
      · have HND := hide (hml.1 e1)
        subst e1
        have HF := hide (show decide (rightE l self links level slots) = decide ((m : Int) ≤ mostF links level) from by
          apply decide_eq_decide.2
          unfold rightE
          rw [Hn.out]
          exact ⟨fun h => h.2.2, fun h => ⟨HO.out, HND.out, h⟩⟩)
        clear hml
        go_wp2_with (go_at_call 49; refine (HM.out _).mono ?_; rintro e _ ⟨rfl, rfl⟩)
        all_goals go_ret
        all_goals exact ⟨by rw [HF.out]; try rfl, HBl.out⟩
      · have HF := hide (show decide (rightE l self links level slots) = false from decide_eq_false fun h => e1 (hml.2 h.2.1))
        have e2 : ((m : Int) == j) = false := by rw [beq_eq_false_iff_ne]; omega
        clear hml e1
        go_wp2
        all_goals go_ret
        all_goals exact ⟨by rw [HF.out]; try rfl, HBl.out⟩
end Go.Proofs.YtgiplahhalgbdaaGreat

/-
  The package edges: Has (slices.Contains, slices.Index); the reference's With and Without. Conditions: the slices read as lists of ints.
-/
namespace Go.Proofs.YtgiplahhalgbdaaGreat
open Go.RowKit

theorem index_any (A : Option Addr) (n c : Nat) (l : List Int) (x : Int) (w : World) (hx : Rd (Sh.int .i64) w w.heap.size A l) (hn : l.length = n) (hc : n ≤ c) (hm : c ≤ 9223372036854775807) :
    Calls Tryz.prog 64 #[.slice A n c, .int .i64 x] w fun e w' => (∃ z : Int, e = .returned (.int .i64 z) ∧ decide (0 ≤ z) = decide (x ∈ l)) ∧ w = w' := by
  have HX := hide hx
  have Hn := hide hn
  clear hx hn
  go_enter Tryz.func64, Tryz.ntmps64
  go_wp2
  go_loopw [5, 8] (fun _ i wr => ∃ k : Nat, k ≤ n ∧ i = .int .i64 k ∧ Hid (x ∉ l.take k) ∧ wr = w) (fun _ i _ => n - (intOf i).toNat)
  case atStart => exact ⟨0, by omega, rfl, hide (by simp), rfl⟩
  case round =>
    obtain ⟨k, hk, rfl, HI, rfl⟩ := hrel
    by_cases hlt : k < n
    · obtain ⟨ad, y, rfl, _, hv, q0⟩ := RdR.icell HX.out (k := k) (by have := Hn.out; omega)
      have g0 : (0 : Int) ≤ k := by omega
      have g1 : (k : Int) < n := by omega
      by_cases e : y = x
      · have HF := hide (show decide (x ∈ l) = true from decide_eq_true (by rw [← e]; exact List.mem_of_getElem? hv))
        have he : (x == y) = true := by simpa using e.symm
        clear hv e
        go_wp2
        go_ret
        exact ⟨⟨(k : Int), rfl, by rw [HF.out]; exact decide_eq_true g0⟩, rfl⟩
      · have HS := hide (show x ∉ l.take (k + 1) by rw [mem_take_snoc hv]; rintro (h | h); exact HI.out h; exact e h.symm)
        have he : (x == y) = false := by simpa using Ne.symm e
        clear hv e
        go_wp2
        go_roundw
        case rel => exact ⟨k + 1, by omega, by go_num, HS, by first | exact rfl | trivial⟩
        case measure => simp [intOf]; omega
    · obtain rfl : k = n := by omega
      have HF := hide (show decide (x ∈ l) = false from decide_eq_false (by have h := HI.out; rwa [List.take_of_length_le (by have := Hn.out; omega)] at h))
      go_wp2
      go_ret
      exact ⟨⟨-1, rfl, by rw [HF.out]; rfl⟩, rfl⟩
theorem containsE_any (A : Option Addr) (n c : Nat) (l : List Int) (x : Int) (w : World) (hx : Rd (Sh.int .i64) w w.heap.size A l) (hn : l.length = n) (hc : n ≤ c) (hm : c ≤ 9223372036854775807) :
    Calls Tryz.prog 51 #[.slice A n c, .int .i64 x] w fun e w' => e = .returned (.bool (decide (x ∈ l))) ∧ w = w' := by
  have H := hide (index_any A n c l x w hx hn hc hm)
  clear hx hn
  go_enter Tryz.func51, Tryz.ntmps51
  go_wp2_with fail
  refine H.out.mono ?_
  rintro e _ ⟨⟨z, rfl, hz⟩, rfl⟩
  have HZ := hide hz
  clear hz H
  go_wp2
  go_ret
  exact ⟨by rw [← HZ.out]; rfl, rfl⟩
theorem eHas_any (A : Option Addr) (n c : Nat) (l : List Int) (x : Int) (w : World) (hx : Rd (Sh.int .i64) w w.heap.size A l) (hn : l.length = n) (hc : n ≤ c) (hm : c ≤ 9223372036854775807) :
    Calls Tryz.prog 37 #[.slice A n c, .int .i64 x] w fun e w' => e = .returned (.bool (decide (x ∈ l))) ∧ w = w' := by
  have H := hide (containsE_any A n c l x w hx hn hc hm)
  clear hx hn
  go_enter Tryz.func37, Tryz.ntmps37
  go_wp2_with fail
  refine H.out.mono ?_
  rintro e _ ⟨rfl, rfl⟩
  clear H
  go_wp2
  go_ret
  exact ⟨rfl, rfl⟩
end Go.Proofs.YtgiplahhalgbdaaGreat
