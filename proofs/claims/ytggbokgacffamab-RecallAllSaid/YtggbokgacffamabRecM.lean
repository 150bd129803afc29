/-
  The package recall: a map of counts, keyed by hits. Conditions: the numbers are those of uint64.
-/
import Derived.Test.YtggbokgacffamabProg
import Derived.Test.YtggbokgacffamabHit
import Derived.DeepKeys4
import Derived.WideKeyEntry
namespace Go.Proofs.Ytggbokgacffamab
open Go.RowKit
open Go.ChangeMaps (setBlock)

def hitV (h : Hit) : Value := .agg #[.int .u64 h.1, .int .u64 h.2]
theorem hitV_inj {a b : Hit} (h : hitV a = hitV b) : a = b := by
  unfold hitV at h
  injection h with h
  have h1 := congrArg (·[0]?) h
  have h2 := congrArg (·[1]?) h
  simp at h1 h2
  exact Prod.ext h1 h2
theorem wf_u64_of {n : Int} (h : 0 ≤ n ∧ n ≤ 18446744073709551615) : (Lit.int .u64 n).wf = true := by
  simp only [Lit.wf, Bool.and_eq_true, decide_eq_true_eq]
  exact h
theorem laidOutR : laidOutB Try.prog = true := by kernel_rfl
theorem hitLaw : WideMaps.KeyLaw Try.prog 36 :=
  deep_law_laid laidOutR (m := 10) (by decide) (by decide +kernel) (by kernel_rfl) (by kernel_rfl)
theorem keyLits_u64 (d : Nat) {n : Int} (h : (Lit.int .u64 n).wf = true) : Try.prog.keyLits (d + 1) 26 [.int .u64 n] = some [.int .u64 n] := by
  unfold Program.keyLits
  rw [Try.underlying26]
  simp only [h, and_self, if_true]
theorem hit_key {h : Hit} (hw : wfH h) : ∃ l, keyOf Try.prog 36 (hitV h) = some l := by
  have h1 := wf_u64_of hw.1
  have h2 := wf_u64_of hw.2
  have e : Try.prog.keyLits (Try.prog.types.size + 1) 36 [.int .u64 h.1, .int .u64 h.2] = some [.int .u64 h.1, .int .u64 h.2] := by
    obtain ⟨d, hd⟩ : ∃ d, Try.prog.types.size + 1 = d + 2 := ⟨Try.prog.types.size - 1, by decide +kernel⟩
    rw [hd]
    have k1 := keyLits_u64 d h1
    have k2 := keyLits_u64 d h2
    unfold Program.keyLits
    rw [Try.underlying36]
    simp only []
    rw [if_pos ⟨by kernel_rfl, by kernel_rfl⟩]
    have kc : Try.prog.cellsOf 26 = 1 := by kernel_rfl
    simp [List.mapM_cons, kc, k1, k2]
  unfold keyOf hitV
  rw [Try.underlying36]
  simp only []
  rw [if_pos (by kernel_rfl)]
  exact ⟨_, by rw [show (Value.agg #[Value.int IntKind.u64 h.1, Value.int IntKind.u64 h.2]).cells.toList = [.int .u64 h.1, .int .u64 h.2] from rfl, e]; rfl⟩

/-- a map's entries count the hits of a list -/
structure HM (es : Array MapEntry) (clock : Nat) (l : List Hit) : Prop where
  keys : ∀ e ∈ es.toList, ∃ h, wfH h ∧ e.key = hitV h ∧ e.val = .int .i64 (l.count h : Nat)
  all : ∀ h ∈ l, ∃ e ∈ es.toList, e.key = hitV h
  nod : (es.toList.map (·.key)).Nodup
  born : ∀ e ∈ es.toList, e.born < clock
  nodb : (es.toList.map (·.born)).Nodup
theorem HM.start : HM #[] 0 [] := ⟨fun e h => by simp at h, fun h hh => by simp at hh, by simp, fun e h => by simp at h, by simp⟩
section
variable {w : World} {b : Nat} {es : Array MapEntry} {clock : Nat} {l : List Hit} {h : Hit}
theorem HM.find (M : HM es clock l) (hw : wfH h) (w : World) :
    ((Instr.findKey 36 (hitV h) es.toList).run Try.prog w = .ok none w ∧ (∀ e ∈ es.toList, e.key ≠ hitV h) ∧ l.count h = 0) ∨
    ∃ (j : Nat) (e : MapEntry), (Instr.findKey 36 (hitV h) es.toList).run Try.prog w = .ok (some (j, e.val)) w ∧ es.toList[j]? = some e ∧ e.key = hitV h ∧ e.val = .int .i64 (l.count h : Nat) := by
  obtain ⟨kl, hkey⟩ := hit_key hw
  rcases hitLaw.find w hkey es.toList (fun e he => by
    obtain ⟨h', hw', e1, _⟩ := M.keys e he
    rw [e1]; exact hit_key hw') with ⟨h1, h2⟩ | ⟨j, e0, h1, h2, h3⟩
  · refine .inl ⟨h1, h2, List.count_eq_zero.2 fun hm => ?_⟩
    obtain ⟨e, he, hk⟩ := M.all h hm
    exact h2 e he hk
  · refine .inr ⟨j, e0, h1, h2, h3, ?_⟩
    obtain ⟨h', _, e1, e2⟩ := M.keys e0 (List.mem_of_getElem? h2)
    have : h' = h := hitV_inj (e1.symm.trans h3)
    subst this; exact e2
theorem HM.look (M : HM es clock l) (hw : wfH h) (hb : w.heap[b]? = some (.map es clock)) :
    (Instr.lookup 45 (.map (some b)) (hitV h) false).run Try.prog w = .ok (.int .i64 (l.count h : Nat)) w := by
  obtain ⟨kl, hkey⟩ := hit_key hw
  have hz : ∀ u : World, (zeroValue 3).run Try.prog u = .ok (.int .i64 0) u := fun u => by kernel_rfl
  rcases M.find hw w with ⟨h1, _, h2⟩ | ⟨j, e0, h1, _, _, h4⟩
  · simp [Instr.lookup, run_underlying Try.underlying45, MapKept.run_getObj_map hb, hitLaw.check w _ hkey, h1, hz, Result.andThen, h2]
  · simp [Instr.lookup, run_underlying Try.underlying45, MapKept.run_getObj_map hb, hitLaw.check w _ hkey, h1, h4, Result.andThen]
theorem HM.entry (M : HM es clock l) (hw : wfH h) (hb : w.heap[b]? = some (.map es clock)) :
    ∃ (v0 : Value) (st : Nat) (es1 : Array MapEntry) (clock1 : Nat), (Instr.mapEntry 45 (.map (some b)) (hitV h)).run Try.prog w = .ok (.tuple #[v0, .int .i64 (st : Int)]) (setBlock w b (.map es1 clock1)) ∧
      HM es1 clock1 l ∧ ∃ (j : Nat) (e0 : MapEntry), es1.toList[j]? = some e0 ∧ e0.key = hitV h ∧ e0.born = st := by
  obtain ⟨kl, hkey⟩ := hit_key hw
  have hz : ∀ u : World, (zeroValue 3).run Try.prog u = .ok (.int .i64 0) u := fun u => by kernel_rfl
  rcases M.find hw w with ⟨h1, h2, h3⟩ | ⟨j, e0, h1, h2, h3, h4⟩
  · refine ⟨.int .i64 0, clock, es.push ⟨hitV h, .int .i64 0, clock⟩, clock + 1, ?_, ⟨fun e he => ?_, fun h' hh => ?_, ?_, fun e he => ?_, ?_⟩, es.size, ⟨hitV h, .int .i64 0, clock⟩, by simp, rfl, rfl⟩
    · simp [Instr.mapEntry, run_underlying Try.underlying45, MapKept.run_getObj_map hb, hitLaw.check w false hkey, h1, hz, MapKept.run_setObj_map _ hb, Result.andThen, setBlock, goInt]
    · simp only [Array.toList_push, List.mem_append, List.mem_singleton] at he
      rcases he with he | rfl
      · exact M.keys e he
      · exact ⟨h, hw, rfl, by rw [h3]; rfl⟩
    · obtain ⟨e, he, hk⟩ := M.all h' hh
      exact ⟨e, by simp [he], hk⟩
    · simp only [Array.toList_push, List.map_append, List.map_cons, List.map_nil]
      refine List.nodup_append.2 ⟨M.nod, by simp, fun a ha c hc e1 => ?_⟩
      simp only [List.mem_singleton] at hc
      obtain ⟨x, hx, rfl⟩ := List.mem_map.1 ha
      exact h2 x hx (e1.trans hc)
    · simp only [Array.toList_push, List.mem_append, List.mem_singleton] at he
      rcases he with he | rfl
      · exact Nat.lt_succ_of_lt (M.born e he)
      · exact Nat.lt_succ_self _
    · simp only [Array.toList_push, List.map_append, List.map_cons, List.map_nil]
      refine List.nodup_append.2 ⟨M.nodb, by simp, fun a ha c hc e1 => ?_⟩
      simp only [List.mem_singleton] at hc
      obtain ⟨x, hx, rfl⟩ := List.mem_map.1 ha
      have := M.born x hx
      omega
  · have hj : es[j]? = some e0 := by simpa using h2
    have hsame : es.modify j (fun e => { e with key := hitV h }) = es := by
      apply Array.ext'
      rw [Array.toList_modify, ChangeMaps.modify_eq_set _ _ _ _ h2]
      have : ({ e0 with key := hitV h } : MapEntry) = e0 := by rw [← h3]
      rw [this]
      exact WideElems.set_self _ _ _ h2
    exact ⟨e0.val, e0.born, es, clock, by simp [Instr.mapEntry, run_underlying Try.underlying45, MapKept.run_getObj_map hb, hitLaw.check w false hkey, h1, hj, h3, hitLaw.stays w hkey, hsame, MapKept.run_setObj_map _ hb, Result.andThen, setBlock, goInt], M, j, e0, h2, h3, rfl⟩
theorem HM.store (M : HM es clock l) (hw : wfH h) (hb : w.heap[b]? = some (.map es clock)) {j : Nat} {e0 : MapEntry} (hj : es.toList[j]? = some e0) (hk : e0.key = hitV h) {st : Nat} (hst : e0.born = st) :
    ∃ (es' : Array MapEntry) (clock' : Nat), (Instr.entryStore 45 (.map (some b)) (.int .i64 (st : Int)) (.int .i64 ((l.count h + 1 : Nat) : Int))).run Try.prog w = .ok () (setBlock w b (.map es' clock')) ∧ HM es' clock' (l ++ [h]) := by
  subst hst
  have hidx : es.findIdx? (fun e => ((e.born : Nat) : Int) == ((e0.born : Nat) : Int)) = some j := by
    rw [WideElems.findIdx_arr]
    exact WideElems.findIdx_born M.nodb hj
  have hset : (es.modify j (fun e => { e with val := .int .i64 ((l.count h + 1 : Nat) : Int) })).toList = es.toList.set j { e0 with val := .int .i64 ((l.count h + 1 : Nat) : Int) } := by
    rw [Array.toList_modify, ChangeMaps.modify_eq_set _ _ _ _ hj]
  refine ⟨es.modify j (fun e => { e with val := .int .i64 ((l.count h + 1 : Nat) : Int) }), clock, ?_, ?_⟩
  · simp [Instr.entryStore, MapKept.run_getObj_map hb, asInt, asIntOf, hidx, MapKept.run_setObj_map _ hb, Result.andThen, setBlock]
  · have hjl : j < es.toList.length := (List.getElem?_eq_some_iff.1 hj).1
    have mem : ∀ e ∈ es.toList.set j { e0 with val := .int .i64 ((l.count h + 1 : Nat) : Int) }, e = { e0 with val := .int .i64 ((l.count h + 1 : Nat) : Int) } ∨ (e ∈ es.toList ∧ e.key ≠ hitV h) := fun e he => by
      obtain ⟨i, hi⟩ := List.getElem?_of_mem he
      rw [List.getElem?_set] at hi
      by_cases e1 : j = i
      · subst e1
        rw [if_pos rfl, if_pos hjl] at hi
        injection hi with hi; exact .inl hi.symm
      · rw [if_neg e1] at hi
        refine .inr ⟨List.mem_of_getElem? hi, fun hk' => e1 ?_⟩
        have hil : i < es.toList.length := (List.getElem?_eq_some_iff.1 hi).1
        have h1 : (es.toList.map (·.key))[j]? = some (hitV h) := by rw [List.getElem?_map, hj]; simp [hk]
        have h2 : (es.toList.map (·.key))[i]? = some (hitV h) := by rw [List.getElem?_map, hi]; simp [hk']
        exact (List.getElem?_inj (by simpa using hjl) M.nod).1 (h1.trans h2.symm)
    refine ⟨fun e he => ?_, fun h' hh => ?_, ?_, fun e he => ?_, ?_⟩
    · rw [hset] at he
      rcases mem e he with rfl | ⟨he, hne⟩
      · exact ⟨h, hw, hk, by simp [List.count_append]⟩
      · obtain ⟨h', hw', e1, e2⟩ := M.keys e he
        refine ⟨h', hw', e1, ?_⟩
        have hne' : h ≠ h' := fun e3 => hne (by rw [e1, e3])
        rw [e2, List.count_append, List.count_cons, if_neg (by simpa using hne')]; simp
    · rw [hset]
      have hm : ∃ e ∈ es.toList, e.key = hitV h' := by
        rcases List.mem_append.1 hh with hm | hm
        · exact M.all h' hm
        · rw [List.mem_singleton.1 hm]; exact ⟨e0, List.mem_of_getElem? hj, hk⟩
      obtain ⟨e, he, hek⟩ := hm
      obtain ⟨i, hi⟩ := List.getElem?_of_mem he
      by_cases e1 : j = i
      · subst e1
        rw [hj] at hi
        injection hi with hi
        subst hi
        exact ⟨{ e0 with val := .int .i64 ((l.count h + 1 : Nat) : Int) }, List.mem_of_getElem? (i := j) (by rw [List.getElem?_set, if_pos rfl, if_pos hjl]), hek⟩
      · exact ⟨e, List.mem_of_getElem? (i := i) (by rw [List.getElem?_set, if_neg e1]; exact hi), hek⟩
    · rw [hset, List.map_set, show (({ e0 with val := .int .i64 ((l.count h + 1 : Nat) : Int) } : MapEntry).key) = e0.key from rfl, WideElems.set_self _ _ _ (by rw [List.getElem?_map, hj]; rfl)]
      exact M.nod
    · rw [hset] at he
      rcases mem e he with rfl | ⟨he, _⟩
      · exact M.born e0 (List.mem_of_getElem? hj)
      · exact M.born e he
    · rw [hset, List.map_set, show (({ e0 with val := .int .i64 ((l.count h + 1 : Nat) : Int) } : MapEntry).born) = e0.born from rfl, WideElems.set_self _ _ _ (by rw [List.getElem?_map, hj]; rfl)]
      exact M.nodb
theorem setBlock_below {B : Nat} {a w : World} {b : Nat} {es : Array MapEntry} {clock : Nat} (h : Below B a w) (hb : w.heap[b]? = some (.map es clock)) (hB : B ≤ b) (o : Obj) : Below B a (setBlock w b o) :=
  ⟨h.os, h.tape, h.output, by simpa [setBlock] using h.size, fun k hk => (ChangeMaps.heap_setBlock_other hb o (by omega)).trans (h.block k hk)⟩
end
end Go.Proofs.Ytggbokgacffamab
