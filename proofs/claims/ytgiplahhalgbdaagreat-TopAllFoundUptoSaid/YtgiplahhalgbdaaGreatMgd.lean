/-
  Texts of one part, put together. No condition.
-/
import Derived.Test.YtgiplahhalgbdaaGreatProg
import Derived.Test.YtgiplahhalgbdaaGreatHit
import Derived.DeepKeys4
import Derived.WideKeyEntry
import Derived.Test.YtgiplahhalgbdaaGreatChecked
import Derived.IntWalk
import Derived.Test.YtgiplahhalgbdaaGreatHitS
import Derived.Laws.Externs
import Derived.Deep.RegionLaw
import Derived.Carry
import Derived.Lib.SlBuf
/-
  The package recall: a map of counts, keyed by hits. Conditions: the numbers are those of uint64.
-/
namespace Go.Proofs.YtgiplahhalgbdaaGreat
open Go.RowKit
open Go.ChangeMaps (setBlock)

def hitV (h : Hit) : Value := .agg #[.int .u64 h.1, .int .u64 h.2]
theorem hitV_inj {a b : Hit} (h : hitV a = hitV b) : a = b := by
  unfold hitV at h
  injection h with h
  have h1 := congrArg (·[0]?) h
  have h2 := congrArg (·[1]?) h
  simp at h1 h2
  exact Prod.ext h1 h2
theorem wf_u64_of {n : Int} (h : 0 ≤ n ∧ n ≤ 18446744073709551615) : (Lit.int .u64 n).wf = true := by
  simp only [Lit.wf, Bool.and_eq_true, decide_eq_true_eq]
  exact h
theorem laidOutR : laidOutB Tryz.prog = true := by kernel_rfl
theorem hitLaw : WideMaps.KeyLaw Tryz.prog 42 :=
  deep_law_laid laidOutR (m := 10) (by decide) (by decide +kernel) (by kernel_rfl) (by kernel_rfl)
theorem keyLits_u64 (d : Nat) {n : Int} (h : (Lit.int .u64 n).wf = true) : Tryz.prog.keyLits (d + 1) 26 [.int .u64 n] = some [.int .u64 n] := by
  unfold Program.keyLits
  rw [Tryz.underlying26]
  simp only [h, and_self, if_true]
theorem hit_key {h : Hit} (hw : wfH h) : ∃ l, keyOf Tryz.prog 42 (hitV h) = some l := by
  have h1 := wf_u64_of hw.1
  have h2 := wf_u64_of hw.2
  have e : Tryz.prog.keyLits (Tryz.prog.types.size + 1) 42 [.int .u64 h.1, .int .u64 h.2] = some [.int .u64 h.1, .int .u64 h.2] := by
    obtain ⟨d, hd⟩ : ∃ d, Tryz.prog.types.size + 1 = d + 2 := ⟨Tryz.prog.types.size - 1, by decide +kernel⟩
    rw [hd]
    have k1 := keyLits_u64 d h1
    have k2 := keyLits_u64 d h2
    unfold Program.keyLits
    rw [Tryz.underlying42]
    simp only []
    rw [if_pos ⟨by kernel_rfl, by kernel_rfl⟩]
    have kc : Tryz.prog.cellsOf 26 = 1 := by kernel_rfl
    simp [List.mapM_cons, kc, k1, k2]
  unfold keyOf hitV
  rw [Tryz.underlying42]
  simp only []
  rw [if_pos (by kernel_rfl)]
  exact ⟨_, by rw [show (Value.agg #[Value.int IntKind.u64 h.1, Value.int IntKind.u64 h.2]).cells.toList = [.int .u64 h.1, .int .u64 h.2] from rfl, e]; rfl⟩

/-- a map's entries count the hits of a list -/
structure HM (es : Array MapEntry) (clock : Nat) (l : List Hit) : Prop where
  keys : ∀ e ∈ es.toList, ∃ h, wfH h ∧ e.key = hitV h ∧ e.val = .int .i64 (l.count h : Nat)
  all : ∀ h ∈ l, ∃ e ∈ es.toList, e.key = hitV h
  nod : (es.toList.map (·.key)).Nodup
  born : ∀ e ∈ es.toList, e.born < clock
  nodb : (es.toList.map (·.born)).Nodup
theorem HM.start : HM #[] 0 [] := ⟨fun e h => by simp at h, fun h hh => by simp at hh, by simp, fun e h => by simp at h, by simp⟩
section
variable {w : World} {b : Nat} {es : Array MapEntry} {clock : Nat} {l : List Hit} {h : Hit}
theorem HM.find (M : HM es clock l) (hw : wfH h) (w : World) :
    ((Instr.findKey 42 (hitV h) es.toList).run Tryz.prog w = .ok none w ∧ (∀ e ∈ es.toList, e.key ≠ hitV h) ∧ l.count h = 0) ∨
    ∃ (j : Nat) (e : MapEntry), (Instr.findKey 42 (hitV h) es.toList).run Tryz.prog w = .ok (some (j, e.val)) w ∧ es.toList[j]? = some e ∧ e.key = hitV h ∧ e.val = .int .i64 (l.count h : Nat) := by
  obtain ⟨kl, hkey⟩ := hit_key hw
  rcases hitLaw.find w hkey es.toList (fun e he => by
    obtain ⟨h', hw', e1, _⟩ := M.keys e he
    rw [e1]; exact hit_key hw') with ⟨h1, h2⟩ | ⟨j, e0, h1, h2, h3⟩
  · refine .inl ⟨h1, h2, List.count_eq_zero.2 fun hm => ?_⟩
    obtain ⟨e, he, hk⟩ := M.all h hm
    exact h2 e he hk
  · refine .inr ⟨j, e0, h1, h2, h3, ?_⟩
    obtain ⟨h', _, e1, e2⟩ := M.keys e0 (List.mem_of_getElem? h2)
    have : h' = h := hitV_inj (e1.symm.trans h3)
    subst this; exact e2
theorem HM.look (M : HM es clock l) (hw : wfH h) (hb : w.heap[b]? = some (.map es clock)) :
    (Instr.lookup 61 (.map (some b)) (hitV h) false).run Tryz.prog w = .ok (.int .i64 (l.count h : Nat)) w := by
  obtain ⟨kl, hkey⟩ := hit_key hw
  have hz : ∀ u : World, (zeroValue 3).run Tryz.prog u = .ok (.int .i64 0) u := fun u => by kernel_rfl
  rcases M.find hw w with ⟨h1, _, h2⟩ | ⟨j, e0, h1, _, _, h4⟩
  · simp [Instr.lookup, run_underlying Tryz.underlying61, MapKept.run_getObj_map hb, hitLaw.check w _ hkey, h1, hz, Result.andThen, h2]
  · simp [Instr.lookup, run_underlying Tryz.underlying61, MapKept.run_getObj_map hb, hitLaw.check w _ hkey, h1, h4, Result.andThen]
theorem HM.entry (M : HM es clock l) (hw : wfH h) (hb : w.heap[b]? = some (.map es clock)) :
    ∃ (v0 : Value) (st : Nat) (es1 : Array MapEntry) (clock1 : Nat), (Instr.mapEntry 61 (.map (some b)) (hitV h)).run Tryz.prog w = .ok (.tuple #[v0, .int .i64 (st : Int)]) (setBlock w b (.map es1 clock1)) ∧
      HM es1 clock1 l ∧ ∃ (j : Nat) (e0 : MapEntry), es1.toList[j]? = some e0 ∧ e0.key = hitV h ∧ e0.born = st := by
  obtain ⟨kl, hkey⟩ := hit_key hw
  have hz : ∀ u : World, (zeroValue 3).run Tryz.prog u = .ok (.int .i64 0) u := fun u => by kernel_rfl
  rcases M.find hw w with ⟨h1, h2, h3⟩ | ⟨j, e0, h1, h2, h3, h4⟩
  · refine ⟨.int .i64 0, clock, es.push ⟨hitV h, .int .i64 0, clock⟩, clock + 1, ?_, ⟨fun e he => ?_, fun h' hh => ?_, ?_, fun e he => ?_, ?_⟩, es.size, ⟨hitV h, .int .i64 0, clock⟩, by simp, rfl, rfl⟩
    · simp [Instr.mapEntry, run_underlying Tryz.underlying61, MapKept.run_getObj_map hb, hitLaw.check w false hkey, h1, hz, MapKept.run_setObj_map _ hb, Result.andThen, setBlock, goInt]
    · simp only [Array.toList_push, List.mem_append, List.mem_singleton] at he
      rcases he with he | rfl
      · exact M.keys e he
      · exact ⟨h, hw, rfl, by rw [h3]; rfl⟩
    · obtain ⟨e, he, hk⟩ := M.all h' hh
      exact ⟨e, by simp [he], hk⟩
    · simp only [Array.toList_push, List.map_append, List.map_cons, List.map_nil]
      refine List.nodup_append.2 ⟨M.nod, by simp, fun a ha c hc e1 => ?_⟩
      simp only [List.mem_singleton] at hc
      obtain ⟨x, hx, rfl⟩ := List.mem_map.1 ha
      exact h2 x hx (e1.trans hc)
    · simp only [Array.toList_push, List.mem_append, List.mem_singleton] at he
      rcases he with he | rfl
      · exact Nat.lt_succ_of_lt (M.born e he)
      · exact Nat.lt_succ_self _
    · simp only [Array.toList_push, List.map_append, List.map_cons, List.map_nil]
      refine List.nodup_append.2 ⟨M.nodb, by simp, fun a ha c hc e1 => ?_⟩
      simp only [List.mem_singleton] at hc
      obtain ⟨x, hx, rfl⟩ := List.mem_map.1 ha
      have := M.born x hx
      omega
  · have hj : es[j]? = some e0 := by simpa using h2
    have hsame : es.modify j (fun e => { e with key := hitV h }) = es := by
      apply Array.ext'
      rw [Array.toList_modify, ChangeMaps.modify_eq_set _ _ _ _ h2]
      have : ({ e0 with key := hitV h } : MapEntry) = e0 := by rw [← h3]
      rw [this]
      exact WideElems.set_self _ _ _ h2
    exact ⟨e0.val, e0.born, es, clock, by simp [Instr.mapEntry, run_underlying Tryz.underlying61, MapKept.run_getObj_map hb, hitLaw.check w false hkey, h1, hj, h3, hitLaw.stays w hkey, hsame, MapKept.run_setObj_map _ hb, Result.andThen, setBlock, goInt], M, j, e0, h2, h3, rfl⟩
theorem HM.store (M : HM es clock l) (hw : wfH h) (hb : w.heap[b]? = some (.map es clock)) {j : Nat} {e0 : MapEntry} (hj : es.toList[j]? = some e0) (hk : e0.key = hitV h) {st : Nat} (hst : e0.born = st) :
    ∃ (es' : Array MapEntry) (clock' : Nat), (Instr.entryStore 61 (.map (some b)) (.int .i64 (st : Int)) (.int .i64 ((l.count h + 1 : Nat) : Int))).run Tryz.prog w = .ok () (setBlock w b (.map es' clock')) ∧ HM es' clock' (l ++ [h]) := by
  subst hst
  have hidx : es.findIdx? (fun e => ((e.born : Nat) : Int) == ((e0.born : Nat) : Int)) = some j := by
    rw [WideElems.findIdx_arr]
    exact WideElems.findIdx_born M.nodb hj
  have hset : (es.modify j (fun e => { e with val := .int .i64 ((l.count h + 1 : Nat) : Int) })).toList = es.toList.set j { e0 with val := .int .i64 ((l.count h + 1 : Nat) : Int) } := by
    rw [Array.toList_modify, ChangeMaps.modify_eq_set _ _ _ _ hj]
  refine ⟨es.modify j (fun e => { e with val := .int .i64 ((l.count h + 1 : Nat) : Int) }), clock, ?_, ?_⟩
  · simp [Instr.entryStore, MapKept.run_getObj_map hb, asInt, asIntOf, hidx, MapKept.run_setObj_map _ hb, Result.andThen, setBlock]
  · have hjl : j < es.toList.length := (List.getElem?_eq_some_iff.1 hj).1
    have mem : ∀ e ∈ es.toList.set j { e0 with val := .int .i64 ((l.count h + 1 : Nat) : Int) }, e = { e0 with val := .int .i64 ((l.count h + 1 : Nat) : Int) } ∨ (e ∈ es.toList ∧ e.key ≠ hitV h) := fun e he => by
      obtain ⟨i, hi⟩ := List.getElem?_of_mem he
      rw [List.getElem?_set] at hi
      by_cases e1 : j = i
      · subst e1
        rw [if_pos rfl, if_pos hjl] at hi
        injection hi with hi; exact .inl hi.symm
      · rw [if_neg e1] at hi
        refine .inr ⟨List.mem_of_getElem? hi, fun hk' => e1 ?_⟩
        have hil : i < es.toList.length := (List.getElem?_eq_some_iff.1 hi).1
        have h1 : (es.toList.map (·.key))[j]? = some (hitV h) := by rw [List.getElem?_map, hj]; simp [hk]
        have h2 : (es.toList.map (·.key))[i]? = some (hitV h) := by rw [List.getElem?_map, hi]; simp [hk']
        exact (List.getElem?_inj (by simpa using hjl) M.nod).1 (h1.trans h2.symm)
    refine ⟨fun e he => ?_, fun h' hh => ?_, ?_, fun e he => ?_, ?_⟩
    · rw [hset] at he
      rcases mem e he with rfl | ⟨he, hne⟩
      · exact ⟨h, hw, hk, by simp [List.count_append]⟩
      · obtain ⟨h', hw', e1, e2⟩ := M.keys e he
        refine ⟨h', hw', e1, ?_⟩
        have hne' : h ≠ h' := fun e3 => hne (by rw [e1, e3])
        rw [e2, List.count_append, List.count_cons, if_neg (by simpa using hne')]; simp
    · rw [hset]
      have hm : ∃ e ∈ es.toList, e.key = hitV h' := by
        rcases List.mem_append.1 hh with hm | hm
        · exact M.all h' hm
        · rw [List.mem_singleton.1 hm]; exact ⟨e0, List.mem_of_getElem? hj, hk⟩
      obtain ⟨e, he, hek⟩ := hm
      obtain ⟨i, hi⟩ := List.getElem?_of_mem he
      by_cases e1 : j = i
      · subst e1
        rw [hj] at hi
        injection hi with hi
        subst hi
        exact ⟨{ e0 with val := .int .i64 ((l.count h + 1 : Nat) : Int) }, List.mem_of_getElem? (i := j) (by rw [List.getElem?_set, if_pos rfl, if_pos hjl]), hek⟩
      · exact ⟨e, List.mem_of_getElem? (i := i) (by rw [List.getElem?_set, if_neg e1]; exact hi), hek⟩
    · rw [hset, List.map_set, show (({ e0 with val := .int .i64 ((l.count h + 1 : Nat) : Int) } : MapEntry).key) = e0.key from rfl, WideElems.set_self _ _ _ (by rw [List.getElem?_map, hj]; rfl)]
      exact M.nod
    · rw [hset] at he
      rcases mem e he with rfl | ⟨he, _⟩
      · exact M.born e0 (List.mem_of_getElem? hj)
      · exact M.born e he
    · rw [hset, List.map_set, show (({ e0 with val := .int .i64 ((l.count h + 1 : Nat) : Int) } : MapEntry).born) = e0.born from rfl, WideElems.set_self _ _ _ (by rw [List.getElem?_map, hj]; rfl)]
      exact M.nodb
theorem setBlock_below {B : Nat} {a w : World} {b : Nat} {es : Array MapEntry} {clock : Nat} (h : Below B a w) (hb : w.heap[b]? = some (.map es clock)) (hB : B ≤ b) (o : Obj) : Below B a (setBlock w b o) :=
  ⟨h.os, h.tape, h.output, by simpa [setBlock] using h.size, fun k hk => (ChangeMaps.heap_setBlock_other hb o (by omega)).trans (h.block k hk)⟩
end
end Go.Proofs.YtgiplahhalgbdaaGreat

/-
  The package recall, its small functions: first, has, held, permille; hits as cells. Conditions: the slices read as lists of hits.
-/
namespace Go.Proofs.YtgiplahhalgbdaaGreat
open Go.RowKit

theorem sl_eq {A : Option Addr} {x y c : Nat} (h : x = y) : Value.slice A x c = Value.slice A y c := by rw [h]
/-- how many are first -/
def fstN (k : Int) (n : Nat) : Nat := min k.toNat n
theorem fstN_le (k : Int) (n : Nat) : fstN k n ≤ n := Nat.min_le_right _ _
set_option maxHeartbeats 1000000 in
theorem r_first_any (A : Option Addr) (n c : Nat) (k : Int) (w : World) (hc : n ≤ c) (hm : c ≤ 9223372036854775807) :
    Calls Tryz.prog 21 #[.slice A n c, .int .i64 k] w fun e w' => e = .returned (.slice A (fstN k n) c) ∧ w = w' := by
  by_cases h0 : k < 0
  · have e : fstN k n = 0 := by unfold fstN; omega
    have g1 : ¬ (n : Int) < k := by omega
    have g2 : k < (n : Int) := by omega
    rw [e]
    go_enter Tryz.func21, Tryz.ntmps21
    go_wp2
    all_goals go_ret
    all_goals exact ⟨congrArg Ending.returned (sl_eq (by omega)), rfl⟩
  · obtain ⟨j, rfl⟩ : ∃ j : Nat, k = j := ⟨k.toNat, by omega⟩
    by_cases h1 : j < n
    · have e : fstN j n = j := by unfold fstN; omega
      have g1 : ¬ n < j := by omega
      rw [e]
      go_enter Tryz.func21, Tryz.ntmps21
      go_wp2
      all_goals go_ret
      all_goals exact ⟨congrArg Ending.returned (sl_eq (by omega)), rfl⟩
    · have e : fstN j n = n := by unfold fstN; omega
      rw [e]
      by_cases h2 : n < j
      · go_enter Tryz.func21, Tryz.ntmps21
        go_wp2
        all_goals go_ret
        all_goals exact ⟨congrArg Ending.returned (sl_eq (by omega)), rfl⟩
      · obtain rfl : j = n := by omega
        go_enter Tryz.func21, Tryz.ntmps21
        go_wp2
        all_goals go_ret
        all_goals exact ⟨congrArg Ending.returned (sl_eq (by omega)), rfl⟩
/-- a part as it counts -/
def hB (b : Int) : Int := min b 2147483647
def hA (a b : Int) : Int := max 0 (min a (hB b))
theorem hB_le (b : Int) : hB b ≤ 2147483647 := by unfold hB; omega
theorem hA_le (a b : Int) : 0 ≤ hA a b ∧ hA a b ≤ 2147483647 := by unfold hA hB; omega
theorem agg2 {a b c d : Int} (h : a = b) (k : c = d) : Value.agg #[.int .i64 a, .int .i64 c] = Value.agg #[.int .i64 b, .int .i64 d] := by rw [h, k]
theorem tup2 {a b c d : Int} (h : a = b) (k : c = d) : Ending.returned (.tuple #[.int .i64 a, .int .i64 c]) = Ending.returned (.tuple #[.int .i64 b, .int .i64 d]) := by rw [h, k]
theorem part_cell {fn : Func} {p : Tmp} (h : fn.results = #[.cell p 65]) (tmps : Array Value) (w : World) (g : Nat) (x y : Int) (hp : tmps.getD p undef = .pointer (some ⟨g, 0, none⟩)) (hg : w.heap[g]? = some (.cells #[.int .i64 x, .int .i64 y] 65 (0, 0))) :
    (results fn tmps).run Tryz.prog w = .ok (.agg #[.int .i64 x, .int .i64 y]) w :=
  results_cell_row h tmps w g 65 _ (0, 0) _ hp hg Tryz.underlying65 rfl (by kernel_rfl)
set_option maxHeartbeats 1000000 in
theorem held_any (a b : Int) (w : World) : Calls Tryz.prog 22 #[.int .i64 a, .int .i64 b] w fun e w' => e = .returned (.agg #[.int .i64 (hA a b), .int .i64 (hB b)]) ∧ Below w.heap.size w w' := by
  go_enter Tryz.func22, Tryz.ntmps22
  go_wp2
  all_goals refine bodyPost_ret (part_cell rfl _ _ w.heap.size _ _ rfl (heap_alloc_new _ _)) rfl ⟨congrArg Ending.returned (agg2 ?_ ?_), below1 _ _⟩
  all_goals first | (simp only [hA, hB]; omega) | (simp only [hA, hB]; done)
end Go.Proofs.YtgiplahhalgbdaaGreat

/-
  The package recall: parts of a thousand, of one pair. Conditions: the numbers are those of int.
-/
namespace Go.Proofs.YtgiplahhalgbdaaGreat
open Go.RowKit

def perF (x y : Int) : Int := if y < 1 then 1000 else (1000 * x).tdiv y
theorem perF_le {x y : Int} (hx : 0 ≤ x) (hxy : x ≤ y) (hx2 : x ≤ 2147483647) : 0 ≤ perF x y ∧ perF x y ≤ 1000 * 2147483647 := by
  unfold perF
  split
  · omega
  · rw [Int.tdiv_eq_ediv_of_nonneg (by omega)]
    have h1 : 0 ≤ (1000 * x) / y := Int.ediv_nonneg (by omega) (by omega)
    have h2 : (1000 * x) / y ≤ 1000 * x := Int.ediv_le_self _ (by omega)
    omega
set_option maxHeartbeats 1000000 in
theorem permille_any (x y : Int) (w : World) (hx : 0 ≤ x) (hx2 : x ≤ 2147483647) (hy2 : y ≤ 2147483647) : Calls Tryz.prog 23 #[.agg #[.int .i64 x, .int .i64 y]] w fun e w' => e = .returned (.int .i64 (perF x y)) ∧ Below w.heap.size w w' := by
  by_cases h : y < 1
  · have e : perF x y = 1000 := by unfold perF; rw [if_pos h]
    rw [e]
    go_enter Tryz.func23, Tryz.ntmps23
    go_wp2
    go_ret
    exact ⟨rfl, below1 _ _⟩
  · have e : perF x y = (1000 * x).tdiv y := by unfold perF; rw [if_neg h]
    have h1 : wrap64 (1000 * x) = 1000 * x := by rw [wrap64_i64, IntKind.wrap_i64]; omega
    have h2 : IntKind.i64.wrap (1000 * x) = 1000 * x := by rw [← wrap64_i64]; exact h1
    have h3 : (y == 0) = false := by rw [beq_eq_false_iff_ne]; omega
    have h5 : 0 ≤ (1000 * x) / y := Int.ediv_nonneg (by omega) (by omega)
    have h6 : (1000 * x) / y ≤ 1000 * x := Int.ediv_le_self _ (by omega)
    rw [Int.tdiv_eq_ediv_of_nonneg (by omega)] at e
    go_enter Tryz.func23, Tryz.ntmps23
    go_wp2
    go_ret
    exact ⟨by first | rfl | (rw [e]; rfl), below1 _ _⟩
set_option maxHeartbeats 1000000 in
theorem ePermille_any (a b : Int) (w : World) : Calls Tryz.prog 10 #[.int .i64 a, .int .i64 b] w fun e w' => e = .returned (.int .i64 (perF (hA a b) (hB b))) ∧ Below w.heap.size w w' := by
  go_enter Tryz.func10, Tryz.ntmps10
  go_wp2_with (first
    | (go_at_call 22; refine (held_any a b _).mono ?_; rintro e w1 ⟨rfl, hb⟩; have HB1 := hide hb; clear hb)
    | (go_at_call 23; refine (permille_any (hA a b) (hB b) _ (hA_le a b).1 (hA_le a b).2 (hB_le b)).mono ?_; rintro e w2 ⟨rfl, hb⟩; have HB2 := hide (Below.step HB1.out hb); clear hb))
  go_ret
  exact ⟨rfl, HB2.out⟩
end Go.Proofs.YtgiplahhalgbdaaGreat

/-
  The package recall: whether a hit is among hits; whether two lists of hits are equal. Conditions: the slices read as lists of hits.
-/
namespace Go.Proofs.YtgiplahhalgbdaaGreat
open Go.RowKit

end Go.Proofs.YtgiplahhalgbdaaGreat

/-
  The package recall: how many were found: the document's; by how much what was found is farther: both. Conditions: the slices read as lists of hits.
-/
namespace Go.Proofs.YtgiplahhalgbdaaGreat
open Go.RowKit

/-- how many of the truth were found -/
def cntR (f t : List Hit) : Nat := (t.filter fun h => decide (h ∈ f)).length
theorem cntR_snoc {f t : List Hit} {k : Nat} {x : Hit} (h : t[k]? = some x) : cntR f (t.take (k + 1)) = cntR f (t.take k) + if x ∈ f then 1 else 0 := by
  unfold cntR
  rw [take_snoc h, List.filter_append, List.length_append]
  by_cases e : x ∈ f
  · rw [if_pos e, List.filter_cons_of_pos (by simpa using e)]; simp
  · rw [if_neg e, List.filter_cons_of_neg (by simpa using e)]; simp
theorem cntR_le (f t : List Hit) : cntR f t ≤ t.length := List.length_filter_le _ _
end Go.Proofs.YtgiplahhalgbdaaGreat

/-
  The package recall: what was not found: the document's. Conditions: the slices read as lists of hits.
-/
namespace Go.Proofs.YtgiplahhalgbdaaGreat
open Go.RowKit

/-- the cells of hits -/
def hcs (l : List Hit) : List Value := l.flatMap fun h => [.int .u64 h.1, .int .u64 h.2]
theorem hcs_len (l : List Hit) : (hcs l).length = l.length * 2 := by
  induction l with
  | nil => rfl
  | cons a l ih => simp only [hcs, List.flatMap_cons, List.length_append, List.length_cons] at ih ⊢; rw [ih]; simp; omega
theorem hcs_snoc (l : List Hit) (x : Hit) : hcs (l ++ [x]) = hcs l ++ [.int .u64 x.1, .int .u64 x.2] := by simp [hcs]
theorem hcs_at {l : List Hit} {k : Nat} {x : Hit} (h : l[k]? = some x) : (hcs l)[k * 2]? = some (.int .u64 x.1) ∧ (hcs l)[k * 2 + 1]? = some (.int .u64 x.2) := by
  induction l generalizing k with
  | nil => simp at h
  | cons a l ih =>
    have e : hcs (a :: l) = .int .u64 a.1 :: .int .u64 a.2 :: hcs l := rfl
    rw [e]
    cases k with
    | zero => simp at h; subst h; simp
    | succ k =>
      simp at h
      have := ih h
      rw [show (k + 1) * 2 = k * 2 + 1 + 1 by omega]
      simpa using this
theorem hcs_one (l : List Hit) : ∀ u ∈ hcs l, u.oneCell' = true := by
  intro u hu
  simp only [hcs, List.mem_flatMap] at hu
  obtain ⟨x, _, hx⟩ := hu
  simp at hx
  rcases hx with rfl | rfl <;> rfl
theorem hitsR_mk {w : World} {R : Nat → Prop} {ad : Addr} {l : List Hit} (hR : R ad.block) (h : ∀ (j : Nat) (u : Value), (hcs l)[j]? = some u → w.cell? (ad.add j) = some u) : RdR SH w R (some ad) l := fun _ =>
  ⟨ad, rfl, hR, fun k x hx => ⟨[.int .u64 x.1] ++ [.int .u64 x.2], ⟨[.int .u64 x.1], [.int .u64 x.2], rfl, rfl, rfl⟩, fun j u hu => by
    obtain ⟨h1, h2⟩ := hcs_at hx
    rw [show SH.size = 2 from rfl]
    rcases j with _ | _ | j
    · simp at hu; subst hu; exact h _ _ h1
    · simp at hu; subst hu; exact h _ _ h2
    · simp at hu⟩⟩
theorem hitsR_own {w : World} {base : Nat} {e : TypeId} {A : Option Addr} {n c : Nat} {l : List Hit} (h : w.ownsRow base e 2 (.slice A n c) n (hcs l)) : RdR SH w (Btw base w.heap.size) A l := fun hne => by
  have hl : l.length = n := by have := h.1; rw [hcs_len] at this; omega
  obtain ⟨g, cap, hv, hg, hlt⟩ := h.form (by have := List.length_pos_iff.2 hne; omega)
  have hA : A = some ⟨g, 0, none⟩ := by injection hv
  subst hA
  exact hitsR_mk (R := Btw base w.heap.size) (ad := ⟨g, 0, none⟩) ⟨hg, hlt⟩ (fun j u hu => h.cells (g := g) rfl j _ hu) hne
def NewHits (w : World) (l : List Hit) (v : Value) (w' : World) : Prop :=
  ∃ A n c, v = .slice A n c ∧ l.length = n ∧ n ≤ c ∧ c ≤ 9223372036854775807 ∧ RdR SH w' (Btw w.heap.size w'.heap.size) A l ∧ Below w.heap.size w w'
theorem NewHits.of_own {w w' : World} {e : TypeId} {v : Value} {n : Nat} {l : List Hit} (h : w'.ownsRow w.heap.size e 2 v n (hcs l)) (hb : Below w.heap.size w w') : NewHits w l v w' := by
  obtain ⟨A, c, rfl, h1, h2⟩ := own_form h
  exact ⟨A, n, c, rfl, by have := h.1; rw [hcs_len] at this; omega, h1, h2, hitsR_own h, hb⟩
/-- what was not found -/
def missR (f t : List Hit) : List Hit := t.filter fun h => decide (h ∉ f)
theorem missR_snoc {f t : List Hit} {k : Nat} {x : Hit} (h : t[k]? = some x) : missR f (t.take (k + 1)) = missR f (t.take k) ++ if x ∈ f then [] else [x] := by
  unfold missR
  rw [take_snoc h, List.filter_append]
  by_cases e : x ∈ f
  · rw [if_pos e, List.filter_cons_of_neg (by simpa using e)]; simp
  · rw [if_neg e, List.filter_cons_of_pos (by simpa using e)]; simp
theorem missR_le (f t : List Hit) : (missR f t).length ≤ t.length := List.length_filter_le _ _
theorem info_hit : (Tryz.prog.info? 42).map (fun i => (i.zero, i.size, i.bytes)) = some (some (.agg #[.int .u64 0, .int .u64 0]), 2, 16) := by kernel_rfl

end Go.Proofs.YtgiplahhalgbdaaGreat

/-
  The package recall: by how much what was found is farther: both. Conditions: the slices read as lists of hits.
-/
namespace Go.Proofs.YtgiplahhalgbdaaGreat
open Go.RowKit

def hM (n : Nat) : Nat := min n 18446744073709551615
/-- by how much the first k are farther -/
def behK (f t : List Hit) : Nat → Nat
  | 0 => 0
  | k + 1 => behK f t k + ((f.getD k (0, 0)).1 - (t.getD k (0, 0)).1).toNat
theorem behK_mono (f t : List Hit) {j k : Nat} (h : j ≤ k) : behK f t j ≤ behK f t k := by
  induction k with
  | zero => obtain rfl : j = 0 := by omega
            exact Nat.le_refl _
  | succ k ih =>
    rcases Nat.lt_or_ge j (k + 1) with h' | h'
    · have := ih (by omega); simp only [behK]; omega
    · obtain rfl : j = k + 1 := by omega
      exact Nat.le_refl _
theorem behK_snoc {f t : List Hit} {k : Nat} {x y : Hit} (h : f[k]? = some x) (h' : t[k]? = some y) : behK f t (k + 1) = behK f t k + (x.1 - y.1).toNat := by
  simp [behK, List.getD_eq_getElem?_getD, h, h']
theorem behK_great {f t : List Hit} {j k : Nat} (hj : j ≤ k) (h : 18446744073709551615 < behK f t j) : hM (behK f t k) = 18446744073709551615 := by
  have := behK_mono f t hj; unfold hM; omega
theorem behK_small {f t : List Hit} {k : Nat} (h : behK f t k ≤ 18446744073709551615) : hM (behK f t k) = behK f t k := by unfold hM; omega

theorem run_add64R_small {x y : Int} (hx : 0 ≤ x) (hy : 0 ≤ y) (h : x + y < 18446744073709551616) (w : World) :
    (callFunc 27 #[.int .u64 x, .int .u64 y, .int .u64 0]).run Tryz.prog w = .ok (.value (.tuple #[.int .u64 (x + y), .int .u64 0])) w := by
  rw [run_callFunc_extern Tryz.func27 (by kernel_rfl) (by kernel_rfl) (by kernel_rfl) (e := add64Entry) (by kernel_rfl), run_add64 x y 0 hx hy (by omega) (by omega)]
  simp only [Result.andThen]
  rw [show (x + y + 0) % 18446744073709551616 = x + y by omega, show (x + y + 0) / 18446744073709551616 = 0 by omega]
theorem run_add64R_great {x y : Int} (hx : 0 ≤ x) (hy : 0 ≤ y) (hx1 : x < 18446744073709551616) (hy1 : y < 18446744073709551616) (h : 18446744073709551616 ≤ x + y) (w : World) :
    (callFunc 27 #[.int .u64 x, .int .u64 y, .int .u64 0]).run Tryz.prog w = .ok (.value (.tuple #[.int .u64 (x + y - 18446744073709551616), .int .u64 1])) w := by
  rw [run_callFunc_extern Tryz.func27 (by kernel_rfl) (by kernel_rfl) (by kernel_rfl) (e := add64Entry) (by kernel_rfl), run_add64 x y 0 hx hy (by omega) (by omega)]
  simp only [Result.andThen]
  rw [show (x + y + 0) % 18446744073709551616 = x + y - 18446744073709551616 by omega, show (x + y + 0) / 18446744073709551616 = 1 by omega]

set_option maxHeartbeats 2000000 in
theorem r_behind_any (A B : Option Addr) (n c m d : Nat) (f t : List Hit) (k : Int) (w : World) (hx : Rd SH w w.heap.size A f) (hn : f.length = n) (hc : n ≤ c) (hm : c ≤ 9223372036854775807) (hf : ∀ h ∈ f, wfH h)
    (hy : Rd SH w w.heap.size B t) (hn' : t.length = m) (hd : m ≤ d) (hm' : d ≤ 9223372036854775807) (ht : ∀ h ∈ t, wfH h) :
    Calls Tryz.prog 12 #[.slice A n c, .slice B m d, .int .i64 k] w fun e w' => e = .returned (.int .u64 (hM (behK f t (min (fstN k n) (fstN k m))) : Nat)) ∧ Drew w w' := by
  have HX := hide hx
  have HY := hide hy
  have Hn := hide hn
  have Hm := hide hn'
  have HWf := hide hf
  have HWt := hide ht
  have F1 := fun W => r_first_any A n c k W hc hm
  have F2 := fun W => r_first_any B m d k W hd hm'
  have hpn := fstN_le k n
  have hqm := fstN_le k m
  generalize fstN k n = p at *
  generalize fstN k m = q at *
  clear hx hy hn hn' hf ht
  by_cases hpq : q < p
  · rw [Nat.min_eq_right (Nat.le_of_lt hpq)]
    go_enter Tryz.func12, Tryz.ntmps12
    go_upto_region 4 with (go_at_call 21; first | (with_reducible refine Calls.mono (F1 _) ?_; rintro e w1 ⟨rfl, rfl⟩) | (with_reducible refine Calls.mono (F2 _) ?_; rintro e w1 ⟨rfl, rfl⟩))
    go_loopw [9, 10, 11, 23] (fun u _ _ i wr => ∃ j : Nat, j ≤ q ∧ i = .int .i64 j ∧ u = .int .u64 (behK f t j : Nat) ∧ Hid (behK f t j ≤ 18446744073709551615) ∧ Drew w wr) (fun _ _ _ i _ => q - (intOf i).toNat)
    case atStart => exact ⟨0, by omega, rfl, rfl, hide (by simp [behK]), Drew.refl _⟩
    case round =>
      obtain ⟨j, hj, rfl, rfl, hS, z, rfl⟩ := hrel
      by_cases hlt : j < q
      · obtain ⟨ad, ⟨x1, x2⟩, rfl, _, hv, q0, q1⟩ := HX.out.hcell (k := j) (by have := Hn.out; omega)
        obtain ⟨ad2, ⟨y1, y2⟩, rfl, _, hu, r0, r1⟩ := HY.out.hcell (k := j) (by have := Hm.out; omega)
        have Wx := hide (HWf.out _ (List.mem_of_getElem? hv))
        have Wy := hide (HWt.out _ (List.mem_of_getElem? hu))
        have HSn := hide (behK_snoc hv hu)
        have hwx := Wx.out.1
        have hwy := Wy.out.1
        simp only at q0 q1 r0 r1 HSn hwx hwy
        clear hv hu q1 r1
        have g0 : (0 : Int) ≤ j := by omega
        have g1 : (j : Int) < q := by omega
        have g2 : (j : Int) < p := by omega
        have g3 : (j : Int) < q := by omega
        generalize hb : behK f t j = s at *
        have HE := hide hb
        clear hb
        have hS9 := hS.out
        by_cases hgt : x1 ≤ y1
        · have d1 : decide (y1 < x1) = false := by simp; omega
          have HSe := hide (show behK f t (j + 1) = s by rw [HSn.out, show (x1 - y1).toNat = 0 by omega]; rfl)
          go_upto_region 6 with fail
          go_quiet (fail)
          go_wp2
          go_roundw
          case rel => exact ⟨j + 1, by omega, by go_num, by rw [HSe.out], hide (by rw [HSe.out]; exact hS9), by first | exact ⟨_, rfl⟩ | exact drewN_drewN' _ _ _ | exact ⟨_, by simp only [World.drewN_drewN]; rfl⟩⟩
          case measure => simp [intOf]; omega
        · have d1 : decide (y1 < x1) = true := by simp; omega
          have hsub : IntKind.u64.wrap (x1 - y1) = x1 - y1 := by rw [IntKind.wrap_u64]; omega
          have HD := hide (show behK f t (j + 1) = s + (x1 - y1).toNat from HSn.out)
          by_cases ho : s + (x1 - y1).toNat ≤ 18446744073709551615
          · have hadd := run_add64R_small (x := s) (y := x1 - y1) (by omega) (by omega) (by omega)
            have HSe := hide (show ((behK f t (j + 1) : Nat) : Int) = s + (x1 - y1) by rw [HSn.out]; omega)
            have HSf := hide (show behK f t (j + 1) ≤ 18446744073709551615 by rw [HSn.out]; exact ho)
            clear ho
            go_upto_region 6 with fail
            go_quiet (fail)
            go_upto_region 7 with fail
            go_quiet (fail)
            go_wp2
            go_roundw
            case rel => exact ⟨j + 1, by omega, by go_num, by rw [HSe.out], HSf, by first | exact ⟨_, rfl⟩ | exact drewN_drewN' _ _ _ | exact ⟨_, by simp only [World.drewN_drewN]; rfl⟩⟩
            case measure => simp [intOf]; omega
          · have hadd := run_add64R_great (x := s) (y := x1 - y1) (by omega) (by omega) (by omega) (by omega) (by omega)
            have HF := hide (behK_great (f := f) (t := t) (j := j + 1) (k := q) (by omega) (by rw [HSn.out]; omega))
            clear ho
            go_upto_region 6 with fail
            go_quiet (fail)
            go_upto_region 7 with fail
            go_quiet (fail)
            go_wp2
            go_ret
            exact ⟨by rw [HF.out]; rfl, by first | exact ⟨_, rfl⟩ | exact drewN_drewN' _ _ _ | exact ⟨_, by simp only [World.drewN_drewN]; rfl⟩⟩
      · obtain rfl : j = q := by omega
        have HF := hide (behK_small hS.out)
        go_wp2
        go_ret
        exact ⟨by rw [HF.out]; rfl, by first | exact ⟨_, rfl⟩ | exact drewN_drewN' _ _ _ | exact ⟨_, by simp only [World.drewN_drewN]; rfl⟩⟩
  · rw [Nat.min_eq_left (Nat.le_of_not_lt hpq)]
    go_enter Tryz.func12, Tryz.ntmps12
    go_upto_region 4 with (go_at_call 21; first | (with_reducible refine Calls.mono (F1 _) ?_; rintro e w1 ⟨rfl, rfl⟩) | (with_reducible refine Calls.mono (F2 _) ?_; rintro e w1 ⟨rfl, rfl⟩))
    go_loopw [9, 10, 11, 23] (fun u _ _ i wr => ∃ j : Nat, j ≤ p ∧ i = .int .i64 j ∧ u = .int .u64 (behK f t j : Nat) ∧ Hid (behK f t j ≤ 18446744073709551615) ∧ Drew w wr) (fun _ _ _ i _ => p - (intOf i).toNat)
    case atStart => exact ⟨0, by omega, rfl, rfl, hide (by simp [behK]), Drew.refl _⟩
    case round =>
      obtain ⟨j, hj, rfl, rfl, hS, z, rfl⟩ := hrel
      by_cases hlt : j < p
      · obtain ⟨ad, ⟨x1, x2⟩, rfl, _, hv, q0, q1⟩ := HX.out.hcell (k := j) (by have := Hn.out; omega)
        obtain ⟨ad2, ⟨y1, y2⟩, rfl, _, hu, r0, r1⟩ := HY.out.hcell (k := j) (by have := Hm.out; omega)
        have Wx := hide (HWf.out _ (List.mem_of_getElem? hv))
        have Wy := hide (HWt.out _ (List.mem_of_getElem? hu))
        have HSn := hide (behK_snoc hv hu)
        have hwx := Wx.out.1
        have hwy := Wy.out.1
        simp only at q0 q1 r0 r1 HSn hwx hwy
        clear hv hu q1 r1
        have g0 : (0 : Int) ≤ j := by omega
        have g1 : (j : Int) < p := by omega
        have g2 : (j : Int) < p := by omega
        have g3 : (j : Int) < q := by omega
        generalize hb : behK f t j = s at *
        have HE := hide hb
        clear hb
        have hS9 := hS.out
        by_cases hgt : x1 ≤ y1
        · have d1 : decide (y1 < x1) = false := by simp; omega
          have HSe := hide (show behK f t (j + 1) = s by rw [HSn.out, show (x1 - y1).toNat = 0 by omega]; rfl)
          go_upto_region 6 with fail
          go_quiet (fail)
          go_wp2
          go_roundw
          case rel => exact ⟨j + 1, by omega, by go_num, by rw [HSe.out], hide (by rw [HSe.out]; exact hS9), by first | exact ⟨_, rfl⟩ | exact drewN_drewN' _ _ _ | exact ⟨_, by simp only [World.drewN_drewN]; rfl⟩⟩
          case measure => simp [intOf]; omega
        · have d1 : decide (y1 < x1) = true := by simp; omega
          have hsub : IntKind.u64.wrap (x1 - y1) = x1 - y1 := by rw [IntKind.wrap_u64]; omega
          have HD := hide (show behK f t (j + 1) = s + (x1 - y1).toNat from HSn.out)
          by_cases ho : s + (x1 - y1).toNat ≤ 18446744073709551615
          · have hadd := run_add64R_small (x := s) (y := x1 - y1) (by omega) (by omega) (by omega)
            have HSe := hide (show ((behK f t (j + 1) : Nat) : Int) = s + (x1 - y1) by rw [HSn.out]; omega)
            have HSf := hide (show behK f t (j + 1) ≤ 18446744073709551615 by rw [HSn.out]; exact ho)
            clear ho
            go_upto_region 6 with fail
            go_quiet (fail)
            go_upto_region 7 with fail
            go_quiet (fail)
            go_wp2
            go_roundw
            case rel => exact ⟨j + 1, by omega, by go_num, by rw [HSe.out], HSf, by first | exact ⟨_, rfl⟩ | exact drewN_drewN' _ _ _ | exact ⟨_, by simp only [World.drewN_drewN]; rfl⟩⟩
            case measure => simp [intOf]; omega
          · have hadd := run_add64R_great (x := s) (y := x1 - y1) (by omega) (by omega) (by omega) (by omega) (by omega)
            have HF := hide (behK_great (f := f) (t := t) (j := j + 1) (k := p) (by omega) (by rw [HSn.out]; omega))
            clear ho
            go_upto_region 6 with fail
            go_quiet (fail)
            go_upto_region 7 with fail
            go_quiet (fail)
            go_wp2
            go_ret
            exact ⟨by rw [HF.out]; rfl, by first | exact ⟨_, rfl⟩ | exact drewN_drewN' _ _ _ | exact ⟨_, by simp only [World.drewN_drewN]; rfl⟩⟩
      · obtain rfl : j = p := by omega
        have HF := hide (behK_small hS.out)
        go_wp2
        go_ret
        exact ⟨by rw [HF.out]; rfl, by first | exact ⟨_, rfl⟩ | exact drewN_drewN' _ _ _ | exact ⟨_, by simp only [World.drewN_drewN]; rfl⟩⟩

end Go.Proofs.YtgiplahhalgbdaaGreat

/-
  The package recall: the part of all pairs together: both. Conditions: the slice reads as a list of pairs.
-/
namespace Go.Proofs.YtgiplahhalgbdaaGreat
open Go.RowKit

def SPr : Sh (Int × Int) := Sh.pair (Sh.int .i64) (Sh.int .i64)
theorem Rd.pcell {w : World} {B : Nat} {A : Option Addr} {l : List (Int × Int)} (h : Rd SPr w B A l) {k : Nat} (hk : k < l.length) : ∃ ad x, A = some ad ∧ ad.block < B ∧ l[k]? = some x ∧ w.cell? (ad.add (k * 2)) = some (.int .i64 x.1) ∧ w.cell? ⟨(ad.add (k * 2)).block, (ad.add (k * 2)).off + 1, none⟩ = some (.int .i64 x.2) := by
  obtain ⟨ad, x, cs, e, hb, hx, hr, hc⟩ := RdR.at_ h hk
  obtain ⟨c, d, rfl, hr1, hr2⟩ := hr
  have h1 : c = [.int .i64 x.1] := hr1
  have h2 : d = [.int .i64 x.2] := hr2
  subst h1 h2
  refine ⟨ad, x, e, hb, hx, by simpa [SPr, Sh.pair, Sh.int] using hc 0 _ rfl, ?_⟩
  have := hc 1 _ rfl
  rw [show SPr.size = 2 from rfl, ← add_of_add] at this
  exact this
def scoS (s p : Int × Int) : Int × Int := if hB p.2 < 1 then s else (min (s.1 + hA p.1 p.2) 2147483647, min (s.2 + hB p.2) 2147483647)
/-- the sum of the first k pairs -/
def scoK (l : List (Int × Int)) (k : Nat) : Int × Int := (l.take k).foldl scoS (0, 0)
theorem scoK_snoc {l : List (Int × Int)} {k : Nat} {x : Int × Int} (h : l[k]? = some x) : scoK l (k + 1) = scoS (scoK l k) x := by
  unfold scoK; rw [take_snoc h, List.foldl_append]; rfl
theorem scoS_ok {s p : Int × Int} (h : (0 ≤ s.1 ∧ s.1 ≤ 2147483647) ∧ 0 ≤ s.2 ∧ s.2 ≤ 2147483647) : (0 ≤ (scoS s p).1 ∧ (scoS s p).1 ≤ 2147483647) ∧ 0 ≤ (scoS s p).2 ∧ (scoS s p).2 ≤ 2147483647 := by
  have := hA_le p.1 p.2
  unfold scoS; split
  · exact h
  · simp only; omega
theorem scoK_ok (l : List (Int × Int)) (k : Nat) : (0 ≤ (scoK l k).1 ∧ (scoK l k).1 ≤ 2147483647) ∧ 0 ≤ (scoK l k).2 ∧ (scoK l k).2 ≤ 2147483647 := by
  unfold scoK
  have : ∀ (m : List (Int × Int)) (s : Int × Int), ((0 ≤ s.1 ∧ s.1 ≤ 2147483647) ∧ 0 ≤ s.2 ∧ s.2 ≤ 2147483647) → ((0 ≤ (m.foldl scoS s).1 ∧ (m.foldl scoS s).1 ≤ 2147483647) ∧ 0 ≤ (m.foldl scoS s).2 ∧ (m.foldl scoS s).2 ≤ 2147483647) := by
    intro m
    induction m with
    | nil => exact fun s h => h
    | cons x m ih => exact fun s h => ih _ (scoS_ok h)
  exact this _ _ ⟨⟨by decide, by decide⟩, by decide, by decide⟩
/-- the part of all pairs -/
def scoF (l : List (Int × Int)) : Int := perF (hA (scoK l l.length).1 (scoK l l.length).2) (hB (scoK l l.length).2)
theorem i64_eq {a b : Int} (h : a = b) : Value.int .i64 a = Value.int .i64 b := by rw [h]

end Go.Proofs.YtgiplahhalgbdaaGreat

/-
  The package recall: the part of all pairs together: the program. Conditions: the slice reads as a list of pairs.
-/
namespace Go.Proofs.YtgiplahhalgbdaaGreat
open Go.RowKit

theorem part_cells {W : World} {g : Nat} {a b c d : Int} (h : a = b) (k : c = d) (hk : Blk W g 65 #[.int .i64 a, .int .i64 c]) : Blk W g 65 #[.int .i64 b, .int .i64 d] := by subst h k; exact hk
end Go.Proofs.YtgiplahhalgbdaaGreat

/-
  The package recall: a map that counts hits. Conditions: the slice reads as a list of hits.
-/
namespace Go.Proofs.YtgiplahhalgbdaaGreat
open Go.RowKit ChangeMaps

/-- a map of counts lies at a block -/
def MapAt (w : World) (b : Nat) (l : List Hit) : Prop := ∃ es clock, w.heap[b]? = some (.map es clock) ∧ HM es clock l
theorem MapAt.below {w w' : World} {B b : Nat} {l : List Hit} (h : MapAt w b l) (hb : Below B w w') (hB : b < B) : MapAt w' b l := by
  obtain ⟨es, clock, h1, h2⟩ := h
  exact ⟨es, clock, (hb.block b hB).trans h1, h2⟩
theorem MapAt.lt {w : World} {b : Nat} {l : List Hit} (h : MapAt w b l) : b < w.heap.size := by
  obtain ⟨es, clock, h1, _⟩ := h
  exact (Array.getElem?_eq_some_iff.1 h1).1
set_option maxRecDepth 100000 in
theorem MapAt.look {w : World} {b : Nat} {l : List Hit} (h : MapAt w b l) {x y : Int} (hw : wfH (x, y)) : (Instr.lookup 61 (.map (some b)) (.agg #[.int .u64 x, .int .u64 y]) false).run Tryz.prog w = .ok (.int .i64 (l.count (x, y) : Nat)) w := by
  obtain ⟨es, clock, h1, h2⟩ := h
  exact h2.look hw h1
/-- one step: the entry, then what is stored there -/
theorem MapAt.step {w : World} {b : Nat} {l : List Hit} (h : MapAt w b l) {x y : Int} (hw : wfH (x, y)) : ∃ (v0 : Value) (st : Nat) (w3 w4 : World),
    (Instr.mapEntry 61 (.map (some b)) (.agg #[.int .u64 x, .int .u64 y])).run Tryz.prog w = .ok (.tuple #[v0, .int .i64 (st : Int)]) w3 ∧ MapAt w3 b l ∧ Below b w w3 ∧ (∀ k, k ≠ b → w3.heap[k]? = w.heap[k]?) ∧
    (Instr.entryStore 61 (.map (some b)) (.int .i64 (st : Int)) (.int .i64 ((l.count (x, y) : Int) + 1))).run Tryz.prog w3 = .ok () w4 ∧ MapAt w4 b (l ++ [(x, y)]) ∧ Below b w w4 ∧ (∀ k, k ≠ b → w4.heap[k]? = w.heap[k]?) := by
  obtain ⟨es, clock, h1, h2⟩ := h
  obtain ⟨v0, st, es1, clock1, e1, M1, j, e0, hj, hk, hst⟩ := h2.entry hw h1
  have hb1 := ChangeMaps.heap_setBlock_same h1 (.map es1 clock1)
  obtain ⟨es2, clock2, e2, M2⟩ := M1.store hw hb1 hj hk hst
  have hb2 := ChangeMaps.heap_setBlock_same hb1 (.map es2 clock2)
  have o1 : ∀ k, k ≠ b → (setBlock w b (.map es1 clock1)).heap[k]? = w.heap[k]? := fun k hk => ChangeMaps.heap_setBlock_other h1 _ hk
  have o2 : ∀ k, k ≠ b → (setBlock (setBlock w b (.map es1 clock1)) b (.map es2 clock2)).heap[k]? = w.heap[k]? := fun k hk => (ChangeMaps.heap_setBlock_other hb1 _ hk).trans (o1 k hk)
  have q1 := setBlock_below (Below.refl b w) h1 (Nat.le_refl _) (.map es1 clock1)
  exact ⟨v0, st, _, _, e1, ⟨_, _, hb1, M1⟩, q1, o1, e2, ⟨_, _, hb2, M2⟩, setBlock_below q1 hb1 (Nat.le_refl _) _, o2⟩

set_option maxHeartbeats 2000000 in
theorem set_any (A : Option Addr) (n c : Nat) (l : List Hit) (w : World) (hx : Rd SH w w.heap.size A l) (hn : l.length = n) (hc : n ≤ c) (hm : c ≤ 9223372036854775807) (hf : ∀ h ∈ l, wfH h) :
    Calls Tryz.prog 20 #[.slice A n c] w fun e w' => e = .returned (.map (some w.heap.size)) ∧ MapAt w' w.heap.size l ∧ Below w.heap.size w w' := by
  have HX := hide hx
  have Hn := hide hn
  have HW := hide hf
  clear hx hn hf
  have hmm := @run_makeMap Tryz.prog
  go_enter Tryz.func20, Tryz.ntmps20
  go_wp2
  go_loopw [5, 9] (fun _ i wr => ∃ j : Nat, j ≤ n ∧ i = .int .i64 j ∧ Hid (MapAt wr w.heap.size (l.take j)) ∧ Hid (Below w.heap.size w wr)) (fun _ i _ => n - (intOf i).toNat)
  case atStart => exact ⟨0, by omega, rfl, hide ⟨_, _, heap_alloc_new _ _, HM.start⟩, hide (below1 _ _)⟩
  case round =>
    obtain ⟨j, hj, rfl, HT, HBl⟩ := hrel
    by_cases hlt : j < n
    · obtain ⟨ad, ⟨x1, x2⟩, rfl, _, hv, q0, q1⟩ := (HX.out.below HBl.out (Nat.le_refl _)).hcell (k := j) (by have := Hn.out; omega)
      simp only at q0 q1
      have hwx := hide (HW.out _ (List.mem_of_getElem? hv))
      have g0 : (0 : Int) ≤ j := by omega
      have g1 : (j : Int) < n := by omega
      have hlt0 := HT.out.lt
      have HB1 := hide (HBl.out.trans ((below1 wr (.cells #[.int .u64 x1, .int .u64 x2] 42)).mono HBl.out.size))
      have HN := hide (Blk.new wr 42 #[.int .u64 x1, .int .u64 x2])
      have HT1 := hide (HT.out.below (below1 wr (.cells #[.int .u64 x1, .int .u64 x2] 42)) HT.out.lt)
      have HSn := hide (take_snoc hv)
      have Hcl := hide (show (l.take j).count (x1, x2) ≤ j from Nat.le_trans List.count_le_length (by rw [List.length_take]; omega))
      clear hv HT
      generalize l.take j = lj at *
      go_upto_region 5 with fail
      generalize wr.alloc (.cells #[.int .u64 x1, .int .u64 x2] 42) = w2 at *
      generalize wr.heap.size = b1 at *
      have HT2 := hide (show MapAt w2.drew w.heap.size lj from HT1.out)
      obtain ⟨v0, st, w3, w4, E1, T3, B3, O3, E2, T4, B4, O4⟩ := HT2.out.step hwx.out
      have L1 := HT2.out.look hwx.out
      have L2 := T3.look hwx.out
      have HN3 : Blk w3 b1 42 #[.int .u64 x1, .int .u64 x2] := (O3 b1 (by omega)).trans HN.out.drew
      have z0 : w2.cell? ⟨b1, 0, none⟩ = some (.int .u64 x1) := HN.out.cell 0
      have z1 : w2.cell? ⟨b1, 1, none⟩ = some (.int .u64 x2) := HN.out.cell 1
      have y0 : w3.cell? ⟨b1, 0, none⟩ = some (.int .u64 x1) := HN3.cell 0
      have y1 : w3.cell? ⟨b1, 1, none⟩ = some (.int .u64 x2) := HN3.cell 1
      have HB4 := hide (show Below w.heap.size w w4 from (below_drewN HB1.out 1).trans B4)
      have HT4 := hide T4
      have hcl := Hcl.out
      clear T3 T4 B3 B4 O3 O4 HN3
      generalize List.count (x1, x2) lj = u at *
      have e1 : IntKind.i64.wrap ((u : Int) + 1) = ((u + 1 : Nat) : Int) := by rw [IntKind.wrap_i64]; omega
      go_region
      all_goals
        go_wp2
        refine ⟨⟨j + 1, by omega, by go_num, by rw [HSn.out]; exact HT4, HB4⟩, ?_⟩
        simp [intOf]; omega
    · obtain rfl : j = n := by omega
      rw [List.take_of_length_le (by have := Hn.out; omega)] at HT
      go_wp2
      go_ret
      exact ⟨rfl, HT.out, HBl.out⟩
end Go.Proofs.YtgiplahhalgbdaaGreat

/-
  The package recall: how many of the truth were found: the program. Conditions: the slices read as lists of hits.
-/
namespace Go.Proofs.YtgiplahhalgbdaaGreat
open Go.RowKit ChangeMaps

theorem count_pos_iff' {l : List Hit} {h : Hit} : 0 < l.count h ↔ h ∈ l := List.count_pos_iff
set_option maxHeartbeats 2000000 in
theorem eRCount_any (A B : Option Addr) (n c m d : Nat) (f t : List Hit) (k : Int) (w : World) (hx : Rd SH w w.heap.size A f) (hn : f.length = n) (hc : n ≤ c) (hm : c ≤ 9223372036854775807) (hf : ∀ h ∈ f, wfH h)
    (hy : Rd SH w w.heap.size B t) (hn' : t.length = m) (hd : m ≤ d) (hm' : d ≤ 9223372036854775807) (ht : ∀ h ∈ t, wfH h) :
    Calls Tryz.prog 9 #[.slice A n c, .slice B m d, .int .i64 k] w fun e w' => e = .returned (.tuple #[.int .i64 (cntR (f.take (fstN k n)) (t.take (fstN k m)) : Nat), .int .i64 (fstN k m : Nat)]) ∧ Below w.heap.size w w' := by
  have HX := hide (hx.take (fstN k n))
  have HY := hide hy
  have Hm := hide hn'
  have HWf := hide (show ∀ h ∈ f.take (fstN k n), wfH h from fun h hh => hf h (List.mem_of_mem_take hh))
  have HWt := hide ht
  have F1 := fun W => r_first_any A n c k W hc hm
  have F2 := fun W => r_first_any B m d k W hd hm'
  have HPl := hide (show (f.take (fstN k n)).length = fstN k n by rw [List.length_take]; have := fstN_le k n; omega)
  have HPc := hide (show fstN k n ≤ c by have := fstN_le k n; omega)
  have hqm := fstN_le k m
  generalize fstN k n = p at *
  generalize fstN k m = q at *
  clear hx hy hn hn' hf ht
  generalize f.take p = fp at *
  have C1 := hide (set_any A p c fp w HX.out HPl.out HPc.out hm HWf.out)
  go_enter Tryz.func9, Tryz.ntmps9
  go_upto_region 5 with (first
    | (go_at_call 21; first | (with_reducible refine Calls.mono (F1 _) ?_; rintro e w1 ⟨rfl, rfl⟩) | (with_reducible refine Calls.mono (F2 _) ?_; rintro e w1 ⟨rfl, rfl⟩))
    | (go_at_call 20; refine C1.out.mono ?_; rintro e w2 ⟨rfl, hMp, hBp⟩; have HM2 := hide hMp; have HB2 := hide hBp; clear hMp hBp))
  have hb0 := HM2.out.lt
  go_loopw [9, 12, 22] (fun u _ i wr => ∃ j : Nat, j ≤ q ∧ i = .int .i64 j ∧ u = .int .i64 (cntR fp (t.take j) : Nat) ∧ Hid (MapAt wr w.heap.size fp) ∧ Hid (Below w.heap.size w wr)) (fun _ _ i _ => q - (intOf i).toNat)
  case atStart => exact ⟨0, by omega, rfl, rfl, HM2, HB2⟩
  case round =>
    obtain ⟨j, hj, rfl, rfl, HT, HBl⟩ := hrel
    by_cases hlt : j < q
    · obtain ⟨ad, ⟨x1, x2⟩, rfl, _, hv, q0, q1⟩ := (HY.out.below HBl.out (Nat.le_refl _)).hcell (k := j) (by have := Hm.out; omega)
      simp only at q0 q1
      have hwx := hide (HWt.out _ (List.mem_of_getElem? hv))
      have g0 : (0 : Int) ≤ j := by omega
      have g1 : (j : Int) < q := by omega
      have HB1 := hide (HBl.out.trans ((below1 wr (.cells #[.int .u64 x1, .int .u64 x2] 42)).mono HBl.out.size))
      have HN := hide (Blk.new wr 42 #[.int .u64 x1, .int .u64 x2])
      have HT1 := hide (HT.out.below (below1 wr (.cells #[.int .u64 x1, .int .u64 x2] 42)) HT.out.lt)
      have HSn := hide (cntR_snoc (f := fp) hv)
      have hcl : cntR fp (t.take j) < q := by have := cntR_le fp (t.take j); rw [List.length_take] at this; omega
      clear hv HT
      go_upto_region 7 with fail
      generalize wr.alloc (.cells #[.int .u64 x1, .int .u64 x2] 42) = w2 at *
      have L1 := HT1.out.look hwx.out
      have z0 : w2.cell? ⟨wr.heap.size, 0, none⟩ = some (.int .u64 x1) := HN.out.cell 0
      have z1 : w2.cell? ⟨wr.heap.size, 1, none⟩ = some (.int .u64 x2) := HN.out.cell 1
      generalize wr.heap.size = b1 at *
      generalize hCn : cntR fp (t.take j) = u at *
      have HCn := hide hCn
      clear hCn
      have e1 : IntKind.i64.wrap ((u : Int) + 1) = ((u + 1 : Nat) : Int) := by rw [IntKind.wrap_i64]; have := Hm.out; omega
      by_cases e : (x1, x2) ∈ fp
      · rw [if_pos e] at HSn
        have hp := count_pos_iff'.2 e
        clear e
        generalize List.count (x1, x2) fp = v at *
        have hp1 : (0 : Int) < v := by omega
        go_wp2
        all_goals
          go_roundw
          case rel => exact ⟨j + 1, by omega, by go_num, by rw [HSn.out]; first | exact i64_eq e1 | rfl | exact i64_eq (by omega), HT1, HB1⟩
          case measure => simp [intOf]; omega
      · rw [if_neg e] at HSn
        have hp : List.count (x1, x2) fp = 0 := List.count_eq_zero.2 e
        rw [hp] at L1
        clear hp e
        go_wp2
        all_goals
          go_roundw
          case rel => exact ⟨j + 1, by omega, by go_num, by rw [HSn.out]; rfl, HT1, HB1⟩
          case measure => simp [intOf]; omega
    · obtain rfl : j = q := by omega
      go_wp2
      go_ret2
      exact ⟨rfl, HBl.out⟩
end Go.Proofs.YtgiplahhalgbdaaGreat

/-
  The package recall: what Missing calls: the closure, slices.Clone, slices.IndexFunc at hits. Conditions: the slices read as lists of hits.
-/
namespace Go.Proofs.YtgiplahhalgbdaaGreat
open Go.RowKit ChangeMaps

theorem hits_reads {w : World} {B m : Nat} {A : Option Addr} {l : List Hit} (h : Rd SH w B A l) (hn : l.length = m) : Reads w B 2 A m (hcs l) := ⟨by rw [hcs_len, hn], fun h0 => by
  have hne : l ≠ [] := fun e => by rw [e] at hn; simp at hn; omega
  obtain ⟨ad, hA, hR, _⟩ := h hne
  refine ⟨ad, hA, hR, fun j u hu => ?_⟩
  have hj : j < l.length * 2 := by
    have := (List.getElem?_eq_some_iff.1 hu).1
    rwa [hcs_len] at this
  obtain ⟨ad', x, hA', _, hx, c0, c1⟩ := RdR.hcell h (k := j / 2) (by omega)
  have e : ad' = ad := by rw [hA] at hA'; injection hA' with e; exact e.symm
  subst e
  obtain ⟨h1, h2⟩ := hcs_at hx
  rcases Nat.mod_two_eq_zero_or_one j with hm | hm
  · have ej : j / 2 * 2 = j := by omega
    rw [ej] at h1 c0
    rw [hu] at h1
    rw [c0]; exact h1.symm
  · have ej : j / 2 * 2 + 1 = j := by omega
    rw [ej] at h2
    rw [hu] at h2
    have : ad'.add j = (ad'.add (j / 2 * 2)).add 1 := by rw [add_of_add, ej]
    rw [this]; exact c1.trans h2.symm⟩

set_option maxHeartbeats 1000000 in
theorem missing1_any (x y : Int) (b b5 : Nat) (f : List Hit) (w : World) (hM : MapAt w b f) (h5 : Blk w b5 61 #[.map (some b)]) (hw : wfH (x, y)) :
    Calls Tryz.prog 26 #[.agg #[.int .u64 x, .int .u64 y], .pointer (some ⟨b5, 0, none⟩)] w fun e w' => e = .returned (.bool (decide ((x, y) ∈ f))) ∧ Below w.heap.size w w' := by
  have h5l := h5.lt
  have HM1 := hide (hM.below (below1 w (.cells #[.int .u64 x, .int .u64 y] 42)) hM.lt)
  have H51 := hide (h5.alloc (.cells #[.int .u64 x, .int .u64 y] 42))
  have HN := hide (Blk.new w 42 #[.int .u64 x, .int .u64 y])
  have HB := hide (below1 w (.cells #[.int .u64 x, .int .u64 y] 42))
  clear hM h5
  go_enter Tryz.func26, Tryz.ntmps26
  go_upto_region 1 with fail
  generalize w.alloc (.cells #[.int .u64 x, .int .u64 y] 42) = w2 at *
  have L1 := HM1.out.look hw
  have z0 : w2.cell? ⟨w.heap.size, 0, none⟩ = some (.int .u64 x) := HN.out.cell 0
  have z1 : w2.cell? ⟨w.heap.size, 1, none⟩ = some (.int .u64 y) := HN.out.cell 1
  have z2 : w2.cell? ⟨b5, 0, none⟩ = some (.map (some b)) := H51.out.cell 0
  by_cases e : (x, y) ∈ f
  · have HD := hide (decide_eq_true e)
    have hp := count_pos_iff'.2 e
    clear e
    generalize List.count (x, y) f = v at *
    have hp1 : (0 : Int) < v := by omega
    go_wp2
    go_ret
    exact ⟨by rw [HD.out]; rfl, HB.out⟩
  · have HD := hide (decide_eq_false e)
    have hp : List.count (x, y) f = 0 := List.count_eq_zero.2 e
    rw [hp] at L1
    clear e hp
    go_wp2
    go_ret
    exact ⟨by rw [HD.out]; rfl, HB.out⟩

set_option maxHeartbeats 1000000 in
theorem clone_any (A : Option Addr) (n c : Nat) (l : List Hit) (w : World) (hx : Rd SH w w.heap.size A l) (hn : l.length = n) (hc : n ≤ c) (hm : c ≤ 9223372036854775807) (h6 : n ≤ 1000) :
    Calls Tryz.prog 25 #[.slice A n c] w fun e w' => ∃ v, e = .returned v ∧ w'.ownsRow w.heap.size 42 2 v n (hcs l) ∧ Below w.heap.size w w' := by
  have he := fun (W : World) (a : Option Addr) (n c : Nat) => Lib.run_eql_slice_nil W 32 42 a n c 0 0 Tryz.underlying32
  rcases A with _ | ad
  · have hl : l = [] := by
      rcases l with _ | ⟨x, l⟩
      · rfl
      · obtain ⟨_, h, _⟩ := hx (by simp)
        cases h
    subst hl
    obtain rfl : n = 0 := by simpa using hn.symm
    go_enter Tryz.func25, Tryz.ntmps25
    go_wp2
    go_ret
    exact ⟨_, rfl, ⟨rfl, .inl ⟨rfl, rfl⟩⟩, Below.refl _ _⟩
  · have HR := hide (hits_reads (w := w.alloc (.cells #[] 42)) (hx.alloc (Nat.le_refl _) _) hn)
    have HO := hide (show (w.alloc (.cells #[] 42)).ownsRow w.heap.size 42 2 (.slice (some ⟨w.heap.size, 0, none⟩) 0 0) 0 [] from ⟨rfl, .inr ⟨w.heap.size, 0, #[], rfl, Nat.le_refl _, heap_alloc_new _ _, Nat.le_refl _, Nat.zero_le _, rfl, rfl⟩⟩)
    have HB := hide (below1 w (.cells #[] 42))
    have Hn := hide hn
    obtain ⟨i, hi, hz⟩ := Option.map_eq_some_iff.1 info_hit
    simp only [Prod.mk.injEq] at hz
    obtain ⟨hz, hs, hy⟩ := hz
    have HI := hide hi
    have HZ := hide hz
    have HS := hide hs
    have HY := hide hy
    clear hx hn hi hz hs hy
    go_enter Tryz.func25, Tryz.ntmps25
    go_wp2_with (at_builtin; refine wpList_append_any _ rfl _ _ 32 rfl w.heap.size 42 i _ 2 16 Tryz.underlying32 HI.out HZ.out HS.out HY.out rfl (by decide) _ 0 [] rfl HO.out w.heap.size (some ad) n c (hcs l) rfl HR.out (hcs_one l) (by simp only [maxLen]; omega) (by omega) HB.out.size ?_; intro v' w9 hown9 hgr9 _; have HO9 := hide hown9; have HB9 := hide (below_own HB.out HO.out HB.out.size hgr9); clear hown9 hgr9)
    all_goals go_ret
    all_goals exact ⟨_, rfl, by have h := HO9.out; rwa [Nat.zero_add] at h, HB9.out⟩

set_option maxHeartbeats 1000000 in
theorem r_indexFunc_any (b b5 : Nat) (f : List Hit) (A : Option Addr) (n c : Nat) (l : List Hit) (w : World) (hM : MapAt w b f) (h5 : Blk w b5 61 #[.map (some b)])
    (hx : Rd SH w w.heap.size A l) (hn : l.length = n) (hc : n ≤ c) (hm : c ≤ 9223372036854775807) (hf : ∀ h ∈ l, wfH h) :
    Calls Tryz.prog 43 #[.slice A n c, .func (.func 26) #[] #[.pointer (some ⟨b5, 0, none⟩)]] w fun e w' =>
      ((e = .returned (.int .i64 (-1)) ∧ ∀ (j : Nat) (x : Hit), l[j]? = some x → x ∉ f) ∨ ∃ (k : Nat) (x : Hit), e = .returned (.int .i64 (k : Int)) ∧ l[k]? = some x ∧ x ∈ f ∧ ∀ (j : Nat) (y : Hit), j < k → l[j]? = some y → y ∉ f) ∧ Below w.heap.size w w' := by
  have HX := hide hx
  have Hn := hide hn
  have HM := hide hM
  have H5 := hide h5
  have HW := hide hf
  clear hx hn hM h5 hf
  go_enter Tryz.func43, Tryz.ntmps43
  go_wp2
  go_loopw [5, 8] (fun _ i wr => ∃ j : Nat, j ≤ n ∧ i = .int .i64 j ∧ Hid (∀ (i : Nat) (y : Hit), i < j → l[i]? = some y → y ∉ f) ∧ Hid (Below w.heap.size w wr)) (fun _ i _ => n - (intOf i).toNat)
  case atStart => exact ⟨0, by omega, rfl, hide (fun i y h => absurd h (by omega)), hide (Below.refl _ _)⟩
  case round =>
    obtain ⟨j, hj, rfl, HA, HBl⟩ := hrel
    by_cases hlt : j < n
    · obtain ⟨ad, ⟨x1, x2⟩, rfl, _, hv, q0, q1⟩ := (HX.out.below HBl.out (Nat.le_refl _)).hcell (k := j) (by have := Hn.out; omega)
      simp only at q0 q1
      have HV := hide hv
      have g0 : (0 : Int) ≤ j := by omega
      have g1 : (j : Int) < n := by omega
      have HC := hide (missing1_any x1 x2 b b5 f wr (HM.out.below HBl.out HM.out.lt) (H5.out.below HBl.out H5.out.lt) (HW.out _ (List.mem_of_getElem? hv)))
      clear hv
      by_cases e : (x1, x2) ∈ f
      · have HE := hide e
        rw [decide_eq_true e] at HC
        clear e
        go_wp2_with (go_at_call 26; (with_reducible refine Calls.mono HC.out ?_); rintro e w6 ⟨rfl, hb⟩; have HB6 := hide (Below.step HBl.out hb); clear hb)
        go_ret
        exact ⟨.inr ⟨j, (x1, x2), rfl, HV.out, HE.out, HA.out⟩, HB6.out⟩
      · have HE := hide e
        rw [decide_eq_false e] at HC
        clear e
        go_wp2_with (go_at_call 26; (with_reducible refine Calls.mono HC.out ?_); rintro e w6 ⟨rfl, hb⟩; have HB6 := hide (Below.step HBl.out hb); clear hb)
        go_roundw
        case rel => exact ⟨j + 1, by omega, by go_num, hide (fun i y hi hy => by
          rcases Nat.lt_or_ge i j with h | h
          · exact HA.out i y h hy
          · obtain rfl : i = j := by omega
            have e := HV.out
            rw [hy] at e; injection e with e; rw [e]; exact HE.out), HB6⟩
        case measure => simp [intOf]; omega
    · obtain rfl : j = n := by omega
      go_wp2
      go_ret
      exact ⟨.inl ⟨rfl, fun i y hy => HA.out i y (by have := (List.getElem?_eq_some_iff.1 hy).1; have := Hn.out; omega) hy⟩, HBl.out⟩
end Go.Proofs.YtgiplahhalgbdaaGreat

/-
  The package recall: slices.DeleteFunc at hits, and Missing. Conditions: the slices read as lists of hits.
-/
namespace Go.Proofs.YtgiplahhalgbdaaGreat
open Go.RowKit ChangeMaps

/-- a block that begins with these hits -/
def RowG (w : World) (g cap : Nat) (l : List Hit) : Prop := ∃ cur : Array Value, w.heap[g]? = some (.cells cur 42 (0, 0)) ∧ cur.size = cap * 2 ∧ cur.toList.take (l.length * 2) = hcs l ∧ l.length ≤ cap
theorem hcs_set (l : List Hit) (i : Nat) (x : Hit) : hcs (l.set i x) = if i < l.length then ((hcs l).set (i * 2) (.int .u64 x.1)).set (i * 2 + 1) (.int .u64 x.2) else hcs l := by
  induction l generalizing i with
  | nil => simp [hcs]
  | cons y l ih =>
    rcases i with _ | i
    · simp [hcs]
    · have e := ih i
      simp only [hcs] at e
      simp only [hcs, List.set_cons_succ, List.flatMap_cons, List.length_cons, e, show (i + 1) * 2 = i * 2 + 1 + 1 by omega]
      by_cases h : i < l.length
      · rw [if_pos h, if_pos (by omega)]; simp
      · rw [if_neg h, if_neg (by omega)]
section
variable {w w' : World} {g cap : Nat} {l : List Hit}
theorem RowG.lt (h : RowG w g cap l) : g < w.heap.size := by
  obtain ⟨cur, h1, _⟩ := h
  exact (Array.getElem?_eq_some_iff.1 h1).1
theorem RowG.of_own {base n : Nat} (h : w.ownsRow base 42 2 (.slice (some ⟨g, 0, none⟩) n cap) n (hcs l)) : RowG w g cap l := by
  have hl := h.1
  rw [hcs_len] at hl
  obtain rfl : l.length = n := by omega
  rcases h.2 with ⟨h, _⟩ | ⟨g', cap', cur, e, _, h1, h2, _, h3, h4⟩
  · cases h
  · injection e with e _ e3
    injection e with e
    injection e with e
    subst e e3
    exact ⟨cur, h1, h3, h4, h2⟩
theorem RowG.below {B : Nat} (h : RowG w g cap l) (hb : Below B w w') (hB : g < B) : RowG w' g cap l := by
  obtain ⟨cur, h1, h2⟩ := h
  exact ⟨cur, (hb.block g hB).trans h1, h2⟩
theorem RowG.cell (h : RowG w g cap l) {j : Nat} {u : Value} (hu : (hcs l)[j]? = some u) : w.cell? ⟨g, j, none⟩ = some u := by
  obtain ⟨cur, h1, h2, h3, h4⟩ := h
  rw [Blk.cell (t := 42) (cs := cur) h1 j, ← Array.getElem?_toList]
  rw [← h3, List.getElem?_take] at hu
  split at hu
  · exact hu
  · cases hu
theorem RowG.frozen (h : RowG w g cap l) (j : Nat) : w.frozen? ⟨g, j, none⟩ = false := by
  obtain ⟨cur, h1, _⟩ := h
  exact Blk.frozen (t := 42) (cs := cur) h1 j
theorem RowG.rd (h : RowG w g cap l) {B : Nat} (hB : g < B) : Rd SH w B (some ⟨g, 0, none⟩) l :=
  hitsR_mk (R := fun b => b < B) (ad := ⟨g, 0, none⟩) hB fun j u hu => by rw [add_mk, Nat.zero_add]; exact h.cell hu
theorem RowG.set (h : RowG w g cap l) {i : Nat} (x : Hit) (hi : i < l.length) : RowG ((w.setCell ⟨g, i * 2, none⟩ (.int .u64 x.1)).setCell ⟨g, i * 2 + 1, none⟩ (.int .u64 x.2)) g cap (l.set i x) := by
  obtain ⟨cur, h1, h2, h3, h4⟩ := h
  have k1 := Blk.set_ (t := 42) (cs := cur) h1 (i * 2) (.int .u64 x.1)
  have k2 := Blk.set_ k1 (i * 2 + 1) (.int .u64 x.2)
  refine ⟨_, k2, by simpa using h2, ?_, by simpa using h4⟩
  rw [hcs_set, if_pos hi, ← h3]
  simp only [Array.toList_setIfInBounds, List.length_set, List.take_set]
theorem RowG.take (h : RowG w g cap l) (i : Nat) : RowG w g cap (l.take i) := by
  obtain ⟨cur, h1, h2, h3, h4⟩ := h
  refine ⟨cur, h1, h2, ?_, by rw [List.length_take]; omega⟩
  have e : ∀ (l : List Hit) (i : Nat), hcs (l.take i) = (hcs l).take (i * 2) := by
    intro l
    induction l with
    | nil => intro i; simp [hcs]
    | cons y l ih =>
      intro i
      rcases i with _ | i
      · simp [hcs]
      · have e := ih i
        simp only [hcs] at e
        simp [hcs, show (i + 1) * 2 = i * 2 + 1 + 1 by omega, e]
  rw [e, ← h3, List.take_take, List.length_take]
  congr 1
  omega
theorem zeros2 (n : Nat) : ∀ v ∈ (Builtin.zeroCells #[Value.int .u64 0, Value.int .u64 0] n).toList, v = .int .u64 0 := by
  intro v hv
  simp only [Builtin.zeroCells, Array.toList_map, List.mem_map] at hv
  obtain ⟨i, _, rfl⟩ := hv
  have : i % #[Value.int .u64 0, Value.int .u64 0].size = 0 ∨ i % #[Value.int .u64 0, Value.int .u64 0].size = 1 := by simp; omega
  rcases this with h | h <;> rw [h] <;> rfl
theorem RowG.clear (h : RowG w g cap l) {i : Nat} (hi : i < l.length) (ty : TypeId) (c : Nat) : ∃ w', (Builtin.clear_ #[32] ty #[.slice (some ⟨g, i * 2, none⟩) (l.length - i) c]).run Tryz.prog w = .ok (.tuple #[]) w' ∧ (∀ R : Nat → Prop, R g → RdR SH w' R (some ⟨g, 0, none⟩) (l.take i)) ∧ Below g w w' := by
  obtain ⟨m, hm⟩ : ∃ m, l.length - i = m + 1 := ⟨l.length - i - 1, by omega⟩
  have hzl : (Builtin.zeroCells #[Value.int .u64 0, Value.int .u64 0] (l.length - i)).toList.length = (l.length - i) * 2 := by simp [Builtin.zeroCells]
  have hv : ∀ W : World, (zeroValue 42).run Tryz.prog W = .ok (.agg #[.int .u64 0, .int .u64 0]) W := fun W => by kernel_rfl
  have hst := run_storeCells_cells (P := Tryz.prog) g (i * 2) (Builtin.zeroCells #[Value.int .u64 0, Value.int .u64 0] (l.length - i)).toList 0 w
    (fun j hj => by
      rw [hzl] at hj
      have : i * 2 + 0 + j < (hcs l).length := by rw [hcs_len]; omega
      rw [h.cell (List.getElem?_eq_getElem this)]; rfl)
    (fun j _ => h.frozen _) (fun v hv => by rw [zeros2 _ v hv]; rfl)
  simp only [Nat.add_zero] at hst
  refine ⟨w.setCells g (i * 2) (Builtin.zeroCells #[Value.int .u64 0, Value.int .u64 0] (l.length - i)).toList, ?_, fun R hR => ?_, Lib.below_setCells _ (Nat.le_refl _) _ _ (Below.refl _ _)⟩
  · rw [hm] at hst ⊢
    simp [Builtin.clear_, run_underlying Tryz.underlying32, hv, Value.cells, hst]
  · refine hitsR_mk (R := R) (ad := ⟨g, 0, none⟩) hR fun j u hu => ?_
    have hj : j < i * 2 := by
      have := (List.getElem?_eq_some_iff.1 hu).1
      rw [hcs_len, List.length_take] at this; omega
    rw [add_mk, Nat.zero_add, World.cell?_setCells_out g _ _ _ ⟨g, j, none⟩ (fun _ _ => .inl hj)]
    exact (h.take i).cell hu
end
end Go.Proofs.YtgiplahhalgbdaaGreat

/-
  The package recall: slices.DeleteFunc at hits, and Missing. Conditions: the slices read as lists of hits.
-/
namespace Go.Proofs.YtgiplahhalgbdaaGreat
open Go.RowKit ChangeMaps

theorem RowG.rdr {w : World} {g cap : Nat} {l : List Hit} (h : RowG w g cap l) {R : Nat → Prop} (hR : R g) : RdR SH w R (some ⟨g, 0, none⟩) l :=
  hitsR_mk (R := R) (ad := ⟨g, 0, none⟩) hR fun j u hu => by rw [add_mk, Nat.zero_add]; exact h.cell hu
/-- what DeleteFunc's loop keeps -/
def KI (f t : List Hit) (j i : Nat) (l : List Hit) : Prop := l.length = t.length ∧ i < j ∧ j ≤ t.length ∧ l.take i = missR f (t.take j) ∧ ∀ k, j ≤ k → l[k]? = t[k]?
theorem KI.start {f t : List Hit} {k : Nat} {x : Hit} (hx : t[k]? = some x) (hf : x ∈ f) (ha : ∀ (j : Nat) (y : Hit), j < k → t[j]? = some y → y ∉ f) : KI f t (k + 1) k t := by
  have hk := (List.getElem?_eq_some_iff.1 hx).1
  refine ⟨rfl, by omega, by omega, ?_, fun _ _ => rfl⟩
  rw [missR_snoc hx, if_pos hf, List.append_nil]
  unfold missR
  refine (List.filter_eq_self.2 fun y hy => ?_).symm
  obtain ⟨j, hj⟩ := List.getElem?_of_mem hy
  rw [List.getElem?_take] at hj
  split at hj
  · simpa using ha j y (by assumption) hj
  · cases hj
theorem KI.skip {f t : List Hit} {j i : Nat} {l : List Hit} {x : Hit} (h : KI f t j i l) (hx : t[j]? = some x) (hf : x ∈ f) : KI f t (j + 1) i l := by
  have hk := (List.getElem?_eq_some_iff.1 hx).1
  obtain ⟨h1, h2, h3, h4, h5⟩ := h
  exact ⟨h1, by omega, by omega, by rw [missR_snoc hx, if_pos hf, List.append_nil]; exact h4, fun k hk => h5 k (by omega)⟩
theorem KI.keep {f t : List Hit} {j i : Nat} {l : List Hit} {x : Hit} (h : KI f t j i l) (hx : t[j]? = some x) (hf : x ∉ f) : KI f t (j + 1) (i + 1) (l.set i x) := by
  have hk := (List.getElem?_eq_some_iff.1 hx).1
  obtain ⟨h1, h2, h3, h4, h5⟩ := h
  refine ⟨by simpa using h1, by omega, by omega, ?_, fun k hk => ?_⟩
  · rw [missR_snoc hx, if_neg hf, ← h4, take_snoc (x := x) (by rw [List.getElem?_set, if_pos rfl, if_pos (by omega)])]
    rw [List.take_set, List.set_eq_of_length_le (by rw [List.length_take]; omega)]
  · rw [List.getElem?_set, if_neg (by omega)]; exact h5 k (by omega)
theorem KI.all {f t : List Hit} (h : ∀ (j : Nat) (x : Hit), t[j]? = some x → x ∉ f) : missR f t = t := List.filter_eq_self.2 fun y hy => by
  obtain ⟨j, hj⟩ := List.getElem?_of_mem hy
  simpa using h j y hj
theorem first_or (f l : List Hit) : (∀ (j : Nat) (x : Hit), l[j]? = some x → x ∉ f) ∨ ∃ (k : Nat) (x : Hit), l[k]? = some x ∧ x ∈ f ∧ ∀ (j : Nat) (y : Hit), j < k → l[j]? = some y → y ∉ f := by
  induction l with
  | nil => exact .inl fun j x h => by simp at h
  | cons y l ih =>
    by_cases e : y ∈ f
    · exact .inr ⟨0, y, rfl, e, fun j _ h => absurd h (by omega)⟩
    · rcases ih with h | ⟨k, x, h1, h2, h3⟩
      · refine .inl fun j x hj => ?_
        rcases j with _ | j
        · simp at hj; subst hj; exact e
        · exact h j x (by simpa using hj)
      · refine .inr ⟨k + 1, x, by simpa using h1, h2, fun j z hj hz => ?_⟩
        rcases j with _ | j
        · simp at hz; subst hz; exact e
        · exact h3 j z (by omega) (by simpa using hz)

set_option maxHeartbeats 2000000 in
theorem deleteFunc_any (g cap n b b5 : Nat) (f t : List Hit) (w : World) (hR : RowG w g cap t) (hn : t.length = n) (hm : cap ≤ 9223372036854775807) (hM : MapAt w b f) (h5 : Blk w b5 61 #[.map (some b)]) (hb : b < g) (hb5 : b5 < g) (hf : ∀ h ∈ t, wfH h) :
    Calls Tryz.prog 24 #[.slice (some ⟨g, 0, none⟩) n cap, .func (.func 26) #[] #[.pointer (some ⟨b5, 0, none⟩)]] w fun e w' =>
      e = .returned (.slice (some ⟨g, 0, none⟩) (missR f t).length cap) ∧ (∀ R : Nat → Prop, R g → RdR SH w' R (some ⟨g, 0, none⟩) (missR f t)) ∧ Below g w w' := by
  have hgl := hR.lt
  have hnc : n ≤ cap := by obtain ⟨_, _, _, _, h⟩ := hR; omega
  have HC := r_indexFunc_any b b5 f (some ⟨g, 0, none⟩) n cap t w hM h5 (hR.rd hgl) hn hnc hm hf
  have HR := hide hR
  have Hn := hide hn
  have HM := hide hM
  have H5 := hide h5
  have HW := hide hf
  clear hR hn hM h5 hf
  rcases first_or f t with ha | ⟨k, x, hx, hxf, hk⟩
  · have HC1 := hide (Calls.mono HC (R' := fun e w' => e = .returned (.int .i64 (-1)) ∧ Below w.heap.size w w') (by
      rintro e w' ⟨h, hb⟩
      refine ⟨?_, hb⟩
      rcases h with ⟨h, _⟩ | ⟨k, x, _, h1, h2, _⟩
      · exact h
      · exact (ha k x h1 h2).elim))
    have HA := hide (KI.all ha)
    clear HC ha
    go_enter Tryz.func24, Tryz.ntmps24
    go_wp2_with (go_at_call 43; refine HC1.out.mono ?_; rintro e w1 ⟨rfl, hb1⟩; have HB1 := hide hb1; clear hb1)
    go_ret
    exact ⟨by rw [HA.out, Hn.out]; rfl, fun R hr => by rw [HA.out]; exact (HR.out.below HB1.out hgl).rdr hr, HB1.out.mono (Nat.le_of_lt hgl)⟩
  · have HC1 := hide (Calls.mono HC (R' := fun e w' => e = .returned (.int .i64 (k : Int)) ∧ Below w.heap.size w w') (by
      rintro e w' ⟨h, hb⟩
      refine ⟨?_, hb⟩
      rcases h with ⟨_, h⟩ | ⟨k', x', h, h1, h2, h3⟩
      · exact (h k x hx hxf).elim
      · rcases Nat.lt_trichotomy k k' with h' | rfl | h'
        · exact (h3 k x h' hx hxf).elim
        · exact h
        · exact (hk k' x' h' h1 h2).elim))
    have HK := hide (KI.start hx hxf hk)
    have hkn : k < n := by have := (List.getElem?_eq_some_iff.1 hx).1; have := Hn.out; omega
    have hne : ((k : Int) == -1) = false := beq_eq_false_iff_ne.2 (by omega)
    have e1 : IntKind.i64.wrap ((k : Int) + 1) = ((k + 1 : Nat) : Int) := by rw [IntKind.wrap_i64]; omega
    clear HC hx hxf hk
    go_enter Tryz.func24, Tryz.ntmps24
    go_upto_region 5 with (go_at_call 43; refine HC1.out.mono ?_; rintro e w1 ⟨rfl, hb1⟩; have HB1 := hide (hb1.mono (Nat.le_of_lt hgl)); have HR1 := hide (HR.out.below hb1 hgl); clear hb1)
    go_loopw [5, 6, 7] (fun s5 s6 _ wr => ∃ (i j : Nat) (l : List Hit), s5 = .int .i64 i ∧ s6 = .int .i64 j ∧ j ≤ n ∧ i < j ∧ Hid (KI f t j i l) ∧ Hid (RowG wr g cap l) ∧ Hid (Below g w wr)) (fun _ j _ _ => n - (intOf j).toNat)
    case atStart => exact ⟨k, k + 1, t, rfl, by first | rfl | exact i64_eq e1, by omega, by omega, HK, HR1, HB1⟩
    case round =>
      obtain ⟨i, j, l, rfl, rfl, hj, hij, HI, HRw, HBl⟩ := hrel
      have hgl' := HRw.out.lt
      have hln : l.length = n := by have := HI.out.1; have := Hn.out; omega
      by_cases hlt : j < n
      · obtain ⟨⟨x1, x2⟩, hv⟩ : ∃ v, l[j]? = some v := ⟨_, List.getElem?_eq_getElem (by omega)⟩
        obtain ⟨⟨y1, y2⟩, hu⟩ : ∃ v, l[i]? = some v := ⟨_, List.getElem?_eq_getElem (by omega)⟩
        have q0 : wr.cell? ⟨g, j * 2, none⟩ = some (.int .u64 x1) := HRw.out.cell (hcs_at hv).1
        have q1 : wr.cell? ⟨g, j * 2 + 1, none⟩ = some (.int .u64 x2) := HRw.out.cell (hcs_at hv).2
        have HV := hide (show t[j]? = some (x1, x2) by rw [← HI.out.2.2.2.2 j (Nat.le_refl _)]; exact hv)
        have HU := hide hu
        have g0 : (0 : Int) ≤ j := by omega
        have g1 : (j : Int) < n := by omega
        have g2 : (0 : Int) ≤ i := by omega
        have g3 : (i : Int) < n := by omega
        have HB1' := hide (HBl.out.trans ((below1 wr (.cells #[.int .u64 x1, .int .u64 x2] 42)).mono (Nat.le_of_lt hgl')))
        have HN := hide (Blk.new wr 42 #[.int .u64 x1, .int .u64 x2])
        have HR2 := hide (HRw.out.below (below1 wr (.cells #[.int .u64 x1, .int .u64 x2] 42)) hgl')
        clear hv hu
        go_upto_region 8 with fail
        generalize wr.alloc (.cells #[.int .u64 x1, .int .u64 x2] 42) = w2 at *
        have hgl2 := HR2.out.lt
        have z0 : w2.cell? ⟨wr.heap.size, 0, none⟩ = some (.int .u64 x1) := HN.out.cell 0
        have z1 : w2.cell? ⟨wr.heap.size, 1, none⟩ = some (.int .u64 x2) := HN.out.cell 1
        generalize wr.heap.size = bx at *
        have HC := hide (missing1_any x1 x2 b b5 f w2 (HM.out.below HB1'.out hb) (H5.out.below HB1'.out hb5) (HW.out _ (List.mem_of_getElem? HV.out)))
        by_cases e : (x1, x2) ∈ f
        · have HE := hide (HI.out.skip HV.out e)
          rw [decide_eq_true e] at HC
          clear e
          go_wp2_with (go_at_call 26; refine HC.out.mono ?_; rintro e w6 ⟨rfl, hb6⟩; have HB6 := hide (HB1'.out.trans (hb6.mono (Nat.le_of_lt hgl2))); have HR6 := hide (HR2.out.below hb6 hgl2); clear hb6)
          go_roundw
          case rel => exact ⟨i, j + 1, l, rfl, by go_num, by omega, by omega, HE, HR6, HB6⟩
          case measure => simp [intOf]; omega
        · have HE := hide (HI.out.keep HV.out e)
          rw [decide_eq_false e] at HC
          clear e
          go_wp2_with (go_at_call 26; refine HC.out.mono ?_; rintro e w6 ⟨rfl, hb6⟩; have HB6 := hide (HB1'.out.trans (hb6.mono (Nat.le_of_lt hgl2))); have HR6 := hide (HR2.out.below hb6 hgl2); have c0 : w6.cell? ⟨bx, 0, none⟩ = some (.int .u64 x1) := (HN.out.below hb6 HN.out.lt).cell 0; have c1 : w6.cell? ⟨bx, 1, none⟩ = some (.int .u64 x2) := (HN.out.below hb6 HN.out.lt).cell 1; have d0 : w6.cell? ⟨g, i * 2, none⟩ = some (.int .u64 y1) := HR6.out.cell (hcs_at HU.out).1; have d1 : w6.cell? ⟨g, i * 2 + 1, none⟩ = some (.int .u64 y2) := HR6.out.cell (hcs_at HU.out).2; have f0 : w6.frozen? ⟨g, i * 2, none⟩ = false := HR6.out.frozen _; have f1 : w6.frozen? ⟨g, i * 2 + 1, none⟩ = false := HR6.out.frozen _; clear hb6 z0 z1 q0 q1)
          go_roundw
          case rel => exact ⟨i + 1, j + 1, l.set i (x1, x2), by go_num, by go_num, by omega, by omega, HE, hide (HR6.out.set (x1, x2) (by omega)), hide ((HB6.out.setCell (Nat.le_refl _) _).setCell (Nat.le_refl _) _)⟩
          case measure => simp [intOf]; omega
      · obtain rfl : j = n := by omega
        have hil : i < l.length := by omega
        obtain ⟨w7, hw7, h7, hb7⟩ := HRw.out.clear hil 0 (cap - i)
        have HL := hide (show missR f t = l.take i by rw [HI.out.2.2.2.1, List.take_of_length_le (by have := Hn.out; omega)])
        have hi' : (i : Int) ≤ j := by omega
        rw [hln] at hw7
        have H7 := hide h7
        have HB7 := hide (HBl.out.trans hb7)
        clear h7 hb7
        go_wp2
        go_ret
        exact ⟨by rw [HL.out, List.length_take, Nat.min_eq_left (Nat.le_of_lt hil)]; rfl, fun R hr => by rw [HL.out]; exact H7.out R hr, HB7.out⟩
end Go.Proofs.YtgiplahhalgbdaaGreat

/-
  The package recall: those that were not found: the program. Conditions: the slices read as lists of hits, at most 1000 of the truth.
-/
namespace Go.Proofs.YtgiplahhalgbdaaGreat
open Go.RowKit ChangeMaps

set_option maxHeartbeats 1000000 in
theorem deleteFunc_own (base n b b5 : Nat) (v : Value) (f t : List Hit) (w : World) (hO : w.ownsRow base 42 2 v n (hcs t)) (hM : MapAt w b f) (h5 : Blk w b5 61 #[.map (some b)]) (hb : b < base) (hb5 : b5 < base) (hbase : base ≤ w.heap.size) (hf : ∀ h ∈ t, wfH h) :
    Calls Tryz.prog 24 #[v, .func (.func 26) #[] #[.pointer (some ⟨b5, 0, none⟩)]] w fun e w' =>
      ∃ A n' c, e = .returned (.slice A n' c) ∧ (missR f t).length = n' ∧ n' ≤ c ∧ c ≤ 9223372036854775807 ∧ RdR SH w' (Btw base w'.heap.size) A (missR f t) ∧ Below base w w' := by
  have hl := hO.1
  rw [hcs_len] at hl
  have hle := missR_le f t
  rcases hO.2 with ⟨rfl, rfl⟩ | ⟨g, cap, cur, rfl, hg, _, h1, h2, _⟩
  · have ht : t = [] := List.eq_nil_of_length_eq_zero (by omega)
    subst ht
    have HC := hide (Calls.mono (r_indexFunc_any b b5 f none 0 0 [] w hM h5 RdR.nil rfl (Nat.le_refl _) (by omega) hf) (R' := fun e w' => e = .returned (.int .i64 (-1)) ∧ Below w.heap.size w w') (by
      rintro e w' ⟨h, hb⟩
      refine ⟨?_, hb⟩
      rcases h with ⟨h, _⟩ | ⟨k, x, _, h1, _⟩
      · exact h
      · simp at h1))
    clear hO hM h5 hf hl hle
    go_enter Tryz.func24, Tryz.ntmps24
    go_wp2_with (go_at_call 43; refine HC.out.mono ?_; rintro e w1 ⟨rfl, hb1⟩; have HB1 := hide hb1; clear hb1)
    go_ret
    exact ⟨none, 0, 0, rfl, rfl, Nat.le_refl _, by omega, RdR.nil, HB1.out.mono hbase⟩
  · have hR := RowG.of_own hO
    refine (deleteFunc_any g cap n b b5 f t w hR (by omega) (by simpa [maxLen] using h2) hM h5 (by omega) (by omega) hf).mono ?_
    rintro e w' ⟨rfl, h, hb'⟩
    exact ⟨_, _, _, rfl, rfl, by omega, by simpa [maxLen] using h2, h _ ⟨hg, Nat.lt_of_lt_of_le hR.lt hb'.size⟩, hb'.mono hg⟩

set_option maxHeartbeats 1000000 in
theorem eMissing_any (A B : Option Addr) (n c m d : Nat) (f t : List Hit) (w : World) (hx : Rd SH w w.heap.size A f) (hn : f.length = n) (hc : n ≤ c) (hm : c ≤ 9223372036854775807) (hf : ∀ h ∈ f, wfH h)
    (hy : Rd SH w w.heap.size B t) (hn' : t.length = m) (hd : m ≤ d) (hm' : d ≤ 9223372036854775807) (h6 : m ≤ 1000) (ht : ∀ h ∈ t, wfH h) :
    Calls Tryz.prog 11 #[.slice A n c, .slice B m d] w fun e w' => ∃ v, e = .returned v ∧ NewHits w (missR f t) v w' := by
  have C1 := hide (set_any A n c f w hx hn hc hm hf)
  have HY := hide hy
  have Hm := hide hn'
  have HWt := hide ht
  clear hx hy hn hn' hf ht
  go_enter Tryz.func11, Tryz.ntmps11
  go_upto_region 2 with (go_at_call 20; refine C1.out.mono ?_; rintro e w2 ⟨rfl, hMp, hBp⟩; have HM2 := hide hMp; have HB2 := hide hBp; clear hMp hBp)
  have h2l := HM2.out.lt
  have HN := hide (Blk.new w2 61 #[.map (some w.heap.size)])
  have HM3 := hide (HM2.out.below (below1 w2 (.cells #[.map (some w.heap.size)] 61)) h2l)
  have HB3 := hide (HB2.out.trans ((below1 w2 (.cells #[.map (some w.heap.size)] 61)).mono HB2.out.size))
  generalize w2.alloc (.cells #[.map (some w.heap.size)] 61) = w3 at *
  have h3l := HN.out.lt
  have C2 := hide (clone_any B m d t w3 (Rd.at_world HY.out HB3.out) Hm.out hd hm' h6)
  go_wp2_with (first
    | (go_at_call 25; refine C2.out.mono ?_; rintro e w4 ⟨v4, rfl, hO4, hB4⟩; have HO4 := hide hO4; have HM4 := hide (HM3.out.below hB4 HM3.out.lt); have HN4 := hide (HN.out.below hB4 HN.out.lt); have HB4 := hide (HB3.out.trans (hB4.mono HB3.out.size)); have Hs := hide hB4.size; clear hO4 hB4)
    | (go_at_call 24; refine (deleteFunc_own w3.heap.size m w.heap.size w2.heap.size v4 f t _ HO4.out HM4.out HN4.out (by omega) h3l Hs.out HWt.out).mono ?_; rintro e w5 ⟨A5, n5, c5, rfl, h51, h52, h53, h54, h55⟩; have H51 := hide h51; have H52 := hide h52; have H53 := hide h53; have H54 := hide h54; have HB5 := hide (HB4.out.trans (h55.mono HB3.out.size)); clear h51 h52 h53 h54 h55))
  go_ret
  exact ⟨_, rfl, A5, n5, c5, rfl, H51.out, H52.out, H53.out, H54.out.more (fun i h => ⟨Nat.le_trans HB3.out.size h.1, h.2⟩), HB5.out⟩
end Go.Proofs.YtgiplahhalgbdaaGreat
