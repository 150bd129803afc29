/-
  The package idmap: Put, Drop. Conditions: the blocks lie as said.
-/
import Derived.Test.YtoadcfjkommlkaaIdmB
namespace Go.Proofs.Ytoadcfjkommlkaa
open Go.RowKit

/-- what may have turned: the object's block, the maps' -/
structure TurnI (w w' : World) (M : Nat) (hs : List Nat) : Prop where
  os : w'.os = w.os
  tape : w'.tape = w.tape
  output : w'.output = w.output
  size : w.heap.size ≤ w'.heap.size
  block : ∀ k, k < w.heap.size → k ≠ M → k ∉ hs → w'.heap[k]? = w.heap[k]?
section
variable {w w' w'' : World} {B M g : Nat} {hs : List Nat} {ms : List (List (Int × RefV))} {ver : Int}
theorem TurnI.of_below (h : Below w.heap.size w w') : TurnI w w' M hs := ⟨h.os, h.tape, h.output, h.size, fun k hk _ _ => h.block k hk⟩
theorem TurnI.trans (h : TurnI w w' M hs) (k : TurnI w' w'' M hs) : TurnI w w'' M hs :=
  ⟨k.os.trans h.os, k.tape.trans h.tape, k.output.trans h.output, Nat.le_trans h.size k.size, fun i hi a b => (k.block i (Nat.lt_of_lt_of_le hi h.size) a b).trans (h.block i hi a b)⟩
theorem TurnI.of_put {hh : Nat} (h : MapPut w w' hh) (hm : hh ∈ hs) : TurnI w w' M hs :=
  ⟨h.1, h.2.1, h.2.2.1, Nat.le_of_eq h.2.2.2.1.symm, fun k _ _ b => h.2.2.2.2 k fun e => b (e ▸ hm)⟩
theorem TurnI.of_ver (v : Value) : TurnI w (w.setCell ⟨M, 1, none⟩ v) M hs := ⟨rfl, rfl, rfl, by simp, fun k _ a _ => Below.heap_setCell _ _ _ _ a⟩
theorem IdAt.turn (h : IdAt w B M g hs ms ver) {a : World} (hbl : Below B a w) (ht : TurnI w w' M hs) (hB : B ≤ w.heap.size) : Below B a w' :=
  ⟨ht.os.trans hbl.os, ht.tape.trans hbl.tape, ht.output.trans hbl.output, Nat.le_trans hbl.size ht.size, fun k hk => (ht.block k (by omega) (by have := h.loM; omega) (fun e => by have := h.loh k e; omega)).trans (hbl.block k hk)⟩
theorem IdAt.map_at (h : IdAt w B M g hs ms ver) {i hh : Nat} (hi : hs[i]? = some hh) : ∃ l, ms[i]? = some l ∧ MapA .u64 encR w hh l := by
  have h1 := (List.getElem?_eq_some_iff.1 hi).1
  exact ⟨_, List.getElem?_eq_getElem (by rw [h.len]; exact h1), h.maps _ _ _ hi (List.getElem?_eq_getElem (by rw [h.len]; exact h1))⟩
/-- a map's block is none of an object's -/
theorem IdAt.ne_map (h : IdAt w B M g hs ms ver) {i hh q : Nat} {t : TypeId} {cs : Array Value} (hi : hs[i]? = some hh) (hq : Blk w q t cs) : q ≠ hh := by
  obtain ⟨l, _, es, cl, h1, _⟩ := h.map_at hi
  rintro rfl
  unfold Blk at hq
  rw [h1] at hq
  cases hq
theorem IdAt.put_ (h : IdAt w B M g hs ms ver) {i hh : Nat} {l' : List (Int × RefV)} (hi : hs[i]? = some hh) (hA : MapA .u64 encR w' hh l') (hP : MapPut w w' hh) (hm : ∀ p ∈ l', shardF hs.length p.1 = i) : IdAt w' B M g hs (ms.set i l') ver := by
  have hlt := (List.getElem?_eq_some_iff.1 hi).1
  refine ⟨(hP.2.2.2.2 _ (h.ne_map hi h.m)).trans h.m, (hP.2.2.2.2 _ (h.ne_map hi h.row)).trans h.row, by rw [List.length_set]; exact h.len, fun j hj l h1 h2 => ?_, h.nd, h.loM, h.log, h.loh, h.n0, h.n1, fun j l h1 p hp => ?_⟩
  · by_cases e : j = i
    · subst e
      rw [hi] at h1
      injection h1 with h1
      subst h1
      rw [List.getElem?_set_self (by rw [h.len]; exact hlt)] at h2
      injection h2 with h2
      subst h2
      exact hA
    · rw [List.getElem?_set_ne (fun e2 => e e2.symm)] at h2
      refine (h.maps j hj l h1 h2).block (hP.2.2.2.2 _ fun e2 => e ?_)
      subst e2
      obtain ⟨a, ha⟩ := List.getElem?_eq_some_iff.1 h1
      obtain ⟨b, hb⟩ := List.getElem?_eq_some_iff.1 hi
      exact (List.getElem_inj h.nd).1 (ha.trans hb.symm)
  · by_cases e : j = i
    · subst e
      rw [List.getElem?_set_self (by rw [h.len]; exact hlt)] at h1
      injection h1 with h1
      subst h1
      exact hm p hp
    · rw [List.getElem?_set_ne (fun e2 => e e2.symm)] at h1
      exact h.home j l h1 p hp
theorem IdAt.ver_ (h : IdAt w B M g hs ms ver) (v : Int) : IdAt (w.setCell ⟨M, 1, none⟩ (.int .i64 v)) B M g hs ms v := by
  have hgM : g ≠ M := h.row.ne_ h.m (by decide)
  refine ⟨h.m.set_ 1 (.int .i64 v), h.row.far (p := ⟨M, 1, none⟩) (fun e => hgM e) _, h.len, fun i hh l h1 h2 => (h.maps i hh l h1 h2).block (Below.heap_setCell _ _ _ _ fun e => h.ne_map h1 h.m e.symm), h.nd, h.loM, h.log, h.loh, h.n0, h.n1, h.home⟩
end
end Go.Proofs.Ytoadcfjkommlkaa
