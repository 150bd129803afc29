/-
  The package idmap: List, up to its sort. Conditions: the blocks lie as said.
-/
import Derived.Test.YtoadcfjkommlkaaIdmC
import Derived.Test.YtoadcfjkommlkaaFlat
namespace Go.Proofs.Ytoadcfjkommlkaa
open Go.RowKit

/-- an id with its ref -/
abbrev NamedV := Int × RefV
def encN (x : NamedV) : List Value := [.int .u64 x.1, .int .i64 x.2.1, .int .i64 x.2.2]
def SNm : Sh NamedV := Sh.pair (Sh.int .u64) (Sh.pair (Sh.int .i64) (Sh.int .i64))
theorem flatN : Flat SNm encN := flatPair (flatInt .u64) (flatPair (flatInt .i64) (flatInt .i64))
theorem info_named : (Try.prog.info? 56).map (fun i => (i.zero, i.size, i.bytes)) = some (some (.agg #[.int .u64 0, .int .i64 0, .int .i64 0]), 3, 24) := by kernel_rfl
/-- a loop over a shard is under way: L0 was there, done has been found -/
structure ListLoop (w wr : World) (hh r : Nat) (l L0 : List NamedV) (v : Value) (done : List NamedV) : Prop where
  rng : RangeA .u64 encR wr hh r l done
  own : wr.ownsRow w.heap.size 56 3 v (L0 ++ done).length (fcs encN (L0 ++ done))
  bel : Below w.heap.size w wr
  hr : w.heap.size ≤ r
  apart : v.ownBlock ≠ some r
section
variable {w wr wr' : World} {hh r : Nat} {l L0 done : List NamedV} {v : Value}
theorem ListLoop.next_ (h : ListLoop w wr hh r l L0 v done) {x : NamedV} (hR : RangeA .u64 encR wr' hh r l (done ++ [x])) (hs : MapStep wr wr' r) : wr'.ownsRow w.heap.size 56 3 v (L0 ++ done).length (fcs encN (L0 ++ done)) ∧ Below w.heap.size w wr' :=
  ⟨own_keep h.own fun g hg => hs.2.2.2.2 g (by rintro rfl; exact h.apart hg), hs.below h.bel h.hr⟩
theorem ListLoop.grow {w1 w2 w3 : World} {v' : Value} {x : NamedV} (hR : RangeA .u64 encR w1 hh r l (done ++ [x])) (hb2 : Below w1.heap.size w1 w2) (hO : w2.ownsRow w.heap.size 56 3 v (L0 ++ done).length (fcs encN (L0 ++ done))) (ha : v.ownBlock ≠ some r) (hl : hh < w.heap.size) (hr : w.heap.size ≤ r)
    (hO3 : w3.ownsRow w.heap.size 56 3 v' ((L0 ++ done).length + 1) (fcs encN (L0 ++ done) ++ encN x)) (hB3 : Below w.heap.size w w3) (hG : w2.grownBy w3 v.ownBlock) (hA : v'.ownBlock = v.ownBlock ∨ v'.ownBlock = some (w2.heap.size + 1)) :
    ListLoop w w3 hh r l L0 v' (done ++ [x]) ∧ w3.rangeLeft hh r = w1.rangeLeft hh r := by
  have hz := hb2.size
  have e1 : w3.heap[hh]? = w1.heap[hh]? := (hG.block hh (Nat.lt_of_lt_of_le hR.map.lt hz) fun e => by have := (hO.lt hh e.symm).1; omega).trans (hb2.block hh hR.map.lt)
  have e2 : w3.heap[r]? = w1.heap[r]? := (hG.block r (Nat.lt_of_lt_of_le hR.lt hz) fun e => ha e.symm).trans (hb2.block r hR.lt)
  refine ⟨⟨hR.below e1 e2, ?_, hB3, hr, ?_⟩, rangeLeft_same e1 e2⟩
  · rw [← List.append_assoc, List.length_append, fcs_snoc]
    exact hO3
  · rcases hA with e | e
    · rw [e]; exact ha
    · rw [e]; intro e3; injection e3 with e3; have := hR.lt; omega
end
/-- what stands in the shards up to one -/
theorem flat_succ {ms : List (List NamedV)} {k : Nat} {l L done : List NamedV} (hl : ms[k]? = some l) (hp : L.Perm (ms.take k).flatten) (hd : done.Perm l) : (L ++ done).Perm (ms.take (k + 1)).flatten := by
  rw [List.take_add_one, hl]
  simp only [Option.toList_some, List.flatten_append, List.flatten_cons, List.flatten_nil, List.append_nil]
  exact hp.append hd
theorem flat_len {ms : List (List NamedV)} {k : Nat} {L : List NamedV} (hp : L.Perm (ms.take k).flatten) : L.length ≤ ms.flatten.length := by
  rw [hp.length_eq]
  conv => rhs; rw [← List.take_append_drop k ms]
  rw [List.flatten_append, List.length_append]
  omega
section
variable {w : World} {B M g : Nat} {hs : List Nat} {ms : List (List NamedV)} {ver : Int}
theorem IdAt.lows (h : IdAt w B M g hs ms ver) {i hh : Nat} (hi : hs[i]? = some hh) : hh < w.heap.size := by
  obtain ⟨l, _, hm⟩ := h.map_at hi
  exact hm.lt
end
end Go.Proofs.Ytoadcfjkommlkaa
