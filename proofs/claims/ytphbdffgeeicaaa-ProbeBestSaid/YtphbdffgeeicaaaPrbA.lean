/-
  The package probe: the object, what may have turned, what stays. No condition.
-/
import Derived.Test.YtphbdffgeeicaaaMgB
import Derived.Test.YtphbdffgeeicaaaMapI
namespace Go.Proofs.Ytphbdffgeeicaaa
set_option linter.unusedSimpArgs false
set_option linter.unusedVariables false
open Go.RowKit

/-- blocks that are none of those that turn: the map's, the queue's, the best list's -/
def FreeP (W : World) (M Q P : Nat) (v v2 : Value) (d : Nat) : Prop := d < W.heap.size ∧ d ≠ M ∧ d ≠ Q ∧ d ≠ P ∧ v.ownBlock ≠ some d ∧ v2.ownBlock ≠ some d
/-- what may have turned -/
structure TurnP (w w' : World) (M Q P : Nat) (v v2 u u2 : Value) : Prop where
  size : w.heap.size ≤ w'.heap.size
  block : ∀ d, FreeP w M Q P v v2 d → w'.heap[d]? = w.heap[d]? ∧ FreeP w' M Q P u u2 d
/-- a probe: its vector, mask, most; what it knows, what waits, the best -/
structure PrAt (w wr : World) (X M Q P k : Nat) (mask ef : Int) (A : Option Addr) (c : Nat) (qs : List Int) (m : List (Int × Int)) (v v2 : Value) (l l2 : List Spt) : Prop where
  x : Blk wr X 64 #[.slice A qs.length c, .int .u64 mask, .int .i64 ef, .map (some M), .pointer (some ⟨Q, 0, none⟩), .pointer (some ⟨P, 0, none⟩)]
  fx : FreeP wr M Q P v v2 X
  c1 : qs.length ≤ c
  c2 : c ≤ 9223372036854775807
  vec : RdR (Sh.int .i32) wr (FreeP wr M Q P v v2) A qs
  m : MapA .i64 (Value.int .i64) wr M m
  hM : w.heap.size ≤ M
  q : QAt wr w.heap.size Q v l
  b : BAt wr w.heap.size P k v2 l2
  hq : Heap sptLt l
  hb : Heap sptGt l2
  ne : Q ≠ P
  ap : Apart v v2
  bel : Below w.heap.size w wr
section
variable {w wr wr' : World} {X M Q P k : Nat} {mask ef : Int} {A : Option Addr} {c : Nat} {qs : List Int} {m m' : List (Int × Int)} {v v2 u u2 u3 u4 : Value} {l l2 ms : List Spt}
theorem TurnP.trans {w1 w2 w3 : World} (h : TurnP w1 w2 M Q P v v2 u u2) (k : TurnP w2 w3 M Q P u u2 u3 u4) : TurnP w1 w3 M Q P v v2 u3 u4 :=
  ⟨Nat.le_trans h.size k.size, fun d hd => by
    obtain ⟨a, b⟩ := h.block d hd
    obtain ⟨a2, b2⟩ := k.block d b
    exact ⟨a2.trans a, b2⟩⟩
theorem TurnP.rd {α : Type} {S : Sh α} {B : Option Addr} {xs : List α} (h : TurnP wr wr' M Q P v v2 u u2) (hx : RdR S wr (FreeP wr M Q P v v2) B xs) : RdR S wr' (FreeP wr' M Q P u u2) B xs :=
  (hx.keepBlocks fun d hd => (h.block d hd).1).more fun d hd => (h.block d hd).2
theorem TurnP.blk {g : Nat} {t : TypeId} {cs : Array Value} (h : TurnP wr wr' M Q P v v2 u u2) (hg : Blk wr g t cs) (hf : FreeP wr M Q P v v2 g) : Blk wr' g t cs ∧ FreeP wr' M Q P u u2 g :=
  ⟨(h.block g hf).1.trans hg, (h.block g hf).2⟩
theorem TurnP.of_below (hb : Below wr.heap.size wr wr') : TurnP wr wr' M Q P v v2 v v2 :=
  ⟨hb.size, fun d hd => ⟨hb.block d hd.1, Nat.lt_of_lt_of_le hd.1 hb.size, hd.2⟩⟩
theorem PrAt.low (h : PrAt w wr X M Q P k mask ef A c qs m v v2 l l2) : M < wr.heap.size ∧ Q < wr.heap.size ∧ P < wr.heap.size ∧ (∀ d, v.ownBlock = some d → d < wr.heap.size) ∧ ∀ d, v2.ownBlock = some d → d < wr.heap.size :=
  ⟨h.m.lt, h.q.low.1, h.b.low.1, h.q.low.2, h.b.low.2⟩
/-- a block that came later -/
theorem PrAt.new (h : PrAt w wr X M Q P k mask ef A c qs m v v2 l l2) {d : Nat} (h1 : wr.heap.size ≤ d) (h2 : d < wr'.heap.size) : FreeP wr' M Q P v v2 d := by
  obtain ⟨a0, a1, a2, a3, a4⟩ := h.low
  exact ⟨h2, by omega, by omega, by omega, fun e => by have := a3 d e; omega, fun e => by have := a4 d e; omega⟩
theorem PrAt.made {α : Type} {S : Sh α} {B : Option Addr} {xs : List α} (h : PrAt w wr X M Q P k mask ef A c qs m v v2 l l2) (hr : RdR S wr' (Btw wr.heap.size wr'.heap.size) B xs) : RdR S wr' (FreeP wr' M Q P v v2) B xs := hr.more fun _ hd => h.new hd.1 hd.2
theorem PrAt.step (h : PrAt w wr X M Q P k mask ef A c qs m v v2 l l2) (hb : Below wr.heap.size wr wr') : PrAt w wr' X M Q P k mask ef A c qs m v v2 l l2 :=
  have ht : TurnP wr wr' M Q P v v2 v v2 := TurnP.of_below hb
  ⟨(ht.blk h.x h.fx).1, (ht.blk h.x h.fx).2, h.c1, h.c2, ht.rd h.vec, h.m.block (hb.block M h.m.lt), h.hM, h.q.below hb, h.b.below hb, h.hq, h.hb, h.ne, h.ap, Below.step h.bel hb⟩
theorem PrAt.neQ (h : PrAt w wr X M Q P k mask ef A c qs m v v2 l l2) : Q ≠ M ∧ P ≠ M ∧ v.ownBlock ≠ some M ∧ v2.ownBlock ≠ some M :=
  ⟨blk_ne_map h.q.q h.m, blk_ne_map h.b.q h.m, own_ne_map h.q.own h.m, own_ne_map h.b.own h.m⟩
/-- the queue has turned -/
theorem PrAt.q_ (h : PrAt w wr X M Q P k mask ef A c qs m v v2 l l2) (hd : QDone wr wr' w.heap.size Q v ms) : ∃ l' v', l'.Perm ms ∧ PrAt w wr' X M Q P k mask ef A c qs m v' v2 l' l2 ∧ TurnP wr wr' M Q P v v2 v' v2 := by
  obtain ⟨l', v', r1, r2, r3, r4, r5⟩ := hd
  obtain ⟨n1, n2, n3, n4⟩ := h.neQ
  have ht : TurnP wr wr' M Q P v v2 v' v2 := ⟨r4.size, fun d hd => ⟨r4.block d hd.1 hd.2.2.1 fun e => hd.2.2.2.2.1 e.symm, Nat.lt_of_lt_of_le hd.1 r4.size, hd.2.1, hd.2.2.1, hd.2.2.2.1, fun e => by
      rcases r5 d e with e | e
      · exact hd.2.2.2.2.1 e
      · have := hd.1; omega, hd.2.2.2.2.2⟩⟩
  exact ⟨l', v', r2, ⟨(ht.blk h.x h.fx).1, (ht.blk h.x h.fx).2, h.c1, h.c2, ht.rd h.vec, h.m.block (r4.block M h.m.lt (Ne.symm n1) fun e => n3 e.symm), h.hM, r3, h.q.other h.b h.ap h.ne r4, r1, h.hb, h.ne, h.ap.turned h.b r5, h.q.turn h.bel r4 h.bel.size⟩, ht⟩
/-- the best list has turned -/
theorem PrAt.b_ (h : PrAt w wr X M Q P k mask ef A c qs m v v2 l l2) (hd : BDone wr wr' w.heap.size P k v2 ms) : ∃ l' v', l'.Perm ms ∧ PrAt w wr' X M Q P k mask ef A c qs m v v' l l' ∧ TurnP wr wr' M Q P v v2 v v' := by
  obtain ⟨l', v', r1, r2, r3, r4, r5⟩ := hd
  obtain ⟨n1, n2, n3, n4⟩ := h.neQ
  have ht : TurnP wr wr' M Q P v v2 v v' := ⟨r4.size, fun d hd => ⟨r4.block d hd.1 hd.2.2.2.1 fun e => hd.2.2.2.2.2 e.symm, Nat.lt_of_lt_of_le hd.1 r4.size, hd.2.1, hd.2.2.1, hd.2.2.2.1, hd.2.2.2.2.1, fun e => by
      rcases r5 d e with e | e
      · exact hd.2.2.2.2.2 e
      · have := hd.1; omega⟩⟩
  exact ⟨l', v', r2, ⟨(ht.blk h.x h.fx).1, (ht.blk h.x h.fx).2, h.c1, h.c2, ht.rd h.vec, h.m.block (r4.block M h.m.lt (Ne.symm n2) fun e => n4 e.symm), h.hM, h.b.other h.q h.ap.symm h.ne.symm r4, r3, h.hq, r1, h.ne, (h.ap.symm.turned h.q r5).symm, h.b.turn h.bel r4 h.bel.size⟩, ht⟩
/-- the map has turned -/
theorem PrAt.map_ (h : PrAt w wr X M Q P k mask ef A c qs m v v2 l l2) (hm : MapA .i64 (Value.int .i64) wr' M m') (hp : MapPut wr wr' M) : PrAt w wr' X M Q P k mask ef A c qs m' v v2 l l2 ∧ TurnP wr wr' M Q P v v2 v v2 := by
  obtain ⟨n1, n2, n3, n4⟩ := h.neQ
  have ht : TurnP wr wr' M Q P v v2 v v2 := ⟨Nat.le_of_eq hp.size.symm, fun d hd => ⟨hp.2.2.2.2 d hd.2.1, by rw [hp.size]; exact hd.1, hd.2⟩⟩
  exact ⟨⟨(ht.blk h.x h.fx).1, (ht.blk h.x h.fx).2, h.c1, h.c2, ht.rd h.vec, hm, h.hM, ⟨(hp.2.2.2.2 Q n1).trans h.q.q, own_put h.q.own h.m hp, h.q.ne, h.q.hQ⟩, ⟨(hp.2.2.2.2 P n2).trans h.b.q, own_put h.b.own h.m hp, h.b.ne, h.b.hQ⟩, h.hq, h.hb, h.ne, h.ap, hp.below h.bel h.hM⟩, ht⟩
end
end Go.Proofs.Ytphbdffgeeicaaa
