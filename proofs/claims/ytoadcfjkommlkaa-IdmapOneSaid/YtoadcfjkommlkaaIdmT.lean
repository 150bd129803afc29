/-
  What lives keeps: the map, its list, variables of refs. Conditions: the blocks lie as said.
-/
import Derived.Test.YtoadcfjkommlkaaIdmP
import Derived.Test.YtoadcfjkommlkaaIdmR
namespace Go.Proofs.Ytoadcfjkommlkaa
set_option linter.unusedSimpArgs false
set_option linter.unusedVariables false
open Go.RowKit

theorem KAt.keep {w w' : World} {B M g : Nat} {hs : List Nat} {L : List NamedV} {ver : Int} (h : KAt w B M g hs L ver) {q : Nat} {t : TypeId} {cs : Array Value} (ht : t ≠ 59) (hq : Blk w q t cs) (hT : TurnI w w' M hs) : Blk w' q t cs := by
  obtain ⟨ms, h1, rfl⟩ := h
  refine (hT.block q hq.lt (hq.ne_ h1.m ht) fun hm => ?_).trans hq
  obtain ⟨i, hi⟩ := List.getElem?_of_mem hm
  exact h1.ne_map hi hq rfl
theorem KAt.turn {w w' a : World} {B M g : Nat} {hs : List Nat} {L : List NamedV} {ver : Int} (h : KAt w B M g hs L ver) (hbl : Below B a w) (ht : TurnI w w' M hs) (hB : B ≤ w.heap.size) : Below B a w' := by
  obtain ⟨ms, h1, rfl⟩ := h
  exact h1.turn hbl ht hB
/-- the map, and variables of refs -/
structure LI (w : World) (M g : Nat) (hs : List Nat) (L : List NamedV) (ver : Int) (bx : List (Nat × Int × Int)) (W : World) : Prop where
  k : KAt W w.heap.size M g hs L ver
  n : hs.length = 4
  bx : ∀ p ∈ bx, Blk W p.1 35 #[.int .i64 p.2.1, .int .i64 p.2.2]
  bel : Below w.heap.size w W
section
variable {w W W' : World} {M g : Nat} {hs : List Nat} {L L' : List NamedV} {ver ver' : Int} {bx : List (Nat × Int × Int)}
theorem LI.step (h : LI w M g hs L ver bx W) (hb : Below W.heap.size W W') : LI w M g hs L ver bx W' :=
  ⟨h.k.below hb, h.n, fun p hp => (h.bx p hp).below hb (h.bx p hp).lt, Below.step h.bel hb⟩
theorem LI.turn (h : LI w M g hs L ver bx W) (hk : KAt W' w.heap.size M g hs L' ver') (ht : TurnI W W' M hs) : LI w M g hs L' ver' bx W' :=
  ⟨hk, h.n, fun p hp => h.k.keep (by decide) (h.bx p hp) ht, h.k.turn h.bel ht h.bel.size⟩
theorem LI.box (h : LI w M g hs L ver bx W) (a b : Int) : LI w M g hs L ver ((W.heap.size, a, b) :: bx) (W.alloc (.cells #[.int .i64 a, .int .i64 b] 35)) := by
  have h2 := h.step (below1 W (.cells #[.int .i64 a, .int .i64 b] 35))
  refine ⟨h2.k, h2.n, fun p hp => ?_, h2.bel⟩
  rcases List.mem_cons.1 hp with rfl | hp
  · exact Blk.new _ _ _
  · exact h2.bx p hp
theorem LI.cells (h : LI w M g hs L ver bx W) {q : Nat} {a b : Int} (hp : (q, a, b) ∈ bx) : W.cell? ⟨q, 0, none⟩ = some (.int .i64 a) ∧ W.cell? ⟨q, 1, none⟩ = some (.int .i64 b) := cell2s (h.bx _ hp)
theorem liPut (h : LI w M g hs L ver bx W) (id r1 r2 : Int) (hw : (Lit.int .u64 id).wf = true) (hv : 0 ≤ ver ∧ ver ≤ 1000000) {b : Bool} (he : putL L ver id (r1, r2) = (L', ver')) (hb : (!(lookF L id).isSome) = b) :
    Calls Try.prog 9 #[.pointer (some ⟨M, 0, none⟩), .int .u64 id, .agg #[.int .i64 r1, .int .i64 r2]] W fun e w' => e = .returned (.bool b) ∧ LI w M g hs L' ver' bx w' := by
  refine (kPut h.k hw r1 r2 hv).mono ?_
  rintro e w' ⟨rfl, k1, k2⟩
  rw [he] at k1
  exact ⟨by rw [hb], h.turn k1 k2⟩
theorem liDrop (h : LI w M g hs L ver bx W) (id : Int) (hw : (Lit.int .u64 id).wf = true) (hv : 0 ≤ ver ∧ ver ≤ 1000000) {b : Bool} {r1 r2 : Int} (he : dropL L ver id = (L', ver')) (hb : (lookF L id).isSome = b) (hr : (lookF L id).getD (0, 0) = (r1, r2)) :
    Calls Try.prog 11 #[.pointer (some ⟨M, 0, none⟩), .int .u64 id] W fun e w' => e = .returned (.tuple #[.agg #[.int .i64 r1, .int .i64 r2], .bool b]) ∧ LI w M g hs L' ver' bx w' := by
  refine (kDrop h.k hw hv).mono ?_
  rintro e w' ⟨rfl, k1, k2⟩
  rw [he] at k1
  exact ⟨by rw [hb, hr]; rfl, h.turn k1 k2⟩
theorem liGet (h : LI w M g hs L ver bx W) (id : Int) (hw : (Lit.int .u64 id).wf = true) {b : Bool} {r1 r2 : Int} (hb : (lookF L id).isSome = b) (hr : (lookF L id).getD (0, 0) = (r1, r2)) :
    Calls Try.prog 12 #[.pointer (some ⟨M, 0, none⟩), .int .u64 id] W fun e w' => e = .returned (.tuple #[.agg #[.int .i64 r1, .int .i64 r2], .bool b]) ∧ LI w M g hs L ver bx w' := by
  refine (kGet h.k hw).mono ?_
  rintro e w' ⟨rfl, k1⟩
  exact ⟨by rw [hb, hr]; rfl, h.step k1⟩
theorem liShard (h : LI w M g hs L ver bx W) (id : Int) {s : Nat} (hs' : shardF 4 id = s) : Calls Try.prog 16 #[.pointer (some ⟨M, 0, none⟩), .int .u64 id] W fun e w' => e = .returned (.int .i64 s) ∧ LI w M g hs L ver bx w' := by
  refine (kShard h.k id).mono ?_
  rintro e w' ⟨rfl, k1⟩
  exact ⟨by rw [h.n, hs'], h.step k1⟩
theorem liSize (h : LI w M g hs L ver bx W) (i : Int) {z : Int} (hi : (sizeR 4 L i : Int) = z) : Calls Try.prog 18 #[.pointer (some ⟨M, 0, none⟩), .int .i64 i] W fun e w' => e = .returned (.int .i64 z) ∧ W = w' := by
  have := kSize h.k i
  rwa [h.n, hi] at this
theorem getNil (id : Int) (w : World) : Calls Try.prog 12 #[.pointer none, .int .u64 id] w fun e w' => e = .returned (.tuple #[.agg #[.int .i64 0, .int .i64 0], .bool false]) ∧ Below w.heap.size w w' := get_nil id w
theorem liLen (h : LI w M g hs L ver bx W) {z : Int} (hi : (L.length : Int) = z) (h6 : L.length ≤ 1000) : Calls Try.prog 14 #[.pointer (some ⟨M, 0, none⟩)] W fun e w' => e = .returned (.int .i64 z) ∧ W = w' := by
  have := kLen h.k h6
  rwa [hi] at this
theorem liList (h : LI w M g hs L ver bx W) {k : Nat} (hi : L.length = k) (h6 : k ≤ 1000) : Calls Try.prog 21 #[.pointer (some ⟨M, 0, none⟩)] W fun e w' => ∃ A c, e = .returned (.slice A k c) ∧ k ≤ c ∧ c ≤ 9223372036854775807 ∧ Rd SNm w' w'.heap.size A L ∧ Below W.heap.size W w' := by
  refine (kList h.k (by omega)).mono ?_
  rintro e w' ⟨v, rfl, k1, k2⟩
  obtain ⟨A, c, rfl, o1, o2⟩ := own_form k1
  rw [hi] at k1 o1 ⊢
  exact ⟨A, c, rfl, o1, o2, (flatN.own k1).rd fun b hb => hb.2, k2⟩
end
end Go.Proofs.Ytoadcfjkommlkaa
