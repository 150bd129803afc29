/-
  What the walk of IdmapPlays keeps: the map, the document's list, variables. Conditions: the blocks lie as said.
-/
import Derived.Test.YtoadcfjkommlkaaIdmT
import Derived.Deep.Onto
namespace Go.Proofs.Ytoadcfjkommlkaa
set_option linter.unusedSimpArgs false
set_option linter.unusedVariables false
open Go.RowKit

theorem own_blk {w : World} {base : Nat} {e : TypeId} {size n : Nat} {v : Value} {xs : List Value} (h : w.ownsRow base e size v n xs) {g : Nat} (hg : v.ownBlock = some g) : ∃ cs, Blk w g e cs := by
  rcases h.2 with ⟨rfl, _⟩ | ⟨g', cap, cur, rfl, _, hh, _⟩
  · simp [Value.ownBlock] at hg
  · have : g' = g := by simpa [Value.ownBlock] using hg
    subst this
    exact ⟨cur, hh⟩
abbrev DeedI : Type := Int × Int × RefV
def SDI : Sh DeedI := Sh.pair (Sh.int .i64) (Sh.pair (Sh.int .u64) (Sh.pair (Sh.int .i64) (Sh.int .i64)))
theorem RdR.deedi {w : World} {R : Nat → Prop} {A : Option Addr} {l : List DeedI} (h : RdR SDI w R A l) {k : Nat} (hk : k < l.length) : ∃ ad d, A = some ad ∧ R ad.block ∧ l[k]? = some d ∧ w.cell? (ad.add (k * 4)) = some (.int .i64 d.1) ∧ w.cell? ⟨(ad.add (k * 4)).block, (ad.add (k * 4)).off + 1, none⟩ = some (.int .u64 d.2.1) ∧ w.cell? ⟨(ad.add (k * 4)).block, (ad.add (k * 4)).off + 2, none⟩ = some (.int .i64 d.2.2.1) ∧ w.cell? ⟨(ad.add (k * 4)).block, (ad.add (k * 4)).off + 3, none⟩ = some (.int .i64 d.2.2.2) := by
  obtain ⟨ad, x, cs, e, hb, hx, hr, hc⟩ := h.at_ hk
  have hcs : cs = [.int .i64 x.1, .int .u64 x.2.1, .int .i64 x.2.2.1, .int .i64 x.2.2.2] := ((flatPair (flatInt .i64) (flatPair (flatInt .u64) (flatPair (flatInt .i64) (flatInt .i64)))).rd _ _ _ _).1 hr
  subst hcs
  have c0 := hc 0 _ rfl
  have c1 := hc 1 _ rfl
  have c2 := hc 2 _ rfl
  have c3 := hc 3 _ rfl
  rw [show SDI.size = 4 from rfl, ← add_of_add] at c1 c2 c3
  exact ⟨ad, x, e, hb, hx, by simpa [SDI, Sh.pair, Sh.int] using c0, c1, c2, c3⟩
theorem cell4i {w : World} {g : Nat} {t : TypeId} {a b c d : Value} (h : Blk w g t #[a, b, c, d]) : w.cell? ⟨g, 0, none⟩ = some a ∧ w.cell? ⟨g, 1, none⟩ = some b ∧ w.cell? ⟨g, 2, none⟩ = some c ∧ w.cell? ⟨g, 3, none⟩ = some d :=
  ⟨by rw [h.cell]; rfl, by rw [h.cell]; rfl, by rw [h.cell]; rfl, by rw [h.cell]; rfl⟩
theorem put_len (L : List NamedV) (ver id : Int) (r : RefV) {k : Nat} (h : L.length ≤ k) (hv : 0 ≤ ver ∧ ver ≤ k) : (putL L ver id r).1.length ≤ k + 1 ∧ 0 ≤ (putL L ver id r).2 ∧ (putL L ver id r).2 ≤ ((k + 1 : Nat) : Int) := by
  unfold putL
  split
  · simp only; omega
  · simp only
    rw [insP_eq, (ins_perm L).length_eq, List.length_cons]
    omega
theorem drop_len2 (L : List NamedV) (ver id : Int) {k : Nat} (h : L.length ≤ k) (hv : 0 ≤ ver ∧ ver ≤ k) : (dropL L ver id).1.length ≤ k + 1 ∧ 0 ≤ (dropL L ver id).2 ∧ (dropL L ver id).2 ≤ ((k + 1 : Nat) : Int) := by
  unfold dropL
  split
  · have := drop_len L id
    simp only; omega
  · simp only; omega
set_option maxHeartbeats 1000000 in
theorem refNew_bad (n : Int) (hn : n < 1 ∨ 64 < n) (w : World) : Calls Try.prog 7 #[.int .i64 n] w fun e w' => e = .returned (.tuple #[.agg #[.int .i64 0, .slice none 0 0, .int .i64 0], .int .i64 6]) ∧ Below w.heap.size w w' := by
  have q := Blk.new w 30 #[.int .i64 0, .slice none 0 0, .int .i64 0]
  obtain ⟨q0, q1, q2⟩ := cell3i q
  rcases Int.lt_or_le n 1 with h | h
  · have b2 : decide ((n : Int) < 1) = true := decide_eq_true h
    go_enter Try.func7, Try.ntmps7
    go_wp2
    exact bodyPost_ret (v := .tuple #[.agg #[.int .i64 0, .slice none 0 0, .int .i64 0], .int .i64 6]) (by simp [results, Try.results7, go_sem, q0, q1, q2]) rfl ⟨rfl, below1 w _⟩
  · have b1 : ¬ (n < 1) := by omega
    have b2 : decide ((n : Int) < 1) = false := decide_eq_false b1
    have b4 : decide ((64 : Int) < n) = true := decide_eq_true (by omega)
    go_enter Try.func7, Try.ntmps7
    go_wp2
    exact bodyPost_ret (v := .tuple #[.agg #[.int .i64 0, .slice none 0 0, .int .i64 0], .int .i64 6]) (by simp [results, Try.results7, go_sem, q0, q1, q2]) rfl ⟨rfl, below1 w _⟩
section
variable {W : World} {base n c : Nat} {A : Option Addr} {L : List NamedV}
theorem own_rd (h : W.ownsRow base 56 3 (.slice A n c) n (fcs encN L)) : Rd SNm W W.heap.size A L := (flatN.own h).rd fun b hb => hb.2
theorem refPut_all (h : W.ownsRow base 56 3 (.slice A n c) n (fcs encN L)) (hn : L.length = n) (hb : base ≤ W.heap.size) (h6 : n ≤ 1000) (sh ver id r1 r2 : Int) (hv : 0 ≤ ver ∧ ver ≤ 1000000) :
    Calls Try.prog 8 #[.agg #[.int .i64 sh, .slice A n c, .int .i64 ver], .int .u64 id, .agg #[.int .i64 r1, .int .i64 r2]] W fun e w' => ∃ v', e = .returned (.tuple #[.agg #[.int .i64 sh, v', .int .i64 (putL L ver id (r1, r2)).2], .bool (!(lookF L id).isSome)]) ∧ w'.ownsRow base 56 3 v' (putL L ver id (r1, r2)).1.length (fcs encN (putL L ver id (r1, r2)).1) ∧ Below W.heap.size W w' := by
  unfold putL
  cases e : (lookF L id).isSome with
  | true =>
    refine (refPut_has A n c L sh ver id r1 r2 W (own_rd h) hn h6 e).mono ?_
    rintro e w' ⟨rfl, k1⟩
    refine ⟨_, rfl, ?_, k1⟩
    simp only [if_true]
    rw [hn]
    exact own_keep h fun g hg => k1.block g (h.lt g hg).2
  | false =>
    refine (refPut_new A n c L sh ver id r1 r2 W (own_rd h) hn h6 e hv).mono ?_
    rintro e w' ⟨v, rfl, k1, k2⟩
    refine ⟨v, rfl, ?_, k2⟩
    simp only [Bool.false_eq_true, if_false]
    rw [show (insP L id (r1, r2)).length = n + 1 by rw [insP_eq, (ins_perm L).length_eq, List.length_cons, hn]]
    exact k1.mono hb
theorem refDrop_all (h : W.ownsRow base 56 3 (.slice A n c) n (fcs encN L)) (hn : L.length = n) (hb : base ≤ W.heap.size) (h6 : n ≤ 1000) (sh ver id : Int) (hv : 0 ≤ ver ∧ ver ≤ 1000000) :
    Calls Try.prog 10 #[.agg #[.int .i64 sh, .slice A n c, .int .i64 ver], .int .u64 id] W fun e w' => ∃ v', e = .returned (.tuple #[.agg #[.int .i64 sh, v', .int .i64 (dropL L ver id).2], encR ((lookF L id).getD (0, 0)), .bool (lookF L id).isSome]) ∧ w'.ownsRow base 56 3 v' (dropL L ver id).1.length (fcs encN (dropL L ver id).1) ∧ Below W.heap.size W w' := by
  unfold dropL
  refine (refDrop_any A n c L sh ver id W (own_rd h) hn h6 hv).mono ?_
  rintro e w' ⟨k1, ⟨e1, rfl⟩ | ⟨e1, v, rfl, k2⟩⟩
  · refine ⟨.slice A n c, by rw [e1]; rfl, ?_, k1⟩
    rw [e1]
    simp only [Bool.false_eq_true, if_false]
    rw [hn]
    exact own_keep h fun g hg => k1.block g (h.lt g hg).2
  · refine ⟨v, by rw [e1]; rfl, ?_, k1⟩
    rw [e1]
    simp only [if_true]
    exact k2.mono hb
end
/-- the map, the document's variable, a deed's and others -/
structure PI (w : World) (M g : Nat) (hs : List Nat) (X : Nat) (L : List NamedV) (ver : Int) (v : Value) (bx : List (Nat × TypeId × Array Value)) (W : World) : Prop where
  k : KAt W w.heap.size M g hs L ver
  x : Blk W X 30 #[.int .i64 hs.length, v, .int .i64 ver]
  own : W.ownsRow w.heap.size 56 3 v L.length (fcs encN L)
  bx : ∀ p ∈ bx, p.2.1 ≠ 59 ∧ p.2.1 ≠ 56 ∧ p.1 ≠ X ∧ Blk W p.1 p.2.1 p.2.2
  bel : Below w.heap.size w W
  hX : w.heap.size ≤ X
section
variable {w W W' : World} {M g X : Nat} {hs : List Nat} {L L' : List NamedV} {ver ver' : Int} {v v' : Value} {bx : List (Nat × TypeId × Array Value)}
theorem PI.step (h : PI w M g hs X L ver v bx W) (hb : Below W.heap.size W W') : PI w M g hs X L ver v bx W' :=
  ⟨h.k.below hb, h.x.below hb h.x.lt, own_keep h.own fun g hg => hb.block g (h.own.lt g hg).2, fun p hp => ⟨(h.bx p hp).1, (h.bx p hp).2.1, (h.bx p hp).2.2.1, (h.bx p hp).2.2.2.below hb (h.bx p hp).2.2.2.lt⟩, Below.step h.bel hb, h.hX⟩
theorem PI.box (h : PI w M g hs X L ver v bx W) {t : TypeId} (cs : Array Value) (h1 : t ≠ 59) (h2 : t ≠ 56) : PI w M g hs X L ver v ((W.heap.size, t, cs) :: bx) (W.alloc (.cells cs t)) := by
  have k := h.step (below1 W (.cells cs t))
  refine ⟨k.k, k.x, k.own, fun p hp => ?_, k.bel, k.hX⟩
  rcases List.mem_cons.1 hp with rfl | hp
  · exact ⟨h1, h2, fun e => by have := h.x.lt; simp only at e; omega, Blk.new _ _ _⟩
  · exact k.bx p hp
theorem PI.blk (h : PI w M g hs X L ver v bx W) {q : Nat} {t : TypeId} {cs : Array Value} (hp : (q, t, cs) ∈ bx) : Blk W q t cs := (h.bx _ hp).2.2.2
theorem PI.mono (h : PI w M g hs X L ver v bx W) {bx' : List (Nat × TypeId × Array Value)} (hs' : ∀ p ∈ bx', p ∈ bx) : PI w M g hs X L ver v bx' W := ⟨h.k, h.x, h.own, fun p hp => h.bx p (hs' p hp), h.bel, h.hX⟩
theorem PI.xc (h : PI w M g hs X L ver v bx W) : W.cell? ⟨X, 0, none⟩ = some (.int .i64 hs.length) ∧ W.cell? ⟨X, 1, none⟩ = some v ∧ W.cell? ⟨X, 2, none⟩ = some (.int .i64 ver) := cell3i h.x
theorem PI.dc (h : PI w M g hs X L ver v bx W) {q : Nat} {d : DeedI} (hp : (q, 37, #[.int .i64 d.1, .int .u64 d.2.1, .int .i64 d.2.2.1, .int .i64 d.2.2.2]) ∈ bx) : W.cell? ⟨q, 0, none⟩ = some (.int .i64 d.1) ∧ W.cell? ⟨q, 1, none⟩ = some (.int .u64 d.2.1) ∧ W.cell? ⟨q, 2, none⟩ = some (.int .i64 d.2.2.1) ∧ W.cell? ⟨q, 3, none⟩ = some (.int .i64 d.2.2.2) := cell4i (h.blk hp)
theorem PI.rc (h : PI w M g hs X L ver v bx W) {q : Nat} {a b : Int} (hp : (q, 35, #[.int .i64 a, .int .i64 b]) ∈ bx) : W.cell? ⟨q, 0, none⟩ = some (.int .i64 a) ∧ W.cell? ⟨q, 1, none⟩ = some (.int .i64 b) := cell2s (h.blk hp)
theorem PI.start {w1 w2 : World} {n : Nat} (hk : KAt w1 w.heap.size M g hs [] 0) (hn : hs.length = n) (hb : Below w.heap.size w w1) (hb2 : Below w1.heap.size w1 w2) : PI w M g hs w2.heap.size [] 0 (.slice none 0 0) [] (w2.alloc (.cells #[.int .i64 n, .slice none 0 0, .int .i64 0] 30)) := by
  subst hn
  have b3 := Below.step hb2 (below1 w2 (.cells #[.int .i64 hs.length, .slice none 0 0, .int .i64 0] 30))
  have := hb.size
  have := hb2.size
  exact ⟨hk.below b3, Blk.new _ _ _, World.ownsRow_nil _ _ _ _, fun p hp => by simp at hp, Below.step hb b3, by omega⟩
/-- the document's is stored, the map has done its own -/
theorem PI.turn (h : PI w M g hs X L ver v bx W) (ho : W.ownsRow w.heap.size 56 3 v' L'.length (fcs encN L')) :
    let W1 := ((W.setCell ⟨X, 0, none⟩ (.int .i64 hs.length)).setCell ⟨X, 1, none⟩ v').setCell ⟨X, 2, none⟩ (.int .i64 ver')
    KAt W1 w.heap.size M g hs L ver ∧ (∀ p ∈ bx, Blk W1 p.1 p.2.1 p.2.2) ∧ ∀ W', KAt W' w.heap.size M g hs L' ver' → TurnI W1 W' M hs → PI w M g hs X L' ver' v' bx W' := by
  intro W1
  have hk : ∀ d, d ≠ X → W1.heap[d]? = W.heap[d]? := fun d hd => by
    show (((W.setCell ⟨X, 0, none⟩ (.int .i64 hs.length)).setCell ⟨X, 1, none⟩ v').setCell ⟨X, 2, none⟩ (.int .i64 ver')).heap[d]? = _
    rw [Below.heap_setCell _ _ _ _ hd, Below.heap_setCell _ _ _ _ hd, Below.heap_setCell _ _ _ _ hd]
  have x1 : Blk W1 X 30 #[.int .i64 hs.length, v', .int .i64 ver'] := ((h.x.set_ 0 (.int .i64 hs.length)).set_ 1 v').set_ 2 (.int .i64 ver')
  have b1 : Below w.heap.size w W1 := ((h.bel.setCell (p := ⟨X, 0, none⟩) h.hX _).setCell (p := ⟨X, 1, none⟩) h.hX _).setCell (p := ⟨X, 2, none⟩) h.hX _
  have o1 : W1.ownsRow w.heap.size 56 3 v' L'.length (fcs encN L') := own_keep ho fun d hd => hk d fun e => own_blk_ne ho h.x (by decide) (e ▸ hd)
  have k1 : KAt W1 w.heap.size M g hs L ver := by
    obtain ⟨ms, hi, rfl⟩ := h.k
    refine ⟨ms, ⟨(hk _ (hi.m.ne_ h.x (by decide))).trans hi.m, (hk _ (hi.row.ne_ h.x (by decide))).trans hi.row, hi.len, fun i hh l e1 e2 => (hi.maps i hh l e1 e2).block (hk _ fun e => hi.ne_map e1 h.x e.symm), hi.nd, hi.loM, hi.log, hi.loh, hi.n0, hi.n1, hi.home⟩, rfl⟩
  have bx1 : ∀ p ∈ bx, p.2.1 ≠ 59 ∧ p.2.1 ≠ 56 ∧ p.1 ≠ X ∧ Blk W1 p.1 p.2.1 p.2.2 := fun p hp => ⟨(h.bx p hp).1, (h.bx p hp).2.1, (h.bx p hp).2.2.1, (hk _ (h.bx p hp).2.2.1).trans (h.bx p hp).2.2.2⟩
  refine ⟨k1, fun p hp => (bx1 p hp).2.2.2, fun W' k2 ht => ⟨k2, k1.keep (by decide) x1 ht, own_keep o1 fun d hd => ?_, fun p hp => ⟨(bx1 p hp).1, (bx1 p hp).2.1, (bx1 p hp).2.2.1, k1.keep (bx1 p hp).1 (bx1 p hp).2.2.2 ht⟩, k1.turn b1 ht b1.size, h.hX⟩⟩
  obtain ⟨cs, hd'⟩ := own_blk o1 hd
  exact (k1.keep (by decide) hd' ht).trans hd'.symm
end
end Go.Proofs.Ytoadcfjkommlkaa
