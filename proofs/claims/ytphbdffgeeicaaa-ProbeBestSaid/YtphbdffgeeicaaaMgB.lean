/-
  Texts of one part, put together. No condition.
-/
import Derived.Test.YtphbdffgeeicaaaQueJ
/-
  Queues and best lists: plain laws. No condition.
-/
namespace Go.Proofs.Ytphbdffgeeicaaa
set_option linter.unusedSimpArgs false
set_option linter.unusedVariables false

theorem srtS_eq {l m : List Spt} (h : m.Perm l) (hp : m.Pairwise fun a b => sptLt b a = false) : m = srtS l := srt_eq swoS totS h hp
theorem srtS_pw (l : List Spt) : (srtS l).Pairwise fun a b => sptLt b a = false := srt_pw swoS l
theorem srtS_perm (l : List Spt) : (srtS l).Perm l := srt_perm
theorem srtS_congr {l m : List Spt} (h : m.Perm l) : srtS m = srtS l := srt_congr swoS totS h
/-- what was put in behind what is in order -/
theorem srtS_push {l m : List Spt} {s : Spt} (h : m.Perm (l ++ [s])) : srtS m = srtS (srtS l ++ [s]) := srtS_congr (h.trans ((srtS_perm l).symm.append_right [s]))
theorem fstS_mem {l : List Spt} {lt : Spt → Spt → Bool} (hS : Go.Sort.SWO lt) (hh : Heap lt l) (a : Spt) (ha : a ∈ l) : lt a (fstS l) = false := by
  obtain ⟨j, hj⟩ := List.getElem?_of_mem ha
  have h0 : 0 < l.length := List.length_pos_of_mem ha
  have hx : l[0]? = some (fstS l) := by unfold fstS; rw [List.getElem?_eq_getElem h0]; rfl
  exact hh.first hS hx j a hj
/-- the first of a queue, and the rest of it -/
theorem srtS_pop {l m : List Spt} (hh : Heap sptLt l) (h : (fstS l :: m).Perm l) : srtS l = fstS l :: srtS m := by
  refine (srtS_eq ((List.Perm.cons _ (srtS_perm m)).trans h) (List.pairwise_cons.2 ⟨fun b hb => ?_, srtS_pw m⟩)).symm
  exact fstS_mem swoS hh b (h.mem_iff.1 (List.mem_cons_of_mem _ ((srtS_perm m).mem_iff.1 hb)))
/-- the last of a best list in order is the worst of its heap -/
theorem srtS_worst {l m : List Spt} (hh : Heap sptGt l) (h : (fstS l :: m).Perm l) : srtS l = srtS m ++ [fstS l] := by
  refine (srtS_eq ((List.perm_append_comm.trans (List.Perm.cons _ (srtS_perm m))).trans h) (List.pairwise_append.2 ⟨srtS_pw m, by simp, fun a ha b hb => ?_⟩)).symm
  rw [List.mem_singleton.1 hb]
  exact fstS_mem swoG hh a (h.mem_iff.1 (List.mem_cons_of_mem _ ((srtS_perm m).mem_iff.1 ha)))
theorem fst_split {l : List Spt} (h : 0 < l.length) : ∃ m, l = fstS l :: m := by
  rcases l with _ | ⟨a, l⟩
  · simp at h
  · exact ⟨l, rfl⟩
theorem lstS_app (l : List Spt) (x : Spt) : lstS (l ++ [x]) = x := by unfold lstS; simp
theorem lstS_worst {l : List Spt} (hh : Heap sptGt l) (h : 0 < l.length) : lstS (srtS l) = fstS l := by
  obtain ⟨m, hm⟩ := fst_split h
  rw [srtS_worst hh (m := m) (by rw [← hm]), lstS_app]
/-- an offer, told from the lists in order -/
theorem off_eq {k : Nat} {l m : List Spt} {s : Spt} {r : Bool} (hh : Heap sptGt l) (hk : l.length ≤ k) (ho : Off k l s r m) : offR k (srtS l) s = (srtS m, r) ∧ m.length ≤ k := by
  unfold offR
  rcases ho with ⟨rfl, rfl, h⟩ | ⟨rfl, hk0, ⟨hl, hp⟩ | ⟨hl, hs, m', hp', hp⟩⟩
  · refine ⟨?_, hk⟩
    rw [if_pos]
    rw [srtS_len]
    rcases h with h | ⟨h1, h2⟩
    · exact ⟨by omega, .inl h⟩
    · refine ⟨h1, ?_⟩
      rcases Nat.eq_zero_or_pos k with e | e
      · exact .inl e
      · exact .inr (by rw [lstS_worst hh (by omega)]; exact h2)
  · have hml := hp.length_eq
    simp only [List.length_append, List.length_cons, List.length_nil] at hml
    refine ⟨?_, by omega⟩
    rw [if_neg (by rw [srtS_len]; omega), srtS_len, List.take_of_length_le (by rw [srtS_len, List.length_append, srtS_len]; unfold lstN; simp; omega), srtS_push hp]
  · have hml := hp.length_eq
    have hml' := hp'.length_eq
    simp only [List.length_append, List.length_cons, List.length_nil] at hml hml'
    refine ⟨?_, by omega⟩
    have hno : ¬ (k ≤ (srtS l).length ∧ (k = 0 ∨ sptLt s (lstS (srtS l)) = false)) := by
      rintro ⟨_, h | h⟩
      · exact hk0 h
      · rw [lstS_worst hh (by omega), hs] at h; cases h
    rw [if_neg hno, srtS_len]
    have e : srtS (srtS l ++ [s]) = srtS m ++ [fstS l] := by
      refine (srtS_eq ?_ (List.pairwise_append.2 ⟨srtS_pw m, by simp, fun a ha b hb => ?_⟩)).symm
      · refine (List.perm_append_comm.trans (List.Perm.cons _ ((srtS_perm m).trans hp))).trans ?_
        exact (hp'.append_right [s]).trans ((srtS_perm l).symm.append_right [s])
      · rw [List.mem_singleton.1 hb]
        rcases List.mem_append.1 (hp.mem_iff.1 ((srtS_perm m).mem_iff.1 ha)) with h | h
        · exact fstS_mem swoG hh a (hp'.mem_iff.1 (List.mem_cons_of_mem _ h))
        · rw [List.mem_singleton.1 h]; exact lt_asymm swoS hs
    rw [e, List.take_append_of_le_length (by rw [srtS_len]; unfold lstN; omega), List.take_of_length_le (by rw [srtS_len]; unfold lstN; omega)]
end Go.Proofs.Ytphbdffgeeicaaa

/-
  Several heaps side by side: what one turns leaves the others. No condition.
-/
namespace Go.Proofs.Ytphbdffgeeicaaa
set_option linter.unusedSimpArgs false
set_option linter.unusedVariables false
open Go.RowKit

/-- two slices have no block of their own in common -/
def Apart (v v2 : Value) : Prop := ∀ d, v.ownBlock = some d → v2.ownBlock ≠ some d
theorem Apart.symm {v v2 : Value} (h : Apart v v2) : Apart v2 v := fun d h2 h1 => h d h1 h2
theorem Apart.nil (v : Value) : Apart (.slice none 0 0) v := fun d h => by simp [Value.ownBlock] at h
section
variable {w w' : World} {B B2 Q Q2 : Nat} {t t2 : TypeId} {ex ex2 : Array Value} {f f2 : FuncId} {lt : Spt → Spt → Bool} {v v2 : Value} {l l2 m : List Spt}
theorem HpAt.other (h : HpAt w B Q t ex f v l) (h2 : HpAt w B2 Q2 t2 ex2 f2 v2 l2) (ap : Apart v v2) (hQ : Q ≠ Q2) (ht : TurnH w w' Q v) : HpAt w' B2 Q2 t2 ex2 f2 v2 l2 := by
  have n1 := own_blk_ne h.own h2.q h2.ne
  have n2 := own_blk_ne h2.own h.q h.ne
  refine ⟨(ht.block Q2 h2.q.lt (Ne.symm hQ) (fun e => n1 e.symm)).trans h2.q, own_keep h2.own fun g hg => ht.block g (h2.own.lt g hg).2 (fun e => n2 (e ▸ hg)) (fun e => ap g e.symm hg), h2.ne, h2.hQ⟩
/-- a block of another type than a spot's and the heap's stays, and one that neither is -/
theorem HpAt.blk {g : Nat} {u : TypeId} {cs : Array Value} (ht : TurnH w w' Q v) (hg : Blk w g u cs) (h1 : g ≠ Q) (h2 : v.ownBlock ≠ some g) : Blk w' g u cs :=
  (ht.block g hg.lt h1 (fun e => h2 e.symm)).trans hg
theorem Apart.turned {v' : Value} (h2 : HpAt w B2 Q2 t2 ex2 f2 v2 l2) (ap : Apart v v2) (h5 : ∀ d, v'.ownBlock = some d → v.ownBlock = some d ∨ w.heap.size ≤ d) : Apart v' v2 := fun d hd h => by
  rcases h5 d hd with e | e
  · exact ap d e h
  · have := (h2.own.lt d h).2; omega
/-- a heap has turned: the heap, and another one beside it -/
theorem HpDone.beside (h : HpAt w B Q t ex f v l) (h2 : HpAt w B2 Q2 t2 ex2 f2 v2 l2) (ap : Apart v v2) (hQ : Q ≠ Q2) (hd : HpDone w w' B Q t ex f lt v m) :
    ∃ (l' : List Spt) (v' : Value), Heap lt l' ∧ l'.Perm m ∧ HpAt w' B Q t ex f v' l' ∧ HpAt w' B2 Q2 t2 ex2 f2 v2 l2 ∧ Apart v' v2 ∧ TurnH w w' Q v ∧ ∀ d, v'.ownBlock = some d → v.ownBlock = some d ∨ w.heap.size ≤ d := by
  obtain ⟨l', v', r1, r2, r3, r4, r5⟩ := hd
  exact ⟨l', v', r1, r2, r3, h.other h2 ap hQ r4, ap.turned h2 r5, r4, r5⟩
end
/-- three heaps side by side: a queue and two best lists, all from block B on, and what lies in memory beside them -/
structure Tri (w0 w : World) (Q Q2 Q3 k2 k3 : Nat) (v v2 v3 : Value) (l l2 l3 : List Spt) : Prop where
  q : QAt w w0.heap.size Q v l
  b : BAt w w0.heap.size Q2 k2 v2 l2
  c : BAt w w0.heap.size Q3 k3 v3 l3
  hq : Heap sptLt l
  hb : Heap sptGt l2
  hc : Heap sptGt l3
  n12 : Q ≠ Q2
  n13 : Q ≠ Q3
  n23 : Q2 ≠ Q3
  a12 : Apart v v2
  a13 : Apart v v3
  a23 : Apart v2 v3
  bel : Below w0.heap.size w0 w
section
variable {w0 w w' : World} {Q Q2 Q3 k2 k3 : Nat} {v v2 v3 : Value} {l l2 l3 m : List Spt}
theorem Tri.below (h : Tri w0 w Q Q2 Q3 k2 k3 v v2 v3 l l2 l3) (hb : Below w.heap.size w w') : Tri w0 w' Q Q2 Q3 k2 k3 v v2 v3 l l2 l3 :=
  ⟨h.q.below hb, h.b.below hb, h.c.below hb, h.hq, h.hb, h.hc, h.n12, h.n13, h.n23, h.a12, h.a13, h.a23, Below.step h.bel hb⟩
/-- the queue has turned -/
theorem Tri.q_ (h : Tri w0 w Q Q2 Q3 k2 k3 v v2 v3 l l2 l3) (hd : QDone w w' w0.heap.size Q v m) : ∃ l' v', l'.Perm m ∧ Tri w0 w' Q Q2 Q3 k2 k3 v' v2 v3 l' l2 l3 ∧ TurnH w w' Q v ∧ ∀ d, v'.ownBlock = some d → v.ownBlock = some d ∨ w.heap.size ≤ d := by
  obtain ⟨l', v', r1, r2, r3, r4, r5⟩ := hd
  exact ⟨l', v', r2, ⟨r3, h.q.other h.b h.a12 h.n12 r4, h.q.other h.c h.a13 h.n13 r4, r1, h.hb, h.hc, h.n12, h.n13, h.n23, h.a12.turned h.b r5, h.a13.turned h.c r5, h.a23, h.q.turn h.bel r4 h.bel.size⟩, r4, r5⟩
/-- the first best list has turned -/
theorem Tri.b_ (h : Tri w0 w Q Q2 Q3 k2 k3 v v2 v3 l l2 l3) (hd : BDone w w' w0.heap.size Q2 k2 v2 m) : ∃ l' v', l'.Perm m ∧ Tri w0 w' Q Q2 Q3 k2 k3 v v' v3 l l' l3 ∧ TurnH w w' Q2 v2 ∧ ∀ d, v'.ownBlock = some d → v2.ownBlock = some d ∨ w.heap.size ≤ d := by
  obtain ⟨l', v', r1, r2, r3, r4, r5⟩ := hd
  exact ⟨l', v', r2, ⟨h.b.other h.q h.a12.symm h.n12.symm r4, r3, h.b.other h.c h.a23 h.n23 r4, h.hq, r1, h.hc, h.n12, h.n13, h.n23, (h.a12.symm.turned h.q r5).symm, h.a13, h.a23.turned h.c r5, h.b.turn h.bel r4 h.bel.size⟩, r4, r5⟩
/-- the second best list has turned -/
theorem Tri.c_ (h : Tri w0 w Q Q2 Q3 k2 k3 v v2 v3 l l2 l3) (hd : BDone w w' w0.heap.size Q3 k3 v3 m) : ∃ l' v', l'.Perm m ∧ Tri w0 w' Q Q2 Q3 k2 k3 v v2 v' l l2 l' ∧ TurnH w w' Q3 v3 ∧ ∀ d, v'.ownBlock = some d → v3.ownBlock = some d ∨ w.heap.size ≤ d := by
  obtain ⟨l', v', r1, r2, r3, r4, r5⟩ := hd
  exact ⟨l', v', r2, ⟨h.c.other h.q h.a13.symm h.n13.symm r4, h.c.other h.b h.a23.symm h.n23.symm r4, r3, h.hq, h.hb, r1, h.n12, h.n13, h.n23, h.a12, (h.a13.symm.turned h.q r5).symm, (h.a23.symm.turned h.b r5).symm, h.c.turn h.bel r4 h.bel.size⟩, r4, r5⟩
end
end Go.Proofs.Ytphbdffgeeicaaa

/-
  The law QueuePlays: a queue and a best list, and the document's lists beside them. No condition.
-/
namespace Go.Proofs.Ytphbdffgeeicaaa
set_option linter.unusedSimpArgs false
set_option linter.unusedVariables false
open Go.RowKit

/-- blocks in which the document's lists may lie -/
def FreeQ (W : World) (Q P : Nat) (v v2 : Value) (d : Nat) : Prop := d < W.heap.size ∧ d ≠ Q ∧ d ≠ P ∧ v.ownBlock ≠ some d ∧ v2.ownBlock ≠ some d
/-- the queue (at Q), the best list (at P), the document's lists lx, ly -/
structure PlQ (w wr : World) (Q P k : Nat) (v v2 : Value) (l l2 : List Spt) (Ax Ay : Option Addr) (lx ly : List Spt) : Prop where
  q : QAt wr w.heap.size Q v l
  b : BAt wr w.heap.size P k v2 l2
  hq : Heap sptLt l
  hb : Heap sptGt l2
  ne : Q ≠ P
  ap : Apart v v2
  bel : Below w.heap.size w wr
  x : RdR SP wr (FreeQ wr Q P v v2) Ax lx
  y : RdR SP wr (FreeQ wr Q P v v2) Ay ly
section
variable {w wr wr' : World} {Q P k : Nat} {v v2 : Value} {l l2 lx ly m : List Spt} {Ax Ay A : Option Addr}
theorem FreeQ.size (hs : wr.heap.size ≤ wr'.heap.size) {d : Nat} (h : FreeQ wr Q P v v2 d) : FreeQ wr' Q P v v2 d := ⟨Nat.lt_of_lt_of_le h.1 hs, h.2⟩
theorem PlQ.step (h : PlQ w wr Q P k v v2 l l2 Ax Ay lx ly) (hbl : Below wr.heap.size wr wr') : PlQ w wr' Q P k v v2 l l2 Ax Ay lx ly :=
  ⟨h.q.below hbl, h.b.below hbl, h.hq, h.hb, h.ne, h.ap, Below.step h.bel hbl, (h.x.below hbl fun _ hd => hd.1).more fun _ hd => hd.size hbl.size, (h.y.below hbl fun _ hd => hd.1).more fun _ hd => hd.size hbl.size⟩
/-- a block that came later than the two -/
theorem PlQ.new (h : PlQ w wr Q P k v v2 l l2 Ax Ay lx ly) {d : Nat} (h1 : wr.heap.size ≤ d) (h2 : d < wr'.heap.size) : FreeQ wr' Q P v v2 d := by
  obtain ⟨a1, a2⟩ := h.q.low
  obtain ⟨a3, a4⟩ := h.b.low
  exact ⟨h2, by omega, by omega, fun e => by have := a2 d e; omega, fun e => by have := a4 d e; omega⟩
theorem PlQ.setX (h : PlQ w wr Q P k v v2 l l2 Ax Ay lx ly) (hx : RdR SP wr (FreeQ wr Q P v v2) A m) : PlQ w wr Q P k v v2 l l2 A Ay m ly := ⟨h.q, h.b, h.hq, h.hb, h.ne, h.ap, h.bel, hx, h.y⟩
theorem PlQ.setY (h : PlQ w wr Q P k v v2 l l2 Ax Ay lx ly) (hy : RdR SP wr (FreeQ wr Q P v v2) A m) : PlQ w wr Q P k v v2 l l2 Ax A lx m := ⟨h.q, h.b, h.hq, h.hb, h.ne, h.ap, h.bel, h.x, hy⟩
/-- a call that makes a list -/
theorem PlQ.made (h : PlQ w wr Q P k v v2 l l2 Ax Ay lx ly) (hr : RdR SP wr' (Btw wr.heap.size wr'.heap.size) A m) : RdR SP wr' (FreeQ wr' Q P v v2) A m := hr.more fun _ hd => h.new hd.1 hd.2
theorem PlQ.grow (h : PlQ w wr Q P k v v2 l l2 Ax Ay lx ly) (hs : wr.heap.size ≤ wr'.heap.size) (hr : RdR SP wr' (Grow (FreeQ wr Q P v v2) wr wr') A m) : RdR SP wr' (FreeQ wr' Q P v v2) A m := hr.more fun _ hd => hd.elim (fun e => e.size hs) fun e => h.new e.1 e.2
/-- the queue has turned -/
theorem PlQ.q_ (h : PlQ w wr Q P k v v2 l l2 Ax Ay lx ly) (hd : QDone wr wr' w.heap.size Q v m) : ∃ l' v', l'.Perm m ∧ PlQ w wr' Q P k v' v2 l' l2 Ax Ay lx ly ∧ TurnH wr wr' Q v := by
  obtain ⟨l', v', r1, r2, r3, r4, r5⟩ := hd
  have hk : ∀ A m, RdR SP wr (FreeQ wr Q P v v2) A m → RdR SP wr' (FreeQ wr' Q P v' v2) A m := fun A m hx =>
    (hx.keepBlocks fun d hd => r4.block d hd.1 hd.2.1 fun e => hd.2.2.2.1 e.symm).more fun d hd => ⟨Nat.lt_of_lt_of_le hd.1 r4.size, hd.2.1, hd.2.2.1, fun e => by
      rcases r5 d e with e | e
      · exact hd.2.2.2.1 e
      · have := hd.1; omega, hd.2.2.2.2⟩
  exact ⟨l', v', r2, ⟨r3, h.q.other h.b h.ap h.ne r4, r1, h.hb, h.ne, h.ap.turned h.b r5, h.q.turn h.bel r4 h.bel.size, hk _ _ h.x, hk _ _ h.y⟩, r4⟩
/-- the best list has turned -/
theorem PlQ.b_ (h : PlQ w wr Q P k v v2 l l2 Ax Ay lx ly) (hd : BDone wr wr' w.heap.size P k v2 m) : ∃ l' v', l'.Perm m ∧ PlQ w wr' Q P k v v' l l' Ax Ay lx ly ∧ TurnH wr wr' P v2 := by
  obtain ⟨l', v', r1, r2, r3, r4, r5⟩ := hd
  have hk : ∀ A m, RdR SP wr (FreeQ wr Q P v v2) A m → RdR SP wr' (FreeQ wr' Q P v v') A m := fun A m hx =>
    (hx.keepBlocks fun d hd => r4.block d hd.1 hd.2.2.1 fun e => hd.2.2.2.2 e.symm).more fun d hd => ⟨Nat.lt_of_lt_of_le hd.1 r4.size, hd.2.1, hd.2.2.1, hd.2.2.2.1, fun e => by
      rcases r5 d e with e | e
      · exact hd.2.2.2.2 e
      · have := hd.1; omega⟩
  exact ⟨l', v', r2, ⟨h.b.other h.q h.ap.symm h.ne.symm r4, r3, h.hq, r1, h.ne, (h.ap.symm.turned h.q r5).symm, h.b.turn h.bel r4 h.bel.size, hk _ _ h.x, hk _ _ h.y⟩, r4⟩
end
/-- a deed: its kind, its spot -/
abbrev DeedQ := Int × Spt
def SDQ : Sh DeedQ := Sh.pair (Sh.int .i64) SP
theorem Rd.deedq {w : World} {B : Nat} {A : Option Addr} {l : List DeedQ} (h : Rd SDQ w B A l) {k : Nat} (hk : k < l.length) : ∃ ad d, A = some ad ∧ ad.block < B ∧ l[k]? = some d ∧ w.cell? (ad.add (k * 4)) = some (.int .i64 d.1) ∧ w.cell? ⟨(ad.add (k * 4)).block, (ad.add (k * 4)).off + 1, none⟩ = some (.int .u64 d.2.1.1) ∧ w.cell? ⟨(ad.add (k * 4)).block, (ad.add (k * 4)).off + 2, none⟩ = some (.int .u64 d.2.1.2) ∧ w.cell? ⟨(ad.add (k * 4)).block, (ad.add (k * 4)).off + 3, none⟩ = some (.int .i64 d.2.2) := by
  obtain ⟨ad, x, cs, e, hb, hx, hr, hc⟩ := h.at_ hk
  obtain ⟨c, d, rfl, hr1, hr2⟩ := hr
  obtain ⟨c', d', rfl, hr3, hr4⟩ := hr2
  obtain ⟨c2, d2, rfl, hr5, hr6⟩ := hr3
  have h1 : c = [.int .i64 x.1] := hr1
  have h2 : c2 = [.int .u64 x.2.1.1] := hr5
  have h3 : d2 = [.int .u64 x.2.1.2] := hr6
  have h4 : d' = [.int .i64 x.2.2] := hr4
  subst h1 h2 h3 h4
  have c0 := hc 0 _ rfl
  have c1 := hc 1 _ rfl
  have c2 := hc 2 _ rfl
  have c3 := hc 3 _ rfl
  rw [show SDQ.size = 4 from rfl, ← add_of_add] at c1 c2 c3
  refine ⟨ad, x, e, hb, hx, ?_, c1, c2, c3⟩
  simpa [SDQ, SP, SH, Sh.pair, Sh.int] using c0
end Go.Proofs.Ytphbdffgeeicaaa
