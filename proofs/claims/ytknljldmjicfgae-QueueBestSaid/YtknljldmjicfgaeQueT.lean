/-
  The law QueueBest: the walk. Conditions: the slice reads as a list of spots.
-/
import Derived.Test.YtknljldmjicfgaeQueR
import Derived.Test.YtknljldmjicfgaeQueO
namespace Go.Proofs.Ytknljldmjicfgae
set_option linter.unusedSimpArgs false
set_option linter.unusedVariables false
open Go.RowKit

theorem tri_start {w w1 w2 w3 : World} {Q Q2 Q3 k : Nat} (hq : QAt w1 w.heap.size Q (.slice none 0 0) []) (h4 : Below w.heap.size w w1) (hb : BAt w2 w1.heap.size Q2 k (.slice none 0 0) []) (h5 : Below w1.heap.size w1 w2) (hc : BAt w3 w2.heap.size Q3 k (.slice none 0 0) []) (h6 : Below w2.heap.size w2 w3) : Tri w w3 Q Q2 Q3 k k (.slice none 0 0) (.slice none 0 0) (.slice none 0 0) [] [] [] := by
  have l1 := hq.lt
  have l2 := hb.lt
  have l3 := hb.hQ
  have l4 := hc.hQ
  have s4 := h4.size
  have s5 := h5.size
  have n : ∀ v : Value, Apart (.slice none 0 0) v := Apart.nil
  exact ⟨(hq.below h5).below h6, (hb.lower s4).below h6, hc.lower (Nat.le_trans s4 s5), Heap.nil, Heap.nil, Heap.nil, by omega, by omega, by omega, n _, n _, n _, Below.step (Below.step h4 h5) h6⟩
/-- what the three have, once j were put in -/
def Put (K j : Nat) (x l l2 l3 : List Spt) : Prop :=
  l.Perm (x.take j) ∧ srtS l2 = (srtS (x.take j)).take K ∧ l2.length ≤ K ∧ srtS l3 = (srtS (x.reverse.take j)).take K ∧ l3.length ≤ K
theorem put0 (K : Nat) (x : List Spt) : Put K 0 x [] [] [] := ⟨by simp, by simp [srtS_nil], by simp, by simp [srtS_nil], by simp⟩
theorem Put.lens {K j : Nat} {x l l2 l3 : List Spt} (h : Put K j x l l2 l3) : l.length ≤ x.length ∧ l2.length ≤ x.length ∧ l3.length ≤ x.length := by
  obtain ⟨h1, h2, _, h4, _⟩ := h
  have a1 := h1.length_eq
  have a2 := congrArg List.length h2
  have a4 := congrArg List.length h4
  rw [srtS_len, List.length_take, srtS_len, List.length_take] at a2 a4
  rw [List.length_take] at a1
  rw [List.length_reverse] at a4
  omega
theorem take_succ_at {x : List Spt} {j : Nat} {s : Spt} (h : x[j]? = some s) : x.take (j + 1) = x.take j ++ [s] := by
  rw [List.take_add_one, h]; rfl
theorem rev_at {x : List Spt} {j t : Nat} {s : Spt} (h : x[t]? = some s) (ht : t + j + 1 = x.length) : x.reverse[j]? = some s := by
  rw [List.getElem?_reverse (by omega), ← h]
  congr 1
  omega
theorem Put.step {K j : Nat} {x l l2 l3 l' m2 m3 l2' l3' : List Spt} {s u : Spt} {r2 r3 : Bool} (h : Put K j x l l2 l3) (hs : x[j]? = some s) (hu : x.reverse[j]? = some u) (h1 : l'.Perm (l ++ [s])) (hb : Heap sptGt l2) (hc : Heap sptGt l3) (o2 : Off K l2 s r2 m2) (p2 : l2'.Perm m2) (o3 : Off K l3 u r3 m3) (p3 : l3'.Perm m3) : Put K (j + 1) x l' l2' l3' := by
  obtain ⟨a1, a2, a3, a4, a5⟩ := h
  obtain ⟨b1, b2⟩ := off_seen hb a3 o2 a2
  obtain ⟨b3, b4⟩ := off_seen hc a5 o3 a4
  refine ⟨?_, ?_, by rw [p2.length_eq]; exact b2, ?_, by rw [p3.length_eq]; exact b4⟩
  · rw [take_succ_at hs]; exact h1.trans (a1.append_right [s])
  · rw [srtS_congr p2, b1, take_succ_at hs]
  · rw [srtS_congr p3, b3, take_succ_at hu]
theorem Put.done {K n : Nat} {x l l2 l3 : List Spt} (h : Put K n x l l2 l3) (hn : x.length = n) : srtS l = srtS x ∧ srtS l2 = (srtS x).take K ∧ srtS l3 = (srtS x).take K := by
  obtain ⟨a1, a2, a3, a4, a5⟩ := h
  have e1 : x.take n = x := List.take_of_length_le (by omega)
  have e2 : x.reverse.take n = x.reverse := List.take_of_length_le (by rw [List.length_reverse]; omega)
  rw [e1] at a1 a2
  rw [e2, srtS_rev] at a4
  exact ⟨srtS_congr a1, a2, a4⟩
theorem drop_cons {x X : List Spt} {s : Spt} {j : Nat} (h : x.drop j = s :: X) : x[j]? = some s ∧ x.drop (j + 1) = X := by
  refine ⟨?_, ?_⟩
  · have := congrArg (fun l => l[0]?) h
    simpa using this
  · rw [← List.drop_drop, h]; rfl
/-- the queue is taken, spot by spot, into a list -/
structure Taken (w W : World) (Q Q2 Q3 K : Nat) (v2 v3 : Value) (l2 l3 x : List Spt) (a : Value) (j r : Nat) (v : Value) (l : List Spt) : Prop where
  tri : Tri w W Q Q2 Q3 K K v v2 v3 l l2 l3
  row : W.ownsRow w.heap.size 33 3 a j (fcs encS ((srtS x).take j))
  left : srtS l = (srtS x).drop r
  ap : Apart a v
  ap2 : Apart a v2
  ap3 : Apart a v3
section
variable {w W W' : World} {Q Q2 Q3 K j r : Nat} {v v2 v3 a a' : Value} {l l2 l3 x : List Spt}
theorem Taken.step (h : Taken w W Q Q2 Q3 K v2 v3 l2 l3 x a j r v l) (hb : Below W.heap.size W W') : Taken w W' Q Q2 Q3 K v2 v3 l2 l3 x a j r v l :=
  ⟨h.tri.below hb, own_keep h.row fun g hg => hb.block g (h.row.lt g hg).2, h.left, h.ap, h.ap2, h.ap3⟩
theorem Taken.turn {m l' : List Spt} {v' : Value} {L : List Spt} (h : Taken w W Q Q2 Q3 K v2 v3 l2 l3 x a j r v l) (ht : Tri w W' Q Q2 Q3 K K v' v2 v3 l' l2 l3) (hT : TurnH W W' Q v) (h5 : ∀ d, v'.ownBlock = some d → v.ownBlock = some d ∨ W.heap.size ≤ d) :
    W'.ownsRow w.heap.size 33 3 a j (fcs encS ((srtS x).take j)) ∧ Apart a v' := by
  have n1 := own_blk_ne h.row h.tri.q.q (by decide)
  refine ⟨own_keep h.row fun g hg => hT.block g (h.row.lt g hg).2 (fun e => n1 (e ▸ hg)) (fun e => h.ap g hg e.symm), fun d hd hv => ?_⟩
  rcases h5 d hv with e | e
  · exact h.ap d hd e
  · have := (h.row.lt d hd).2; omega
/-- the list of what was taken grows -/
theorem Taken.grow {xs : List Value} {i : Nat} (h : Taken w W Q Q2 Q3 K v2 v3 l2 l3 x a j r v l) (hg : W.grownBy W' a.ownBlock) (ho : W'.ownsRow w.heap.size 33 3 a' i xs) (hA : a'.ownBlock = a.ownBlock ∨ ∃ d, a'.ownBlock = some d ∧ W.heap.size ≤ d) :
    Tri w W' Q Q2 Q3 K K v v2 v3 l l2 l3 ∧ Apart a' v ∧ Apart a' v2 ∧ Apart a' v3 := by
  have n1 := own_blk_ne h.row h.tri.q.q (by decide)
  have n2 := own_blk_ne h.row h.tri.b.q (by decide)
  have n3 := own_blk_ne h.row h.tri.c.q (by decide)
  have keep : ∀ d, d < W.heap.size → a.ownBlock ≠ some d → W'.heap[d]? = W.heap[d]? := fun d hd hn => hg.block d hd (fun e => hn e.symm)
  have hp : ∀ {B Q : Nat} {t : TypeId} {ex : Array Value} {f : FuncId} {u : Value} {m : List Spt}, HpAt W B Q t ex f u m → a.ownBlock ≠ some Q → Apart a u → HpAt W' B Q t ex f u m := fun hh hne hap =>
    ⟨(keep _ hh.lt hne).trans hh.q, own_keep hh.own fun g hg => keep g (hh.own.lt g hg).2 (fun e => hap g e hg), hh.ne, hh.hQ⟩
  have hap : ∀ {B Q : Nat} {t : TypeId} {ex : Array Value} {f : FuncId} {u : Value} {m : List Spt}, HpAt W B Q t ex f u m → Apart a u → Apart a' u := fun hh ha d hd hu => by
    rcases hA with e | ⟨d', e, h5⟩
    · exact ha d (e ▸ hd) hu
    · rw [hd] at e; injection e with e; subst e; have := (hh.own.lt d hu).2; omega
  have hB : Below w.heap.size w W' := below_own h.tri.bel h.row h.tri.bel.size hg
  exact ⟨⟨hp h.tri.q n1 h.ap, hp h.tri.b n2 h.ap2, hp h.tri.c n3 h.ap3, h.tri.hq, h.tri.hb, h.tri.hc, h.tri.n12, h.tri.n13, h.tri.n23, h.tri.a12, h.tri.a13, h.tri.a23, hB⟩, hap h.tri.q h.ap, hap h.tri.b h.ap2, hap h.tri.c h.ap3⟩
end
end Go.Proofs.Ytknljldmjicfgae
