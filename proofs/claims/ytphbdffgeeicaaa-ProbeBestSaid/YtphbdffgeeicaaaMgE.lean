/-
  Texts of one part, put together. No condition.
-/
import Derived.Test.YtphbdffgeeicaaaPrbX
import Derived.Test.YtphbdffgeeicaaaQueR
import Derived.Test.YtphbdffgeeicaaaPrbT
import Derived.Test.YtphbdffgeeicaaaMgC
/-
  The law ProbeBest: a probe, and two lists of spots that grow. Condition: they lie as said.
-/
namespace Go.Proofs.Ytphbdffgeeicaaa
set_option linter.unusedSimpArgs false
set_option linter.unusedVariables false
open Go.RowKit

/-- blocks that are none of those that turn -/
def FrB (W : World) (M Q P : Nat) (v v2 va vb : Value) (d : Nat) : Prop := FreeP W M Q P v v2 d ∧ va.ownBlock ≠ some d ∧ vb.ownBlock ≠ some d
/-- a probe; two rows of spots; variables -/
structure PB (w : World) (X M Q P : Nat) (mask ef : Int) (A : Option Addr) (c : Nat) (qs : List Int) (v v2 : Value) (n : Nat) (kn : List Int) (wt bs : List Spt) (va vb : Value) (la lb : List Spt) (bx : List (Nat × TypeId × Array Value)) (W : World) : Prop where
  pv : PrV w W X M Q P mask ef A c qs v v2 n kn wt bs
  oa : W.ownsRow w.heap.size 53 3 va la.length (fcs encS la)
  ob : W.ownsRow w.heap.size 53 3 vb lb.length (fcs encS lb)
  fa : ∀ d, va.ownBlock = some d → FreeP W M Q P v v2 d
  fb : ∀ d, vb.ownBlock = some d → FreeP W M Q P v v2 d
  ab : ∀ d, va.ownBlock = some d → vb.ownBlock ≠ some d
  vec : RdR (Sh.int .i32) W (FrB W M Q P v v2 va vb) A qs
  bx : ∀ q ∈ bx, Blk W q.1 q.2.1 q.2.2 ∧ FrB W M Q P v v2 va vb q.1
section
variable {w W W' : World} {X M Q P n n' : Nat} {mask ef : Int} {A B : Option Addr} {c : Nat} {qs kn kn' : List Int} {v v2 v' v2' va vb va' vb' : Value} {wt bs wt' bs' la lb la' lb' : List Spt} {bx bx' : List (Nat × TypeId × Array Value)}
theorem PB.swap (h : PB w X M Q P mask ef A c qs v v2 n kn wt bs va vb la lb bx W) : PB w X M Q P mask ef A c qs v v2 n kn wt bs vb va lb la bx W :=
  ⟨h.pv, h.ob, h.oa, h.fb, h.fa, fun d hb ha => h.ab d ha hb, h.vec.more fun d hd => ⟨hd.1, hd.2.2, hd.2.1⟩, fun q hq => ⟨(h.bx q hq).1, (h.bx q hq).2.1, (h.bx q hq).2.2.2, (h.bx q hq).2.2.1⟩⟩
theorem PB.turn (h : PB w X M Q P mask ef A c qs v v2 n kn wt bs va vb la lb bx W) (hp : PrV w W' X M Q P mask ef A c qs v' v2' n' kn' wt' bs') (ht : TurnP W W' M Q P v v2 v' v2') : PB w X M Q P mask ef A c qs v' v2' n' kn' wt' bs' va vb la lb bx W' :=
  ⟨hp, own_keep h.oa fun d hd => (ht.block d (h.fa d hd)).1, own_keep h.ob fun d hd => (ht.block d (h.fb d hd)).1, fun d hd => (ht.block d (h.fa d hd)).2, fun d hd => (ht.block d (h.fb d hd)).2, h.ab,
    (h.vec.keepBlocks fun d hd => (ht.block d hd.1).1).more fun d hd => ⟨(ht.block d hd.1).2, hd.2⟩, fun q hq => ⟨(ht.block _ (h.bx q hq).2.1).1.trans (h.bx q hq).1, (ht.block _ (h.bx q hq).2.1).2, (h.bx q hq).2.2⟩⟩
theorem PB.step (h : PB w X M Q P mask ef A c qs v v2 n kn wt bs va vb la lb bx W) (hb : Below W.heap.size W W') : PB w X M Q P mask ef A c qs v v2 n kn wt bs va vb la lb bx W' := h.turn (h.pv.step hb) (TurnP.of_below hb)
theorem PB.boxed (h : PB w X M Q P mask ef A c qs v v2 n kn wt bs va vb la lb bx W) (hb : Below W.heap.size W W') {g : Nat} {t : TypeId} {cs : Array Value} (hg : Blk W' g t cs) (hs : W.heap.size ≤ g) : PB w X M Q P mask ef A c qs v v2 n kn wt bs va vb la lb ((g, t, cs) :: bx) W' := by
  have h2 := h.step hb
  refine ⟨h2.pv, h2.oa, h2.ob, h2.fa, h2.fb, h2.ab, h2.vec, fun q hq => ?_⟩
  rcases List.mem_cons.1 hq with rfl | hq
  · exact ⟨hg, h.pv.new hs hg.lt, fun e => by have := (h.oa.lt _ e).2; simp only at this; omega, fun e => by have := (h.ob.lt _ e).2; simp only at this; omega⟩
  · exact h2.bx q hq
theorem PB.box (h : PB w X M Q P mask ef A c qs v v2 n kn wt bs va vb la lb bx W) (t : TypeId) (cs : Array Value) : PB w X M Q P mask ef A c qs v v2 n kn wt bs va vb la lb ((W.heap.size, t, cs) :: bx) (W.alloc (.cells cs t)) := h.boxed (below1 _ _) (Blk.new _ _ _) (Nat.le_refl _)
theorem PB.drop (h : PB w X M Q P mask ef A c qs v v2 n kn wt bs va vb la lb bx W) (hs : ∀ q ∈ bx', q ∈ bx) : PB w X M Q P mask ef A c qs v v2 n kn wt bs va vb la lb bx' W := ⟨h.pv, h.oa, h.ob, h.fa, h.fb, h.ab, h.vec, fun q hq => h.bx q (hs q hq)⟩
theorem PB.blk (h : PB w X M Q P mask ef A c qs v v2 n kn wt bs va vb la lb bx W) {g : Nat} {t : TypeId} {xs : Array Value} (hg : (g, t, xs) ∈ bx) : Blk W g t xs := (h.bx _ hg).1
/-- the first row has grown -/
theorem PB.growA (h : PB w X M Q P mask ef A c qs v v2 n kn wt bs va vb la lb bx W) (hg : W.grownBy W' va.ownBlock) (ho : W'.ownsRow w.heap.size 53 3 va' la'.length (fcs encS la')) (hat : ∀ d, va'.ownBlock = some d → va.ownBlock = some d ∨ W.heap.size ≤ d) : PB w X M Q P mask ef A c qs v v2 n kn wt bs va' vb la' lb bx W' := by
  have hbl : Below w.heap.size w W' := below_own h.pv.bel h.oa h.pv.bel.size hg
  have hk : ∀ d, FrB W M Q P v v2 va vb d → W'.heap[d]? = W.heap[d]? ∧ FrB W' M Q P v v2 va' vb d := fun d hd => by
    have hlt := hd.1.1
    exact ⟨hg.block d hlt fun e => hd.2.1 e.symm, ⟨Nat.lt_of_lt_of_le hlt hg.size, hd.1.2⟩, fun e => (hat d e).elim hd.2.1 fun e => by omega, hd.2.2⟩
  have hvec := (h.vec.keepBlocks fun d hd => (hk d hd).1).more fun d hd => (hk d hd).2
  have hpv : PrV w W' X M Q P mask ef A c qs v v2 n kn wt bs := by
    refine h.pv.keep hbl hg.size (fun d hd => ?_) (hvec.more fun d hd => hd.1)
    obtain ⟨m, l, l2, h3, _⟩ := h.pv
    obtain ⟨a1, a2, a3, a4, a5⟩ := h3.low
    have hX : va.ownBlock ≠ some X := own_blk_ne h.oa h3.x (by decide)
    have hne : va.ownBlock ≠ some d := by
      rcases hd with rfl | rfl | rfl | rfl | hd | hd <;> intro e
      · exact hX e
      · exact (h.fa _ e).2.1 rfl
      · exact (h.fa _ e).2.2.1 rfl
      · exact (h.fa _ e).2.2.2.1 rfl
      · exact (h.fa _ e).2.2.2.2.1 hd
      · exact (h.fa _ e).2.2.2.2.2 hd
    have hlt : d < W.heap.size := by
      rcases hd with rfl | rfl | rfl | rfl | hd | hd
      · exact h3.fx.1
      · exact a1
      · exact a2
      · exact a3
      · exact a4 d hd
      · exact a5 d hd
    exact hg.block d hlt fun e => hne e.symm
  refine ⟨hpv, ho, own_keep h.ob fun d hd => hg.block d (h.ob.lt d hd).2 fun e => h.ab d e.symm hd, fun d hd => ?_, fun d hd => ⟨Nat.lt_of_lt_of_le (h.fb d hd).1 hg.size, (h.fb d hd).2⟩, fun d hd hd2 => ?_, hvec, fun q hq => ⟨(hk _ (h.bx q hq).2).1.trans (h.bx q hq).1, (hk _ (h.bx q hq).2).2⟩⟩
  · rcases hat d hd with e | e
    · exact ⟨Nat.lt_of_lt_of_le (h.fa d e).1 hg.size, (h.fa d e).2⟩
    · exact h.pv.new e (ho.lt d hd).2
  · rcases hat d hd with e | e
    · exact h.ab d e hd2
    · have := (h.ob.lt d hd2).2; omega
theorem PB.growB (h : PB w X M Q P mask ef A c qs v v2 n kn wt bs va vb la lb bx W) (hg : W.grownBy W' vb.ownBlock) (ho : W'.ownsRow w.heap.size 53 3 vb' lb'.length (fcs encS lb')) (hat : ∀ d, vb'.ownBlock = some d → vb.ownBlock = some d ∨ W.heap.size ≤ d) : PB w X M Q P mask ef A c qs v v2 n kn wt bs va vb' la lb' bx W' := (h.swap.growA hg ho hat).swap
theorem PB.start (h : PrV w W X M Q P mask ef A c qs v v2 n kn wt bs) : PB w X M Q P mask ef A c qs v v2 n kn wt bs (.slice none 0 0) (.slice none 0 0) [] [] [] W :=
  ⟨h, World.ownsRow_nil _ _ _ _, World.ownsRow_nil _ _ _ _, fun d hd => by simp [Value.ownBlock] at hd, fun d hd => by simp [Value.ownBlock] at hd, fun d hd => by simp [Value.ownBlock] at hd, h.vec.more fun d hd => ⟨hd, by simp [Value.ownBlock], by simp [Value.ownBlock]⟩, fun q hq => by simp at hq⟩
theorem PB.wide (h : PB w X M Q P mask ef A c qs v v2 n kn wt bs va vb la lb bx W) : I32s W W.heap.size A qs := h.vec.rd fun b hb => hb.1.1
theorem PB.rows (h : PB w X M Q P mask ef A c qs v v2 n kn wt bs va vb la lb bx W) {A1 : Option Addr} {c1 : Nat} (e : va = .slice A1 la.length c1) : RdR SP W (FreeP W M Q P v v2) A1 la := by
  subst e
  have ho := h.oa
  intro hne
  obtain ⟨ad, e1, hb, hc⟩ := (flatS.own ho) hne
  exact ⟨ad, e1, by
    have hd : (Value.slice A1 la.length c1).ownBlock = some ad.block := by rw [e1]; rfl
    exact h.fa _ hd, hc⟩
end
/-- what the probe has, once j items were offered -/
structure HasP (mask ef : Int) (qs : List Int) (j : Nat) (kn : List Int) (wt bs la lb : List Spt) : Prop where
  kn : ∀ s : Int, s ∈ kn ↔ 0 ≤ s ∧ s < j
  wt : wt = srtS la
  bs : bs = (srtS lb).take (mostB ef)
  la : la.length = j
  lb : lb.length ≤ j
theorem HasP.start (mask ef : Int) (qs : List Int) : HasP mask ef qs 0 [] [] [] [] [] := ⟨fun s => by simp <;> omega, by rw [srtS_nilP], by rw [srtS_nilP]; simp, rfl, by simp⟩
theorem HasP.no {mask ef : Int} {qs : List Int} {j : Nat} {kn : List Int} {wt bs la lb : List Spt} (h : HasP mask ef qs j kn wt bs la lb) : decide ((j : Int) ∉ kn) = true := decide_eq_true fun e => by have := (h.kn _).1 e; omega
theorem HasP.yes (kn : List Int) (s : Int) : decide (s ∉ offKn kn s) = false := by
  refine decide_eq_false ?_
  unfold offKn
  split
  · simpa
  · simp
/-- one item more: offered, and offered again -/
theorem HasP.next {mask ef : Int} {qs : List Int} {j : Nat} {kn : List Int} {wt bs la lb : List Spt} (h : HasP mask ef qs j kn wt bs la lb) (d id : Int) (has : Bool) (sp2 : Spt) (hs2 : sp2.2 = j) (has2 : Bool) :
    HasP mask ef qs (j + 1) (offKn (offKn kn j) j) (offWt (offKn kn j) (offWt kn wt ((d, id), (j : Int))) sp2) (offBs (mostB ef) has2 (offKn kn j) (offBs (mostB ef) has kn bs ((d, id), (j : Int))) sp2) (la ++ [((d, id), (j : Int))]) (if has = true then lb ++ [((d, id), (j : Int))] else lb) := by
  have hn : (j : Int) ∉ kn := of_decide_eq_true h.no
  have hy : (j : Int) ∈ offKn kn j := by unfold offKn; rw [if_neg hn]; simp
  have e1 : offKn (offKn kn j) j = kn ++ [(j : Int)] := by
    have e0 : offKn (offKn kn j) (j : Int) = offKn kn j := by
      show (if (j : Int) ∈ offKn kn j then offKn kn j else offKn kn j ++ [(j : Int)]) = _
      rw [if_pos hy]
    rw [e0]
    unfold offKn; rw [if_neg hn]
  have e2 : offWt (offKn kn j) (offWt kn wt ((d, id), (j : Int))) sp2 = srtS (wt ++ [((d, id), (j : Int))]) := by
    unfold offWt; rw [hs2, if_pos hy, if_neg hn]
  have e3 : offBs (mostB ef) has2 (offKn kn j) (offBs (mostB ef) has kn bs ((d, id), (j : Int))) sp2 = if has = true then (offR (mostB ef) bs ((d, id), (j : Int))).1 else bs := by
    unfold offBs; rw [hs2, if_pos hy, if_neg hn]
  rw [e1, e2, e3]
  refine ⟨fun s => ?_, ?_, ?_, by rw [List.length_append, h.la]; rfl, ?_⟩
  · rw [List.mem_append, List.mem_singleton, h.kn]; omega
  · rw [h.wt]; exact (srtS_push (List.Perm.refl _)).symm
  · split
    · rw [h.bs, off_best]
    · exact h.bs
  · have := h.lb
    split
    · rw [List.length_append]; simp; omega
    · omega
/-- as long as there is room for all, all is wanted -/
theorem room_wants {ef : Int} {N r : Nat} {la lb : List Spt} (h1 : la.length = N) (h2 : lb.length ≤ N) (hN : N ≤ 60) (hef : (N : Int) < ef) (hr : r < N) : doneR (mostB ef) ((srtS la).drop r) ((srtS lb).take (mostB ef)) = false := by
  have hk : N < mostB ef := by unfold mostB; omega
  unfold doneR
  rw [decide_eq_false (show ¬ ((srtS la).drop r).length = 0 by rw [List.length_drop, srtS_len]; omega), decide_eq_false (show ¬ mostB ef = 0 by omega), decide_eq_false (show ¬ ((srtS lb).take (mostB ef)).length = mostB ef by rw [List.length_take, srtS_len]; omega)]
  rfl
theorem end_done {n : Nat} {wt bs : List Spt} (h : wt.length = 0) : doneR n wt bs = true := by unfold doneR; rw [decide_eq_true h]; rfl
theorem fst_drop {S : List Spt} {r : Nat} (h : r < S.length) : S[r]? = some (fstS (S.drop r)) := by
  unfold fstS
  rw [List.getElem?_drop, Nat.add_zero, List.getElem?_eq_getElem h]; rfl
end Go.Proofs.Ytphbdffgeeicaaa

/-
  The walk of ProbeBest. Conditions: the slices read as lists.
-/
namespace Go.Proofs.Ytphbdffgeeicaaa
set_option linter.unusedSimpArgs false
set_option linter.unusedVariables false
open Go.RowKit

theorem min_mostP (most : Int) (x : List Spt) {n : Nat} (hn : x.length = n) : (srtS x).take (lstN (min most 4096) n) = (srtS x).take (mostB most) := by
  rw [take_lst _ (by rw [srtS_len]; exact hn)]
  congr 1
  unfold mostB
  omega
def NewP (L : List Spt) (W : World) (e : Ending) (w' : World) : Prop := ∃ A n c, e = .returned (.slice A n c) ∧ L.length = n ∧ n ≤ c ∧ c ≤ 9223372036854775807 ∧ Rd SP w' w'.heap.size A L ∧ Below W.heap.size W w'
theorem leastP {W : World} (A : Option Addr) (n c : Nat) (x : List Spt) (most : Int) (hx : Rd SP W W.heap.size A x) (hn : x.length = n) (hc : n ≤ c) (hm : c ≤ 9223372036854775807) (h6 : n ≤ 1000000) {L : List Spt} (hL : L = (srtS x).take (mostB most)) : Calls Try.prog 16 #[.slice A n c, .int .i64 (min most 4096)] W (NewP L W) := by
  rw [hL, ← min_mostP most x hn]
  refine (least_any A n c (min most 4096) x W hx hn hc hm h6).mono ?_
  rintro e w' ⟨v, rfl, A', n', c', rfl, h1, h2, h3, h4, h5⟩
  exact ⟨A', n', c', rfl, h1, h2, h3, h4.rd fun b hb => hb.2, h5⟩
theorem sameP {W : World} (A B : Option Addr) (n c m d : Nat) (L : List Spt) (hx : Rd SP W W.heap.size A L) (hn : L.length = n) (hc : n ≤ c) (hm : c ≤ 9223372036854775807) (hy : Rd SP W W.heap.size B L) (hn' : L.length = m) (hd : m ≤ d) (hm' : d ≤ 9223372036854775807) : Calls Try.prog 13 #[.slice A n c, .slice B m d] W fun e w' => e = .returned (.bool true) ∧ Below W.heap.size W w' :=
  (same_any A B n c m d L L W hx hn hc hm hy hn' hd hm').mono fun e w' h => ⟨by rw [h.1]; simp, h.2.below⟩
theorem PrV.oldv {α : Type} {S : Sh α} {xs : List α} {w W : World} {X M Q P n : Nat} {mask ef : Int} {A B : Option Addr} {c : Nat} {qs kn : List Int} {v v2 : Value} {wt bs : List Spt} (h : PrV w W X M Q P mask ef A c qs v v2 n kn wt bs) (hx : RdR S W (fun d => d < w.heap.size) B xs) : RdR S W (FreeP W M Q P v v2) B xs := hx.more fun d hd => h.old hd
theorem fcs_snocP (l : List Spt) (s : Spt) : fcs encS (l ++ [s]) = fcs encS l ++ [.int .u64 s.1.1, .int .u64 s.1.2, .int .i64 s.2] := by
  unfold fcs
  rw [List.flatMap_append]
  simp [encS]
/-- the probe, and the sorted row -/
structure PS (w : World) (X M Q P : Nat) (mask ef : Int) (A : Option Addr) (c : Nat) (qs : List Int) (v2 : Value) (n : Nat) (kn : List Int) (bs : List Spt) (ad : Option Addr) (S : List Spt) (v : Value) (wt : List Spt) (W : World) : Prop where
  pv : PrV w W X M Q P mask ef A c qs v v2 n kn wt bs
  row : RdR SP W (FreeP W M Q P v v2) ad S
theorem PS.turn {w W W' : World} {X M Q P n : Nat} {mask ef : Int} {A ad : Option Addr} {c : Nat} {qs kn : List Int} {v v' v2 : Value} {bs S wt wt' : List Spt} (h : PS w X M Q P mask ef A c qs v2 n kn bs ad S v wt W) (hp : PrV w W' X M Q P mask ef A c qs v' v2 n kn wt' bs) (ht : TurnP W W' M Q P v v2 v' v2) : PS w X M Q P mask ef A c qs v2 n kn bs ad S v' wt' W' := ⟨hp, ht.rd h.row⟩
theorem PS.step {w W W' : World} {X M Q P n : Nat} {mask ef : Int} {A ad : Option Addr} {c : Nat} {qs kn : List Int} {v v2 : Value} {bs S wt : List Spt} (h : PS w X M Q P mask ef A c qs v2 n kn bs ad S v wt W) (hb : Below W.heap.size W W') : PS w X M Q P mask ef A c qs v2 n kn bs ad S v wt W' := h.turn (h.pv.step hb) (TurnP.of_below hb)
/-- the rows' numbers -/
structure NumB (la lb : List Spt) (na ca nb cb : Nat) : Prop where
  a1 : la.length = na
  a2 : na ≤ ca
  a3 : ca ≤ 9223372036854775807
  b1 : lb.length = nb
  b2 : nb ≤ cb
  b3 : cb ≤ 9223372036854775807
set_option maxHeartbeats 16000000 in
set_option maxRecDepth 100000 in
theorem prBest_any (Aq : Option Addr) (nq cq : Nat) (qs : List Int) (mask : Int) (A : Option Addr) (len cap : Nat) (x : List ItemP) (ef : Int) (w : World) (hq : Rd (Sh.int .i32) w w.heap.size Aq qs) (hnq : qs.length = nq) (hcq : nq ≤ cq) (hcq2 : cq ≤ 9223372036854775807) (hqi : I32 qs) (hq6 : nq ≤ 35184372088832) (hmask : 0 ≤ mask ∧ mask ≤ 18446744073709551615)
    (hd : Rd SItem w w.heap.size A x) (hl : x.length = len) (hc : len ≤ cap) (hm : cap ≤ 9223372036854775807) (hok : ∀ it ∈ x, I32 it.2.1) :
    Calls Try.prog 4 #[.slice Aq nq cq, .int .u64 mask, .slice A len cap, .int .i64 ef] w fun e w' => e = .returned (.bool true) ∧ Below w.heap.size w w' := by
  rcases Nat.lt_or_ge 60 len with h1 | h1
  · have b1 : decide ((60 : Int) < len) = true := by simp; omega
    have b0 : decide (60 < len) = true := by simp; omega
    clear hd hl hq hok
    go_enter Try.func4, Try.ntmps4
    go_wp2_with (go_at_call 5; refine (lives_any _).mono ?_; rintro e w1 ⟨rfl, hb⟩)
    go_ret
    exact ⟨rfl, hb⟩
  have b1 : decide ((60 : Int) < len) = false := by simp; omega
  have b0 : decide (60 < len) = false := by simp; omega
  have HI0 := hide hd
  have HL := hide hl
  have HQ0 := hide hq
  have HNq := hide hnq
  have HQI := hide hqi
  have HOk := hide hok
  have HM := hide (fun t => has_same (t := t) hmask)
  clear hd hl hq hqi hok hmask hnq
  go_enter Try.func4, Try.ntmps4
  go_wp2_with (first
    | (go_at_call 5; refine (lives_any _).mono ?_; rintro e w0 ⟨rfl, hb0⟩; have HB0 := hide hb0; have HI := hide (HI0.out.at_world hb0); have HQ := hide (HQ0.out.at_world hb0); clear hb0 HI0 HQ0)
    | (go_at_call 6; refine (vNew_any Aq nq cq qs mask ef _ HQ.out HNq.out hq6).mono ?_; rintro e w1 ⟨X, M, Q, P, A0, c0, rfl, hX, hp⟩; have HPS := hide (PB.start hp); clear hp hX))
  go_loopw [10, 11, 33] (fun a b i wr => ∃ (j : Nat) (kn : List Int) (wt bs la lb : List Spt) (v v2 : Value) (Aa Ab : Option Addr) (na ca nb cb : Nat), j ≤ len ∧ i = .int .i64 j ∧ a = .slice Aa na ca ∧ b = .slice Ab nb cb ∧ Hid (NumB la lb na ca nb cb) ∧ Hid (HasP mask ef qs j kn wt bs la lb) ∧ Hid (PB w0 X M Q P mask ef A0 c0 qs v v2 (2 * j) kn wt bs (.slice Aa na ca) (.slice Ab nb cb) la lb [] wr)) (fun _ _ i _ => len - (intOf i).toNat)
  case atStart => exact ⟨0, [], [], [], [], [], _, _, none, none, 0, 0, 0, 0, by omega, rfl, rfl, rfl, hide ⟨rfl, by omega, by omega, rfl, by omega, by omega⟩, hide (HasP.start _ _ _), HPS⟩
  case round =>
    obtain ⟨j, kn, wt, bs, la, lb, v, v2, Aa, Ab, na, ca, nb, cb, hj, rfl, rfl, rfl, HNum, HH, HPl⟩ := hrel
    clear HPS
    have a6 : na ≤ 60 := by have := HNum.out.a1; have := HH.out.la; omega
    have b6 : nb ≤ 60 := by have := HNum.out.b1; have := HH.out.lb; omega
    have a7 : la.length ≤ 60 := by have := HNum.out.a1; omega
    have b7 : lb.length ≤ 60 := by have := HNum.out.b1; omega
    by_cases hlt : j < len
    · obtain ⟨ad, ⟨id, vs, tg⟩, V, cV, rfl, hbl, hds, z0, z1, z2, u1, u2, hv⟩ := RdR.itcell (HI.out.below HPl.out.pv.bel (Nat.le_refl _)) (k := j) (by have := HL.out; omega)
      simp only at z0 z1 z2 u1 u2 hv
      have HO := hide (show I32 vs from HOk.out _ (List.mem_of_getElem? hds))
      have HV := hide (fun W (hb : Below w0.heap.size w0 W) => oldAt HPl.out.pv.bel hb hv)
      have hj0 : (0 : Int) ≤ j := by omega
      have hjl : (j : Int) < len := by omega
      have hwf : (Lit.int .i64 (j : Int)).wf = true := wfI (by omega)
      have HN := hide (show 2 * j ≤ 900 from by omega)
      clear hds hbl hv
      go_upto_region 12 with fail
      have HB := hide (HPl.out.box 33 #[.int .u64 id, .slice V vs.length cV, .int .u64 tg])
      clear z0 z1 z2 HPl
      generalize World.alloc wr _ = W at *
      generalize wr.heap.size = g at *
      refine startO (S := (fun W => PB w0 X M Q P mask ef A0 c0 qs v v2 (2 * j) kn wt bs (.slice Aa na ca) (.slice Ab nb cb) la lb [(g, 33, #[.int .u64 id, .slice V vs.length cV, .int .u64 tg])] W)) 11 (by as_aux_lemma => kernel_rfl) (by as_aux_lemma => kernel_rfl) (HB.out.step (Below.refl _ _).drew) (fun hHeld => ?_)
      clear HB
      have H0 := hide hHeld
      generalize World.drew _ = W1 at *
      refine putsO [0, 7] [7, 0] [(45, .int .i64 j), (38, .slice Aq nq cq)] 2 rfl [38, 45] (by as_aux_lemma => kernel_rfl) (by as_aux_lemma => kernel_rfl) rfl (fun _ _ _ _ _ h => h) hHeld ?_
      refine takeO 1 39 (.fieldAddr 33 (.const (.pointer (some ⟨g, 0, none⟩))) 1) 0 (.pointer (some ⟨g, 1, none⟩)) (by as_aux_lemma => kernel_rfl) (by as_aux_lemma => kernel_rfl) (by as_aux_lemma => kernel_rfl) (fun _ _ _ _ _ h => h) (fun W hS => by clear hS hHeld; unfold cEv opC; as_aux_lemma => first | (go_simp; done) | (go_simp <;> rfl)) hHeld ?_
      refine takeO 4 42 (.fieldAddr 33 (.const (.pointer (some ⟨g, 0, none⟩))) 0) 0 (.pointer (some ⟨g, 0, none⟩)) (by as_aux_lemma => kernel_rfl) (by as_aux_lemma => kernel_rfl) (by as_aux_lemma => kernel_rfl) (fun _ _ _ _ _ h => h) (fun W hS => by clear hS hHeld; unfold cEv opC; as_aux_lemma => first | (go_simp; done) | (go_simp <;> rfl)) hHeld ?_
      refine takeO 2 40 (.load 22 (.const (.pointer (some ⟨g, 1, none⟩)))) 22 (.slice V vs.length cV) (by as_aux_lemma => kernel_rfl) (by as_aux_lemma => kernel_rfl) (by as_aux_lemma => kernel_rfl) (fun _ _ _ _ _ h => h) (fun W hS => by have hb := hS.blk (List.mem_cons_self ..); have z0 := hb.cell 0; have z1 := hb.cell 1; simp at z0 z1; clear hb; clear hS hHeld; unfold cEv opC; as_aux_lemma => first | (go_simp; done) | (go_simp <;> rfl)) hHeld ?_
      refine takeO 5 43 (.load 23 (.const (.pointer (some ⟨g, 0, none⟩)))) 23 (.int .u64 id) (by as_aux_lemma => kernel_rfl) (by as_aux_lemma => kernel_rfl) (by as_aux_lemma => kernel_rfl) (fun _ _ _ _ _ h => h) (fun W hS => by have hb := hS.blk (List.mem_cons_self ..); have z0 := hb.cell 0; have z1 := hb.cell 1; simp at z0 z1; clear hb; clear hS hHeld; unfold cEv opC; as_aux_lemma => first | (go_simp; done) | (go_simp <;> rfl)) hHeld ?_
      refine readyO [3, 9] (by as_aux_lemma => kernel_rfl) (by simp) ?_
      refine callO 3 41 (.call { callee := .value (.func 15), args := #[.const (.slice Aq nq cq), .const (.slice V vs.length cV)], argTypes := #[22, 22] }) 23 15 #[.slice Aq nq cq, .slice V vs.length cV] (by as_aux_lemma => kernel_rfl) (by as_aux_lemma => kernel_rfl) (by unfold cEv opC; go_simp) ?_ ?_
      · skip
        refine (dist_any Aq V nq cq vs.length cV qs vs _ (HQ.out.at_world hHeld.pv.bel) HNq.out HQI.out hcq hcq2 ((HV.out _ hHeld.pv.bel).rd fun d hd => Nat.lt_of_lt_of_le hd hHeld.pv.bel.size) rfl HO.out u1 u2).mono ?_
        rintro e _ ⟨rfl, rfl⟩
        refine ⟨_, rfl, hHeld, fun hHeld2 => ?_⟩
        clear hHeld
        have hHeld := hHeld2
        clear hHeld2
        refine takeO 6 44 (.build 51 #[(0, .const (.int .u64 (distOf qs vs))), (1, .const (.int .u64 id))]) 51 (.agg #[.int .u64 (distOf qs vs), .int .u64 id]) (by as_aux_lemma => kernel_rfl) (by as_aux_lemma => kernel_rfl) (by as_aux_lemma => kernel_rfl) (fun _ _ _ _ _ h => h) (fun W hS => by clear hS hHeld; unfold cEv opC; as_aux_lemma => first | (go_simp; done) | (go_simp <;> rfl)) hHeld ?_
        refine takeO 8 46 (.build 53 #[(0, .const (.agg #[.int .u64 (distOf qs vs), .int .u64 id])), (1, .const (.int .i64 j))]) 53 (.agg #[.int .u64 (distOf qs vs), .int .u64 id, .int .i64 j]) (by as_aux_lemma => kernel_rfl) (by as_aux_lemma => kernel_rfl) (by as_aux_lemma => kernel_rfl) (fun _ _ _ _ _ h => h) (fun W hS => by clear hS hHeld; unfold cEv opC; as_aux_lemma => first | (go_simp; done) | (go_simp <;> rfl)) hHeld ?_
        refine readyO [9] (by as_aux_lemma => kernel_rfl) (by simp) ?_
        refine memO 9 14 (.alloc 53) 0 (.pointer (some ⟨W1.heap.size, 0, none⟩)) (W1.alloc (.cells #[.int .u64 0, .int .u64 0, .int .i64 0] 53)) (by as_aux_lemma => kernel_rfl) (by as_aux_lemma => kernel_rfl) (by unfold cEv opC; go_simp) (hHeld.step (below1 _ _)) (fun hHeld2 => ?_) AllReadyH.nil
        clear hHeld
        have hHeld := hHeld2
        clear hHeld2
        have HG := hide (Blk.new W1 53 #[.int .u64 0, .int .u64 0, .int .i64 0])
        have HBa := hide (below1 W1 (.cells #[.int .u64 0, .int .u64 0, .int .i64 0] 53))
        generalize World.alloc W1 (.cells #[.int .u64 0, .int .u64 0, .int .i64 0] 53) = Wa at *
        obtain ⟨gs, hgs⟩ : ∃ gs, W1.heap.size = gs := ⟨_, rfl⟩
        have Hgs := hide hgs
        rw [hgs] at HG
        rw [hgs]
        clear hgs
        have x0 := HG.out.cell 0
        have x1 := HG.out.cell 1
        have x2 := HG.out.cell 2
        have f0 := HG.out.frozen 0
        have f1 := HG.out.frozen 1
        have f2 := HG.out.frozen 2
        simp at x0 x1 x2
        refine readyO [10] (by as_aux_lemma => kernel_rfl) (by simp) ?_
        have hst := spot_stored HG.out rfl HBa.out (by rw [Hgs.out]; exact Nat.le_refl _) ((distOf qs vs, id), (j : Int))
        simp only at hst
        refine storeO 10 (.store 53 (.const (.pointer (some ⟨gs, 0, none⟩))) (.const (.agg #[.int .u64 (distOf qs vs), .int .u64 id, .int .i64 j]))) 0 (((Wa.setCell ⟨gs, 0, none⟩ (.int .u64 (distOf qs vs))).setCell ⟨gs, 1, none⟩ (.int .u64 id)).setCell ⟨gs, 2, none⟩ (.int .i64 j)) (by as_aux_lemma => kernel_rfl) (by as_aux_lemma => kernel_rfl) (by unfold cEv opC; go_simp) (H0.out.step hst.2) (fun hHeld2 => ?_) AllReadyH.nil
        clear hHeld
        have hHeld := hHeld2
        clear hHeld2
        refine doneO [(14, .pointer (some ⟨gs, 0, none⟩)), (23, .slice Aq nq cq), (0, .pointer (some ⟨g, 1, none⟩)), (0, .slice V vs.length cV), (0, .int .u64 (distOf qs vs)), (0, .pointer (some ⟨g, 0, none⟩)), (0, .int .u64 id), (0, .agg #[.int .u64 (distOf qs vs), .int .u64 id]), (0, .int .i64 j), (0, .agg #[.int .u64 (distOf qs vs), .int .u64 id, .int .i64 j])] (by as_aux_lemma => kernel_rfl) (by as_aux_lemma => kernel_rfl) ?_
        simp only [fillG]
        clear x0 x1 x2 f0 f1 f2 hHeld
        have H4 := hide (H0.out.boxed hst.2 hst.1 (by rw [Hgs.out]; exact Nat.le_refl _))
        clear hst HG HBa H0
        generalize ((Wa.setCell ⟨gs, 0, none⟩ (.int .u64 (distOf qs vs))).setCell ⟨gs, 1, none⟩ (.int .u64 id)).setCell ⟨gs, 2, none⟩ (.int .i64 j) = W4 at *
        have hb := H4.out.blk (List.mem_cons_self ..)
        have y0 := hb.cell 0
        have y1 := hb.cell 1
        have y2 := hb.cell 2
        simp at y0 y1 y2
        clear hb
        go_upto_region 14 with (at_builtin; refine wpList_append_elem rfl (.tmp 47) (.tmp 49) 29 rfl w0.heap.size Try.underlying29 info_spot rfl (by decide) (.slice Aa na ca) la.length _ rfl H4.out.oa _ _ rfl rfl (by simp [Value.oneCell']) (by simp only [maxLen]; omega) (by omega) H4.out.pv.bel.size ?_; intro v9 w9 hoA hgr9 hat9; have hown9 := hoA; rw [HNum.out.a1] at hown9; obtain ⟨Aa5, ca5, rfl, k1a, k2a⟩ := own_form hown9; have H5 := hide (H4.out.growA (la' := la ++ [((distOf qs vs, id), (j : Int))]) hgr9 (by rw [fcs_snocP, List.length_append]; exact hoA) (fun dd hd => hat9.elim (fun e => .inl (e ▸ hd)) fun e => .inr (by rw [e] at hd; injection hd with hd; omega))); clear hown9 hoA hgr9 hat9 y0 y1 y2 H4)
        have ha5 : Hid (PB w0 X M Q P mask ef A0 c0 qs v v2 (2 * j) kn wt bs (.slice Aa5 (na + 1) ca5) (.slice Ab nb cb) (la ++ [((distOf qs vs, id), (j : Int))]) lb [(gs, 53, #[.int .u64 (distOf qs vs), .int .u64 id, .int .i64 j]), (g, 33, #[.int .u64 id, .slice V vs.length cV, .int .u64 tg])] w9) := H5
        clear H5
        have hb := ha5.out.blk (List.mem_cons_of_mem _ (List.mem_cons_self ..))
        have z2 := hb.cell 2
        simp at z2
        clear hb
        have hM := HM.out tg
        rcases hh : hasB mask tg with _ | _
        · rw [hh] at hM
          go_upto_region 16 with fail
          clear hM z2
          have hb := ha5.out.blk (List.mem_cons_of_mem _ (List.mem_cons_self ..))
          have z0 := hb.cell 0
          have z1 := hb.cell 1
          have z2 := hb.cell 2
          simp at z0 z1 z2
          clear hb
          go_wp2_with fail
          refine (vOfferB ha5.out.pv (by have := HN.out; omega) hwf id tg V vs.length cV vs (ha5.out.pv.oldv (HV.out _ ha5.out.pv.bel)) rfl u1 u2 HO.out HQI.out HH.out.no).mono ?_
          rintro e wb ⟨rfl, vx, vx2, hp8, ht8⟩
          have HX8 := hide (ha5.out.turn hp8 ht8)
          clear hp8 ht8 z0 z1 z2 ha5
          go_wp2_with (go_at_call 10; refine (vOfferB HX8.out.pv (by have := HN.out; omega) hwf 0 0 none 0 0 [] RdR.nil rfl (by omega) (by omega) (fun y hy => by simp at hy) HQI.out (HasP.yes kn (j : Int))).mono ?_; rintro e wc ⟨rfl, vy, vy2, hp9, ht9⟩; have HX9 := hide (HX8.out.turn hp9 ht9); clear hp9 ht9 HX8)
          have HHn := HH.out.next (distOf qs vs) id (hasB mask tg) ((distOf qs [], 0), (j : Int)) rfl (hasB mask 0)
          rw [hh] at HHn
          rw [if_neg (by decide)] at HHn
          go_roundw
          case rel =>
            rw [hh] at HX9
            exact ⟨j + 1, _, _, _, _, _, vy, vy2, Aa5, Ab, na + 1, ca5, nb, cb, by omega, by go_num, rfl, rfl, hide ⟨by rw [List.length_append, HNum.out.a1]; rfl, by have := HNum.out.a1; omega, k2a, HNum.out.b1, HNum.out.b2, HNum.out.b3⟩, hide HHn, hide (HX9.out.drop (bx' := []) (fun q hq => by simp at hq))⟩
          case measure => simp [intOf]; omega
        · rw [hh] at hM
          have hb := ha5.out.blk (List.mem_cons_self ..)
          have y0 := hb.cell 0
          have y1 := hb.cell 1
          have y2 := hb.cell 2
          simp at y0 y1 y2
          clear hb
          go_upto_region 15 with fail
          clear hM z2
          go_upto_region 16 with (at_builtin; refine wpList_append_elem rfl (.tmp 57) (.tmp 59) 29 rfl w0.heap.size Try.underlying29 info_spot rfl (by decide) (.slice Ab nb cb) lb.length _ rfl ha5.out.ob _ _ rfl rfl (by simp [Value.oneCell']) (by simp only [maxLen]; omega) (by omega) ha5.out.pv.bel.size ?_; intro v9 w9 hoA hgr9 hat9; have hown9 := hoA; rw [HNum.out.b1] at hown9; obtain ⟨Ab6, cb6, rfl, k1b, k2b⟩ := own_form hown9; have H6 := hide (ha5.out.growB (lb' := lb ++ [((distOf qs vs, id), (j : Int))]) hgr9 (by rw [fcs_snocP, List.length_append]; exact hoA) (fun dd hd => hat9.elim (fun e => .inl (e ▸ hd)) fun e => .inr (by rw [e] at hd; injection hd with hd; omega))); clear hown9 hoA hgr9 hat9 y0 y1 y2 ha5)
          have hb6 : Hid (PB w0 X M Q P mask ef A0 c0 qs v v2 (2 * j) kn wt bs (.slice Aa5 (na + 1) ca5) (.slice Ab6 (nb + 1) cb6) (la ++ [((distOf qs vs, id), (j : Int))]) (lb ++ [((distOf qs vs, id), (j : Int))]) [(gs, 53, #[.int .u64 (distOf qs vs), .int .u64 id, .int .i64 j]), (g, 33, #[.int .u64 id, .slice V vs.length cV, .int .u64 tg])] w9) := H6
          clear H6
          have hb := hb6.out.blk (List.mem_cons_of_mem _ (List.mem_cons_self ..))
          have z0 := hb.cell 0
          have z1 := hb.cell 1
          have z2 := hb.cell 2
          simp at z0 z1 z2
          clear hb
          go_wp2_with fail
          refine (vOfferB hb6.out.pv (by have := HN.out; omega) hwf id tg V vs.length cV vs (hb6.out.pv.oldv (HV.out _ hb6.out.pv.bel)) rfl u1 u2 HO.out HQI.out HH.out.no).mono ?_
          rintro e wb ⟨rfl, vx, vx2, hp8, ht8⟩
          have HX8 := hide (hb6.out.turn hp8 ht8)
          clear hp8 ht8 z0 z1 z2 hb6
          go_wp2_with (go_at_call 10; refine (vOfferB HX8.out.pv (by have := HN.out; omega) hwf 0 0 none 0 0 [] RdR.nil rfl (by omega) (by omega) (fun y hy => by simp at hy) HQI.out (HasP.yes kn (j : Int))).mono ?_; rintro e wc ⟨rfl, vy, vy2, hp9, ht9⟩; have HX9 := hide (HX8.out.turn hp9 ht9); clear hp9 ht9 HX8)
          have HHn := HH.out.next (distOf qs vs) id (hasB mask tg) ((distOf qs [], 0), (j : Int)) rfl (hasB mask 0)
          rw [hh] at HHn
          rw [if_pos rfl] at HHn
          go_roundw
          case rel =>
            rw [hh] at HX9
            exact ⟨j + 1, _, _, _, _, _, vy, vy2, Aa5, Ab6, na + 1, ca5, nb + 1, cb6, by omega, by go_num, rfl, rfl, hide ⟨by rw [List.length_append, HNum.out.a1]; rfl, by have := HNum.out.a1; omega, k2a, by rw [List.length_append, HNum.out.b1]; rfl, by have := HNum.out.b1; omega, k2b⟩, hide HHn, hide (HX9.out.drop (bx' := []) (fun q hq => by simp at hq))⟩
          case measure => simp [intOf]; omega
      refine memO 9 14 (.alloc 53) 0 (.pointer (some ⟨W1.heap.size, 0, none⟩)) (W1.alloc (.cells #[.int .u64 0, .int .u64 0, .int .i64 0] 53)) (by as_aux_lemma => kernel_rfl) (by as_aux_lemma => kernel_rfl) (by unfold cEv opC; go_simp) (hHeld.step (below1 _ _)) (fun hHeld2 => ?_) AllReadyH.nil
      clear hHeld
      have hHeld := hHeld2
      clear hHeld2
      have HG := hide (Blk.new W1 53 #[.int .u64 0, .int .u64 0, .int .i64 0])
      have HBa := hide (below1 W1 (.cells #[.int .u64 0, .int .u64 0, .int .i64 0] 53))
      generalize World.alloc W1 (.cells #[.int .u64 0, .int .u64 0, .int .i64 0] 53) = Wa at *
      obtain ⟨gs, hgs⟩ : ∃ gs, W1.heap.size = gs := ⟨_, rfl⟩
      have Hgs := hide hgs
      rw [hgs] at HG
      rw [hgs]
      clear hgs
      have x0 := HG.out.cell 0
      have x1 := HG.out.cell 1
      have x2 := HG.out.cell 2
      have f0 := HG.out.frozen 0
      have f1 := HG.out.frozen 1
      have f2 := HG.out.frozen 2
      simp at x0 x1 x2
      refine readyO [3] (by as_aux_lemma => kernel_rfl) (by simp) ?_
      refine callO 3 41 (.call { callee := .value (.func 15), args := #[.const (.slice Aq nq cq), .const (.slice V vs.length cV)], argTypes := #[22, 22] }) 23 15 #[.slice Aq nq cq, .slice V vs.length cV] (by as_aux_lemma => kernel_rfl) (by as_aux_lemma => kernel_rfl) (by unfold cEv opC; go_simp) ?_ AllReadyH.nil
      refine (dist_any Aq V nq cq vs.length cV qs vs _ (HQ.out.at_world hHeld.pv.bel) HNq.out HQI.out hcq hcq2 ((HV.out _ hHeld.pv.bel).rd fun d hd => Nat.lt_of_lt_of_le hd hHeld.pv.bel.size) rfl HO.out u1 u2).mono ?_
      rintro e _ ⟨rfl, rfl⟩
      refine ⟨_, rfl, hHeld, fun hHeld2 => ?_⟩
      clear hHeld
      have hHeld := hHeld2
      clear hHeld2
      refine takeO 6 44 (.build 51 #[(0, .const (.int .u64 (distOf qs vs))), (1, .const (.int .u64 id))]) 51 (.agg #[.int .u64 (distOf qs vs), .int .u64 id]) (by as_aux_lemma => kernel_rfl) (by as_aux_lemma => kernel_rfl) (by as_aux_lemma => kernel_rfl) (fun _ _ _ _ _ h => h) (fun W hS => by clear hS hHeld; unfold cEv opC; as_aux_lemma => first | (go_simp; done) | (go_simp <;> rfl)) hHeld ?_
      refine takeO 8 46 (.build 53 #[(0, .const (.agg #[.int .u64 (distOf qs vs), .int .u64 id])), (1, .const (.int .i64 j))]) 53 (.agg #[.int .u64 (distOf qs vs), .int .u64 id, .int .i64 j]) (by as_aux_lemma => kernel_rfl) (by as_aux_lemma => kernel_rfl) (by as_aux_lemma => kernel_rfl) (fun _ _ _ _ _ h => h) (fun W hS => by clear hS hHeld; unfold cEv opC; as_aux_lemma => first | (go_simp; done) | (go_simp <;> rfl)) hHeld ?_
      refine readyO [10] (by as_aux_lemma => kernel_rfl) (by simp) ?_
      have hst := spot_stored HG.out rfl HBa.out (by rw [Hgs.out]; exact Nat.le_refl _) ((distOf qs vs, id), (j : Int))
      simp only at hst
      refine storeO 10 (.store 53 (.const (.pointer (some ⟨gs, 0, none⟩))) (.const (.agg #[.int .u64 (distOf qs vs), .int .u64 id, .int .i64 j]))) 0 (((Wa.setCell ⟨gs, 0, none⟩ (.int .u64 (distOf qs vs))).setCell ⟨gs, 1, none⟩ (.int .u64 id)).setCell ⟨gs, 2, none⟩ (.int .i64 j)) (by as_aux_lemma => kernel_rfl) (by as_aux_lemma => kernel_rfl) (by unfold cEv opC; go_simp) (H0.out.step hst.2) (fun hHeld2 => ?_) AllReadyH.nil
      clear hHeld
      have hHeld := hHeld2
      clear hHeld2
      refine doneO [(14, .pointer (some ⟨gs, 0, none⟩)), (23, .slice Aq nq cq), (0, .pointer (some ⟨g, 1, none⟩)), (0, .slice V vs.length cV), (0, .int .u64 (distOf qs vs)), (0, .pointer (some ⟨g, 0, none⟩)), (0, .int .u64 id), (0, .agg #[.int .u64 (distOf qs vs), .int .u64 id]), (0, .int .i64 j), (0, .agg #[.int .u64 (distOf qs vs), .int .u64 id, .int .i64 j])] (by as_aux_lemma => kernel_rfl) (by as_aux_lemma => kernel_rfl) ?_
      simp only [fillG]
      clear x0 x1 x2 f0 f1 f2 hHeld
      have H4 := hide (H0.out.boxed hst.2 hst.1 (by rw [Hgs.out]; exact Nat.le_refl _))
      clear hst HG HBa H0
      generalize ((Wa.setCell ⟨gs, 0, none⟩ (.int .u64 (distOf qs vs))).setCell ⟨gs, 1, none⟩ (.int .u64 id)).setCell ⟨gs, 2, none⟩ (.int .i64 j) = W4 at *
      have hb := H4.out.blk (List.mem_cons_self ..)
      have y0 := hb.cell 0
      have y1 := hb.cell 1
      have y2 := hb.cell 2
      simp at y0 y1 y2
      clear hb
      go_upto_region 14 with (at_builtin; refine wpList_append_elem rfl (.tmp 47) (.tmp 49) 29 rfl w0.heap.size Try.underlying29 info_spot rfl (by decide) (.slice Aa na ca) la.length _ rfl H4.out.oa _ _ rfl rfl (by simp [Value.oneCell']) (by simp only [maxLen]; omega) (by omega) H4.out.pv.bel.size ?_; intro v9 w9 hoA hgr9 hat9; have hown9 := hoA; rw [HNum.out.a1] at hown9; obtain ⟨Aa5, ca5, rfl, k1a, k2a⟩ := own_form hown9; have H5 := hide (H4.out.growA (la' := la ++ [((distOf qs vs, id), (j : Int))]) hgr9 (by rw [fcs_snocP, List.length_append]; exact hoA) (fun dd hd => hat9.elim (fun e => .inl (e ▸ hd)) fun e => .inr (by rw [e] at hd; injection hd with hd; omega))); clear hown9 hoA hgr9 hat9 y0 y1 y2 H4)
      have ha5 : Hid (PB w0 X M Q P mask ef A0 c0 qs v v2 (2 * j) kn wt bs (.slice Aa5 (na + 1) ca5) (.slice Ab nb cb) (la ++ [((distOf qs vs, id), (j : Int))]) lb [(gs, 53, #[.int .u64 (distOf qs vs), .int .u64 id, .int .i64 j]), (g, 33, #[.int .u64 id, .slice V vs.length cV, .int .u64 tg])] w9) := H5
      clear H5
      have hb := ha5.out.blk (List.mem_cons_of_mem _ (List.mem_cons_self ..))
      have z2 := hb.cell 2
      simp at z2
      clear hb
      have hM := HM.out tg
      rcases hh : hasB mask tg with _ | _
      · rw [hh] at hM
        go_upto_region 16 with fail
        clear hM z2
        have hb := ha5.out.blk (List.mem_cons_of_mem _ (List.mem_cons_self ..))
        have z0 := hb.cell 0
        have z1 := hb.cell 1
        have z2 := hb.cell 2
        simp at z0 z1 z2
        clear hb
        go_wp2_with fail
        refine (vOfferB ha5.out.pv (by have := HN.out; omega) hwf id tg V vs.length cV vs (ha5.out.pv.oldv (HV.out _ ha5.out.pv.bel)) rfl u1 u2 HO.out HQI.out HH.out.no).mono ?_
        rintro e wb ⟨rfl, vx, vx2, hp8, ht8⟩
        have HX8 := hide (ha5.out.turn hp8 ht8)
        clear hp8 ht8 z0 z1 z2 ha5
        go_wp2_with (go_at_call 10; refine (vOfferB HX8.out.pv (by have := HN.out; omega) hwf 0 0 none 0 0 [] RdR.nil rfl (by omega) (by omega) (fun y hy => by simp at hy) HQI.out (HasP.yes kn (j : Int))).mono ?_; rintro e wc ⟨rfl, vy, vy2, hp9, ht9⟩; have HX9 := hide (HX8.out.turn hp9 ht9); clear hp9 ht9 HX8)
        have HHn := HH.out.next (distOf qs vs) id (hasB mask tg) ((distOf qs [], 0), (j : Int)) rfl (hasB mask 0)
        rw [hh] at HHn
        rw [if_neg (by decide)] at HHn
        go_roundw
        case rel =>
          rw [hh] at HX9
          exact ⟨j + 1, _, _, _, _, _, vy, vy2, Aa5, Ab, na + 1, ca5, nb, cb, by omega, by go_num, rfl, rfl, hide ⟨by rw [List.length_append, HNum.out.a1]; rfl, by have := HNum.out.a1; omega, k2a, HNum.out.b1, HNum.out.b2, HNum.out.b3⟩, hide HHn, hide (HX9.out.drop (bx' := []) (fun q hq => by simp at hq))⟩
        case measure => simp [intOf]; omega
      · rw [hh] at hM
        have hb := ha5.out.blk (List.mem_cons_self ..)
        have y0 := hb.cell 0
        have y1 := hb.cell 1
        have y2 := hb.cell 2
        simp at y0 y1 y2
        clear hb
        go_upto_region 15 with fail
        clear hM z2
        go_upto_region 16 with (at_builtin; refine wpList_append_elem rfl (.tmp 57) (.tmp 59) 29 rfl w0.heap.size Try.underlying29 info_spot rfl (by decide) (.slice Ab nb cb) lb.length _ rfl ha5.out.ob _ _ rfl rfl (by simp [Value.oneCell']) (by simp only [maxLen]; omega) (by omega) ha5.out.pv.bel.size ?_; intro v9 w9 hoA hgr9 hat9; have hown9 := hoA; rw [HNum.out.b1] at hown9; obtain ⟨Ab6, cb6, rfl, k1b, k2b⟩ := own_form hown9; have H6 := hide (ha5.out.growB (lb' := lb ++ [((distOf qs vs, id), (j : Int))]) hgr9 (by rw [fcs_snocP, List.length_append]; exact hoA) (fun dd hd => hat9.elim (fun e => .inl (e ▸ hd)) fun e => .inr (by rw [e] at hd; injection hd with hd; omega))); clear hown9 hoA hgr9 hat9 y0 y1 y2 ha5)
        have hb6 : Hid (PB w0 X M Q P mask ef A0 c0 qs v v2 (2 * j) kn wt bs (.slice Aa5 (na + 1) ca5) (.slice Ab6 (nb + 1) cb6) (la ++ [((distOf qs vs, id), (j : Int))]) (lb ++ [((distOf qs vs, id), (j : Int))]) [(gs, 53, #[.int .u64 (distOf qs vs), .int .u64 id, .int .i64 j]), (g, 33, #[.int .u64 id, .slice V vs.length cV, .int .u64 tg])] w9) := H6
        clear H6
        have hb := hb6.out.blk (List.mem_cons_of_mem _ (List.mem_cons_self ..))
        have z0 := hb.cell 0
        have z1 := hb.cell 1
        have z2 := hb.cell 2
        simp at z0 z1 z2
        clear hb
        go_wp2_with fail
        refine (vOfferB hb6.out.pv (by have := HN.out; omega) hwf id tg V vs.length cV vs (hb6.out.pv.oldv (HV.out _ hb6.out.pv.bel)) rfl u1 u2 HO.out HQI.out HH.out.no).mono ?_
        rintro e wb ⟨rfl, vx, vx2, hp8, ht8⟩
        have HX8 := hide (hb6.out.turn hp8 ht8)
        clear hp8 ht8 z0 z1 z2 hb6
        go_wp2_with (go_at_call 10; refine (vOfferB HX8.out.pv (by have := HN.out; omega) hwf 0 0 none 0 0 [] RdR.nil rfl (by omega) (by omega) (fun y hy => by simp at hy) HQI.out (HasP.yes kn (j : Int))).mono ?_; rintro e wc ⟨rfl, vy, vy2, hp9, ht9⟩; have HX9 := hide (HX8.out.turn hp9 ht9); clear hp9 ht9 HX8)
        have HHn := HH.out.next (distOf qs vs) id (hasB mask tg) ((distOf qs [], 0), (j : Int)) rfl (hasB mask 0)
        rw [hh] at HHn
        rw [if_pos rfl] at HHn
        go_roundw
        case rel =>
          rw [hh] at HX9
          exact ⟨j + 1, _, _, _, _, _, vy, vy2, Aa5, Ab6, na + 1, ca5, nb + 1, cb6, by omega, by go_num, rfl, rfl, hide ⟨by rw [List.length_append, HNum.out.a1]; rfl, by have := HNum.out.a1; omega, k2a, by rw [List.length_append, HNum.out.b1]; rfl, by have := HNum.out.b1; omega, k2b⟩, hide HHn, hide (HX9.out.drop (bx' := []) (fun q hq => by simp at hq))⟩
        case measure => simp [intOf]; omega
    · obtain rfl : len = j := by omega
      have hnl : ¬ ((len : Int) < len) := by omega
      have HLa := hide HH.out.la
      have HN9 := hide (show 2 * len ≤ 1000 from by omega)
      have HLb := hide HH.out.lb
      obtain ⟨hkn, hwt, hbs⟩ : True ∧ wt = srtS la ∧ bs = (srtS lb).take (mostB ef) := ⟨trivial, HH.out.wt, HH.out.bs⟩
      have HBs := hide hbs
      have HWe := hide hwt
      clear hkn hwt hbs
      go_wp2_with fail
      refine (vFoundE HPl.out.pv (by have := HN9.out; omega) rfl).mono ?_
      rintro e w2 ⟨A9, c9, rfl, q1, q2, hr, hb⟩
      have HR2 := hide (hr.rd fun d hd => hd.2)
      have HP2 := hide (HPl.out.step hb)
      clear hr hb HPl
      go_wp2_with fail
      refine (leastP Ab nb cb lb ef ((flatS.own (n := nb) (by have h := HP2.out.ob; rw [HNum.out.b1] at h; exact h)).rd fun d hd => hd.2) HNum.out.b1 HNum.out.b2 HNum.out.b3 (by omega) HBs.out).mono ?_
      rintro e w3 ⟨A8, n8, c8, rfl, q3, q4, q5, hr, hb⟩
      have HR3 := hide (HR2.out.at_world hb)
      have HR4 := hide hr
      have HP3 := hide (HP2.out.step hb)
      have HQ3 := hide q3
      clear hr hb HP2 HR2 q3
      go_wp2_with fail
      refine (sameP A9 A8 bs.length c9 n8 c8 bs HR3.out rfl q1 q2 HR4.out HQ3.out q4 q5).mono ?_
      rintro e w4 ⟨rfl, hb⟩
      have HP4 := hide (HP3.out.step hb)
      clear hb HP3 HR3 HR4 HQ3
      go_wp2_with fail
      refine (sort_any Aa na ca la _ ((flatS.own (n := na) (by have h := HP4.out.oa; rw [HNum.out.a1] at h; exact h)).rd fun d hd => hd.2) HNum.out.a1 HNum.out.a2 HNum.out.a3 (by omega)).mono ?_
      rintro e w5 ⟨v5, rfl, ho5, hb5⟩
      obtain ⟨A5, c5, rfl, q6, q7⟩ := own_form ho5
      have HP5 := hide (show PS w0 X M Q P mask ef A0 c0 qs v2 (2 * len) kn bs A5 (srtS la) v (srtS la) w5 from ⟨HWe.out ▸ (HP4.out.step hb5).pv, (flatS.own ho5).more fun d hd => HP4.out.pv.new hd.1 hd.2⟩)
      clear ho5 hb5 HP4 HWe
      obtain rfl : na = len := by have := HNum.out.a1; have := HLa.out; omega
      clear HNum HH
      go_wp2
      go_loopw [15, 85] (fun n i wr => ∃ (r : Nat) (v : Value), r ≤ na ∧ n = .int .i64 r ∧ i = .int .i64 r ∧ Hid (PS w0 X M Q P mask ef A0 c0 qs v2 (2 * na) kn bs A5 (srtS la) v ((srtS la).drop r) wr)) (fun _ i _ => na - (intOf i).toNat)
      case atStart => exact ⟨0, v, by omega, rfl, rfl, HP5⟩
      case round =>
        obtain ⟨r, v, hr, rfl, rfl, HPz⟩ := hrel
        clear HP5
        by_cases hrl : r < na
        · have r0 : (0 : Int) ≤ r := by omega
          have r1 : (r : Int) < na := by omega
          rcases hdn : doneR (mostB ef) ((srtS la).drop r) bs with _ | _
          · obtain ⟨⟨⟨s1, s2⟩, s3⟩, hs⟩ : ∃ y, fstS ((srtS la).drop r) = y := ⟨_, rfl⟩
            have HS := hide (show (srtS la)[r]? = some ((s1, s2), s3) by rw [fst_drop (by rw [srtS_len, HLa.out]; exact hrl), hs])
            have HS2 := hide (show (fstS ((srtS la).drop r)).2 = s3 by rw [hs])
            have HDn := hide hdn
            clear hs hdn
            obtain ⟨ad5, rfl⟩ := HPz.out.row.some_ofP (by rw [srtS_len, HLa.out]; omega)
            have e3 : (s3 != s3) = false := by simp
            have e4 : (s3 == s3) = true := by simp
            go_wp2_with (go_at_call 8; refine (vWant_moreE HPz.out.pv HN9.out HDn.out HS2.out).mono ?_; rintro e wd ⟨rfl, v8, hp, ht⟩; have HPy := hide (HPz.out.turn hp ht); obtain ⟨t0, t1, t2⟩ := RdR.scellP HPy.out.row HS.out; simp only at t0 t1 t2; clear hp ht HPz)
            go_roundw
            case rel => exact ⟨r + 1, v8, by omega, by go_num, by go_num, by have h := HPy.out; rw [List.drop_drop] at h; exact hide h⟩
            case measure => simp [intOf]; omega
          · have HDn := hide hdn
            have HR := hide (show ef ≤ na ∨ r = na from by
              by_cases he : (na : Int) < ef
              · have := room_wants (lb := lb) HLa.out HLb.out h1 he hrl
                rw [← HBs.out, hdn] at this
                cases this
              · exact .inl (by omega))
            clear hdn
            go_wp2_with (go_at_call 8; refine (vWant_done HPz.out.pv HN9.out HDn.out).mono ?_; rintro e wz ⟨rfl, hp, ht⟩; have HPy := hide (HPz.out.turn hp ht); clear hp ht HPz)
            have hw1 : IntKind.i64.wrap ((na : Int) - r) = (na : Int) - r := IntWalk.i64_in _ (by omega)
            have HWt := hide (show ((((srtS la).drop r).length : Nat) : Int) = (na : Int) - r by rw [List.length_drop, srtS_len, HLa.out]; omega)
            have hsub : ((na : Int) - r == (na : Int) - r) = true := by simp
            by_cases hef : ef ≤ na
            · have e1 : decide (ef ≤ (na : Int)) = true := decide_eq_true hef
              go_wp2_with (first
                | (go_at_call 8; refine (vWant_done HPy.out.pv HN9.out HDn.out).mono ?_; rintro e wd ⟨rfl, hp, ht⟩; have HPw := hide (HPy.out.turn hp ht); clear hp ht)
                | (go_at_call 12; refine (vWaitsE HPw.out.pv HWt.out).mono ?_; rintro e _ ⟨rfl, rfl⟩))
              go_ret
              exact ⟨by first | rfl | simp, Below.step HB0.out HPw.out.pv.bel⟩
            · have e1 : decide (ef ≤ (na : Int)) = false := decide_eq_false hef
              obtain rfl : na = r := (HR.out.resolve_left hef).symm
              have e2 : ((na : Int) == na) = true := by simp
              go_wp2_with (first
                | (go_at_call 8; refine (vWant_done HPy.out.pv HN9.out HDn.out).mono ?_; rintro e wd ⟨rfl, hp, ht⟩; have HPw := hide (HPy.out.turn hp ht); clear hp ht)
                | (go_at_call 12; refine (vWaitsE HPw.out.pv HWt.out).mono ?_; rintro e _ ⟨rfl, rfl⟩))
              go_ret
              exact ⟨by first | rfl | simp, Below.step HB0.out HPw.out.pv.bel⟩
        · obtain rfl : na = r := by omega
          have hnr : ¬ ((na : Int) < na) := by omega
          have HR := hide (show ef ≤ na ∨ na = na from .inr rfl)
          have HDn := hide (show doneR (mostB ef) ((srtS la).drop na) bs = true from end_done (by rw [List.length_drop, srtS_len, HLa.out]; omega))
          go_upto_region 31 with fail
          have hw1 : IntKind.i64.wrap ((na : Int) - na) = (na : Int) - na := IntWalk.i64_in _ (by omega)
          have HWt := hide (show ((((srtS la).drop na).length : Nat) : Int) = (na : Int) - na by rw [List.length_drop, srtS_len, HLa.out]; omega)
          have hsub : ((na : Int) - na == (na : Int) - na) = true := by simp
          by_cases hef : ef ≤ na
          · have e1 : decide (ef ≤ (na : Int)) = true := decide_eq_true hef
            go_wp2_with (first
              | (go_at_call 8; refine (vWant_done HPz.out.pv HN9.out HDn.out).mono ?_; rintro e wd ⟨rfl, hp, ht⟩; have HPw := hide (HPz.out.turn hp ht); clear hp ht)
              | (go_at_call 12; refine (vWaitsE HPw.out.pv HWt.out).mono ?_; rintro e _ ⟨rfl, rfl⟩))
            go_ret
            exact ⟨by first | rfl | simp, Below.step HB0.out HPw.out.pv.bel⟩
          · have e1 : decide (ef ≤ (na : Int)) = false := decide_eq_false hef
            skip
            have e2 : ((na : Int) == na) = true := by simp
            go_wp2_with (first
              | (go_at_call 8; refine (vWant_done HPz.out.pv HN9.out HDn.out).mono ?_; rintro e wd ⟨rfl, hp, ht⟩; have HPw := hide (HPz.out.turn hp ht); clear hp ht)
              | (go_at_call 12; refine (vWaitsE HPw.out.pv HWt.out).mono ?_; rintro e _ ⟨rfl, rfl⟩))
            go_ret
            exact ⟨by first | rfl | simp, Below.step HB0.out HPw.out.pv.bel⟩
end Go.Proofs.Ytphbdffgeeicaaa
