/-
  What lives keeps: a probe, beside it one that may find nothing. Conditions: they lie as said.
-/
import Derived.Test.YtphbdffgeeicaaaPrbL
namespace Go.Proofs.Ytphbdffgeeicaaa
set_option linter.unusedSimpArgs false
set_option linter.unusedVariables false
open Go.RowKit

/-- a probe whose blocks are as they were -/
theorem PrV.keep {w W W' : World} {X M Q P n : Nat} {mask ef : Int} {A : Option Addr} {c : Nat} {qs kn : List Int} {v v2 : Value} {wt bs : List Spt} (h : PrV w W X M Q P mask ef A c qs v v2 n kn wt bs) (hb : Below w.heap.size w W') (hs : W.heap.size ≤ W'.heap.size)
    (hk : ∀ d, d = X ∨ d = M ∨ d = Q ∨ d = P ∨ v.ownBlock = some d ∨ v2.ownBlock = some d → W'.heap[d]? = W.heap[d]?) (hv : RdR (Sh.int .i32) W' (FreeP W' M Q P v v2) A qs) : PrV w W' X M Q P mask ef A c qs v v2 n kn wt bs := by
  obtain ⟨m, l, l2, h1, h2⟩ := h
  exact ⟨m, l, l2, ⟨(hk X (.inl rfl)).trans h1.x, ⟨Nat.lt_of_lt_of_le h1.fx.1 hs, h1.fx.2⟩, h1.c1, h1.c2, hv, h1.m.block (hk M (.inr (.inl rfl))), h1.hM,
    ⟨(hk Q (.inr (.inr (.inl rfl)))).trans h1.q.q, own_keep h1.q.own fun d hd => hk d (.inr (.inr (.inr (.inr (.inl hd))))), h1.q.ne, h1.q.hQ⟩, ⟨(hk P (.inr (.inr (.inr (.inl rfl))))).trans h1.b.q, own_keep h1.b.own fun d hd => hk d (.inr (.inr (.inr (.inr (.inr hd))))), h1.b.ne, h1.b.hQ⟩, h1.hq, h1.hb, h1.ne, h1.ap, hb⟩, h2⟩
/-- one that was made and not touched since -/
theorem PrV.moved {w w1 w2 W : World} {X M Q P n : Nat} {mask ef : Int} {A : Option Addr} {c : Nat} {kn : List Int} {wt bs : List Spt} (h : PrV w1 w2 X M Q P mask ef A c [] (.slice none 0 0) (.slice none 0 0) n kn wt bs) (hX : w1.heap.size ≤ X) (hb : Below w.heap.size w W) (hw : w.heap.size ≤ w1.heap.size) (hs : w2.heap.size ≤ W.heap.size)
    (hk : ∀ d, w1.heap.size ≤ d → d < w2.heap.size → W.heap[d]? = w2.heap[d]?) : PrV w W X M Q P mask ef A c [] (.slice none 0 0) (.slice none 0 0) n kn wt bs := by
  obtain ⟨m, l, l2, h1, h2⟩ := h
  have a := h1.q.hQ
  have b := h1.b.hQ
  exact ⟨m, l, l2, ⟨(hk X hX h1.x.lt).trans h1.x, ⟨Nat.lt_of_lt_of_le h1.fx.1 hs, h1.fx.2⟩, h1.c1, h1.c2, RdR.nil, h1.m.block (hk M h1.hM h1.m.lt), Nat.le_trans hw h1.hM,
    ⟨(hk Q a h1.q.low.1).trans h1.q.q, own_lowQ (own_keep h1.q.own fun d hd => by simp [Value.ownBlock] at hd) hw, h1.q.ne, Nat.le_trans hw a⟩, ⟨(hk P b h1.b.low.1).trans h1.b.q, own_lowQ (own_keep h1.b.own fun d hd => by simp [Value.ownBlock] at hd) hw, h1.b.ne, Nat.le_trans hw b⟩, h1.hq, h1.hb, h1.ne, h1.ap, hb⟩, h2⟩
/-- a probe; between w1 and w2 lies one that was not touched -/
structure LPr (w w1 w2 : World) (X M Q P : Nat) (A : Option Addr) (c : Nat) (v v2 : Value) (n : Nat) (kn : List Int) (wt bs : List Spt) (W : World) : Prop where
  pv : PrV w W X M Q P 1 1 A c [0] v v2 n kn wt bs
  lx : X < w1.heap.size
  vec : RdR (Sh.int .i32) W (fun d => FreeP W M Q P v v2 d ∧ d < w1.heap.size) A [0]
  k : ∀ d, w1.heap.size ≤ d → d < w2.heap.size → W.heap[d]? = w2.heap[d]? ∧ FreeP W M Q P v v2 d
  hs : w2.heap.size ≤ W.heap.size
  hw : w.heap.size ≤ w1.heap.size
section
variable {w w1 w2 W W' : World} {X M Q P : Nat} {A : Option Addr} {c n n' : Nat} {v v2 v' v2' : Value} {kn kn' : List Int} {wt bs wt' bs' : List Spt}
theorem LPr.turn (h : LPr w w1 w2 X M Q P A c v v2 n kn wt bs W) (hp : PrV w W' X M Q P 1 1 A c [0] v' v2' n' kn' wt' bs') (ht : TurnP W W' M Q P v v2 v' v2') : LPr w w1 w2 X M Q P A c v' v2' n' kn' wt' bs' W' :=
  ⟨hp, h.lx, (h.vec.keepBlocks fun d hd => (ht.block d hd.1).1).more fun d hd => ⟨(ht.block d hd.1).2, hd.2⟩, fun d h1 h2 => ⟨((ht.block d (h.k d h1 h2).2).1).trans (h.k d h1 h2).1, (ht.block d (h.k d h1 h2).2).2⟩, Nat.le_trans h.hs ht.size, h.hw⟩
theorem LPr.step (h : LPr w w1 w2 X M Q P A c v v2 n kn wt bs W) (hb : Below W.heap.size W W') : LPr w w1 w2 X M Q P A c v v2 n kn wt bs W' := h.turn (h.pv.step hb) (TurnP.of_below hb)
theorem LPr.start (h1 : PrV w w1 X M Q P 1 1 A c [0] v v2 n kn wt bs) (hb : Below w1.heap.size w1 w2) : LPr w w1 w2 X M Q P A c v v2 n kn wt bs w2 := by
  have h2 := h1.step hb
  have ht : TurnP w1 w2 M Q P v v2 v v2 := TurnP.of_below hb
  have hx : X < w1.heap.size := by obtain ⟨m, l, l2, h3, _⟩ := h1; exact h3.x.lt
  exact ⟨h2, hx, (h1.vec.keepBlocks fun d hd => (ht.block d hd).1).more fun d hd => ⟨(ht.block d hd).2, hd.1⟩, fun d h3 h4 => ⟨rfl, h1.new h3 h4⟩, Nat.le_refl _, h1.bel.size⟩
/-- the other one has turned -/
theorem LPr.other (h : LPr w w1 w2 X M Q P A c v v2 n kn wt bs W) {M' Q' P' : Nat} {u u2 : Value} (ht : TurnP W W' M' Q' P' (.slice none 0 0) (.slice none 0 0) u u2) (hb : Below w.heap.size w W') (hM : w1.heap.size ≤ M' ∧ M' < w2.heap.size) (hQ : w1.heap.size ≤ Q' ∧ Q' < w2.heap.size) (hP : w1.heap.size ≤ P' ∧ P' < w2.heap.size) : PrV w W' X M Q P 1 1 A c [0] v v2 n kn wt bs := by
  have kM := (h.k M' hM.1 hM.2).2
  have kQ := (h.k Q' hQ.1 hQ.2).2
  have kP := (h.k P' hP.1 hP.2).2
  have hx := h.lx
  have low := h.pv
  obtain ⟨m, l, l2, h3, _⟩ := low
  obtain ⟨a1, a2, a3, a4, a5⟩ := h3.low
  have hz := h.hs
  have hf : ∀ d, d < W.heap.size → d ≠ M' → d ≠ Q' → d ≠ P' → W'.heap[d]? = W.heap[d]? := fun d h1 h2 h3 h4 => (ht.block d ⟨h1, h2, h3, h4, by simp [Value.ownBlock], by simp [Value.ownBlock]⟩).1
  refine h.pv.keep hb ht.size (fun d hd => ?_) ((h.vec.keepBlocks fun d hd => hf d hd.1.1 (by have := hd.2; omega) (by have := hd.2; omega) (by have := hd.2; omega)).more fun d hd => ⟨Nat.lt_of_lt_of_le hd.1.1 ht.size, hd.1.2⟩)
  rcases hd with rfl | rfl | rfl | rfl | hd | hd
  · exact hf _ h3.fx.1 (by omega) (by omega) (by omega)
  · exact hf _ a1 (fun e => kM.2.1 e.symm) (fun e => kQ.2.1 e.symm) (fun e => kP.2.1 e.symm)
  · exact hf _ a2 (fun e => kM.2.2.1 e.symm) (fun e => kQ.2.2.1 e.symm) (fun e => kP.2.2.1 e.symm)
  · exact hf _ a3 (fun e => kM.2.2.2.1 e.symm) (fun e => kQ.2.2.2.1 e.symm) (fun e => kP.2.2.2.1 e.symm)
  · exact hf _ (a4 d hd) (fun e => kM.2.2.2.2.1 (e ▸ hd)) (fun e => kQ.2.2.2.2.1 (e ▸ hd)) (fun e => kP.2.2.2.2.1 (e ▸ hd))
  · exact hf _ (a5 d hd) (fun e => kM.2.2.2.2.2 (e ▸ hd)) (fun e => kQ.2.2.2.2.2 (e ▸ hd)) (fun e => kP.2.2.2.2.2 (e ▸ hd))
/-- a vector of one, told from its block -/
theorem lit_vec {t : TypeId} {g : Nat} {x : Int} (hg : Blk W g t #[.int .i32 x]) {R : Nat → Prop} (hf : R g) : RdR (Sh.int .i32) W R (some ⟨g, 0, none⟩) [x] :=
  (flatInt .i32).mk_ hf fun j u hu => by
    rw [add_mk, hg.cell, Nat.zero_add]
    rcases j with _ | j
    · simpa [fcs] using hu
    · simp [fcs] at hu
theorem i32_one {x : Int} (h : -2147483648 ≤ x ∧ x ≤ 2147483647) : I32 [x] := fun y hy => by obtain rfl := List.mem_singleton.1 hy; exact h
theorem lpOffer (h : LPr w w1 w2 X M Q P A c v v2 n kn wt bs W) (hn6 : n ≤ 100) {s : Int} (hw : (Lit.int .i64 s).wf = true) (id tags : Int) (V : Option Addr) (nv cv : Nat) (vs : List Int) (hv : RdR (Sh.int .i32) W (FreeP W M Q P v v2) V vs) (hn : vs.length = nv) (hc : nv ≤ cv) (hm : cv ≤ 9223372036854775807) (hvi : I32 vs) {b : Bool}
    (e1 : offKn kn s = kn') (e2 : offWt kn wt ((distOf [0] vs, id), s) = wt') (e3 : offBs (mostB 1) (hasB 1 tags) kn bs ((distOf [0] vs, id), s) = bs') (e4 : decide (s ∉ kn) = b) :
    Calls Try.prog 10 #[.pointer (some ⟨X, 0, none⟩), .int .i64 s, .agg #[.int .u64 id, .slice V nv cv, .int .u64 tags]] W fun e w' => e = .returned (.bool b) ∧ ∃ v' v2', LPr w w1 w2 X M Q P A c v' v2' (n + 1) kn' wt' bs' w' := by
  refine (vOffer h.pv (by omega) hw id tags V nv cv vs hv hn hc hm hvi (i32_one (by omega))).mono ?_
  rintro e w' ⟨rfl, v', v2', hp, ht⟩
  rw [e1, e2, e3] at hp
  exact ⟨by rw [e4], v', v2', h.turn hp ht⟩
theorem lpWant (h : LPr w w1 w2 X M Q P A c v v2 n kn wt bs W) (hn6 : n ≤ 100) {s : Int} (e1 : doneR (mostB 1) wt bs = false) (e2 : wt.drop 1 = wt') (e3 : (fstS wt).2 = s) :
    Calls Try.prog 8 #[.pointer (some ⟨X, 0, none⟩)] W fun e w' => e = .returned (.tuple #[.int .i64 s, .bool true]) ∧ ∃ v', LPr w w1 w2 X M Q P A c v' v2 n kn wt' bs w' := by
  refine (vWant h.pv (by omega)).mono ?_
  rintro e w' (⟨hd, _⟩ | ⟨hd, rfl, v', hp, ht⟩)
  · rw [e1] at hd; cases hd
  · rw [e2] at hp
    exact ⟨by rw [e3], v', h.turn hp ht⟩
theorem lpEnd (h : LPr w w1 w2 X M Q P A c v v2 n kn wt bs W) (hn6 : n ≤ 100) (e1 : doneR (mostB 1) wt bs = true) :
    Calls Try.prog 8 #[.pointer (some ⟨X, 0, none⟩)] W fun e w' => e = .returned (.tuple #[.int .i64 0, .bool false]) ∧ LPr w w1 w2 X M Q P A c v v2 n kn wt bs w' := by
  refine (vWant h.pv (by omega)).mono ?_
  rintro e w' (⟨hd, rfl, hp, ht⟩ | ⟨hd, _⟩)
  · exact ⟨rfl, h.turn hp ht⟩
  · rw [e1] at hd; cases hd
/-- the other one is offered something, and asked -/
theorem lpNone {X' M' Q' P' : Nat} {A' : Option Addr} {c' : Nat} (h : LPr w w1 w2 X M Q P A c v v2 n kn wt bs W) (hN : PrV w1 w2 X' M' Q' P' 0 0 A' c' [] (.slice none 0 0) (.slice none 0 0) 0 [] [] []) (hX : w1.heap.size ≤ X') :
    Calls Try.prog 10 #[.pointer (some ⟨X', 0, none⟩), .int .i64 1, .agg #[.int .u64 0, .slice none 0 0, .int .u64 0]] W fun e w' => e = .returned (.bool true) ∧ ∃ (u u2 : Value) (wx bx : List Spt), PrV w w' X' M' Q' P' 0 0 A' c' [] u u2 1 [1] wx bx ∧ TurnP W w' M' Q' P' (.slice none 0 0) (.slice none 0 0) u u2 := by
  have hN2 := hN.moved hX h.pv.bel h.hw h.hs fun d h1 h2 => (h.k d h1 h2).1
  refine (vOffer hN2 (by omega) (by decide) 0 0 none 0 0 [] RdR.nil rfl (by omega) (by omega) (fun y hy => by simp at hy) (fun y hy => by simp at hy)).mono ?_
  rintro e w' ⟨rfl, u, u2, hp, ht⟩
  exact ⟨rfl, u, u2, _, _, hp, ht⟩
end
theorem none_done {wx bx : List Spt} : doneR (mostB 0) wx bx = true := by
  unfold doneR
  rw [decide_eq_true (show mostB 0 = 0 by decide)]
  simp
theorem nk1 : offKn [] 4 = [4] := by decide
theorem nk2 : offKn [4] 5 = [4, 5] := by decide
theorem nk3 : offKn [4, 5] 4 = [4, 5] := by decide
theorem nk4 : offKn [4, 5] 6 = [4, 5, 6] := by decide
theorem st1 : srtS ([] ++ [((9, 9), 4)]) = [((9, 9), 4)] := (srtS_eq (by decide) (by decide)).symm
theorem st2 : srtS ([((9, 9), 4)] ++ [((1, 8), 5)]) = [((1, 8), 5), ((9, 9), 4)] := (srtS_eq (by decide) (by decide)).symm
theorem st3 : srtS ([((1, 8), 5), ((9, 9), 4)] ++ [((0, 7), 6)]) = [((0, 7), 6), ((1, 8), 5), ((9, 9), 4)] := (srtS_eq (by decide) (by decide)).symm
theorem nw1 : offWt [] [] ((distOf [0] [3], 9), 4) = [((9, 9), 4)] := by unfold offWt; rw [if_neg (by decide), show distOf [0] [3] = 9 by decide, st1]
theorem nw2 : offWt [4] [((9, 9), 4)] ((distOf [0] [1], 8), 5) = [((1, 8), 5), ((9, 9), 4)] := by unfold offWt; rw [if_neg (by decide), show distOf [0] [1] = 1 by decide, st2]
theorem nw3 : offWt [4, 5] [((1, 8), 5), ((9, 9), 4)] ((distOf [0] [], 0), 4) = [((1, 8), 5), ((9, 9), 4)] := by unfold offWt; rw [if_pos (by decide)]
theorem nw4 : offWt [4, 5] [((1, 8), 5), ((9, 9), 4)] ((distOf [0] [], 7), 6) = [((0, 7), 6), ((1, 8), 5), ((9, 9), 4)] := by unfold offWt; rw [if_neg (by decide), show distOf [0] [] = 0 by decide, st3]
theorem nb1 : offBs (mostB 1) (hasB 1 1) [] [] ((distOf [0] [3], 9), 4) = [((9, 9), 4)] := by
  unfold offBs
  rw [if_neg (by decide), if_pos (by decide), show distOf [0] [3] = 9 by decide, show mostB 1 = 1 by decide]
  unfold offR
  rw [st1]; rfl
theorem nb2 : offBs (mostB 1) (hasB 1 3) [4] [((9, 9), 4)] ((distOf [0] [1], 8), 5) = [((1, 8), 5)] := by
  unfold offBs
  rw [if_neg (by decide), if_pos (by decide), show distOf [0] [1] = 1 by decide, show mostB 1 = 1 by decide]
  unfold offR
  rw [st2]; rfl
theorem nb3 : offBs (mostB 1) (hasB 1 0) [4, 5] [((1, 8), 5)] ((distOf [0] [], 0), 4) = [((1, 8), 5)] := by unfold offBs; rw [if_pos (by decide)]
theorem nb4 : offBs (mostB 1) (hasB 1 0) [4, 5] [((1, 8), 5)] ((distOf [0] [], 7), 6) = [((1, 8), 5)] := by unfold offBs; rw [if_neg (by decide), if_neg (by decide)]
end Go.Proofs.Ytphbdffgeeicaaa
