/-
  The package queue: what lives of the law asks, told from the spots in order. No condition.
-/
import Derived.Test.YtknljldmjicfgaeQueL
namespace Go.Proofs.Ytknljldmjicfgae
set_option linter.unusedSimpArgs false
set_option linter.unusedVariables false
open Go.RowKit

theorem HpAt.lower {w : World} {B B' Q : Nat} {t : TypeId} {ex : Array Value} {f : FuncId} {v : Value} {l : List Spt} (h : HpAt w B Q t ex f v l) (hB : B' ≤ B) : HpAt w B' Q t ex f v l :=
  ⟨h.q, own_lowQ h.own hB, h.ne, Nat.le_trans hB h.hQ⟩
set_option maxHeartbeats 1000000 in
theorem bOffer_zero {w : World} {B Q : Nat} {v : Value} {l : List Spt} (h : BAt w B Q 0 v l) (s : Spt) : Calls Try.prog 12 #[.pointer (some ⟨Q, 0, none⟩), aggS s] w fun e w' => e = .returned (.bool false) ∧ Below w.heap.size w w' := by
  have z2 := h.most
  have hQ := h.lt
  have HB1 := hide (below1 w (.cells #[.int .u64 s.1.1, .int .u64 s.1.2, .int .i64 s.2] 33))
  unfold aggS
  clear h
  go_enter Try.func12, Try.ntmps12
  go_wp2
  go_ret
  exact ⟨rfl, HB1.out⟩
theorem srtS_cons {l : List Spt} {x : Spt} {X : List Spt} (hh : Heap sptLt l) (h : srtS l = x :: X) : fstS l = x ∧ (∀ m, (fstS l :: m).Perm l → srtS m = X) ∧ decide (0 < l.length) = true ∧ l ≠ [] := by
  have hl : 0 < l.length := by rw [← srtS_len, h]; simp
  obtain ⟨m, hm⟩ := fst_split hl
  have e := srtS_pop hh (m := m) (by rw [← hm])
  rw [h] at e
  injection e with e1 e2
  refine ⟨e1.symm, fun m' hm' => ?_, decide_eq_true hl, fun e => by rw [e] at hl; simp at hl⟩
  have e3 := srtS_pop hh hm'
  rw [h] at e3
  injection e3 with _ e4
  exact e4.symm
theorem Heap.nil {lt : Spt → Spt → Bool} : Heap lt [] := fun j a b _ h => by simp at h
theorem Flat.blk {α : Type} {S : Sh α} {enc : α → List Value} (h : Flat S enc) {w : World} {g : Nat} {t : TypeId} {cs : Array Value} {l : List α} (hb : Blk w g t cs) (e : cs.toList = fcs enc l) : Rd S w w.heap.size (some ⟨g, 0, none⟩) l :=
  h.mk_ (R := fun b => b < w.heap.size) (ad := ⟨g, 0, none⟩) hb.lt fun j u hu => by rw [add_mk, Nat.zero_add, hb.cell j, ← Array.getElem?_toList, e]; exact hu
theorem srtS_nil : srtS [] = [] := (srtS_eq (List.Perm.refl []) List.Pairwise.nil).symm
/-- a queue with X, a best list of two with Y, one of none, and boxes of spots -/
def LV (w3 W : World) (Q Q2 Q3 : Nat) (X Y : List Spt) (bx : List (Nat × Spt)) : Prop :=
  ∃ v v2 l l2, Tri w3 W Q Q2 Q3 2 0 v v2 (.slice none 0 0) l l2 [] ∧ srtS l = X ∧ srtS l2 = Y ∧ l.length ≤ 1000 ∧ l2.length ≤ 2 ∧
    ∀ p ∈ bx, Blk W p.1 33 #[.int .u64 p.2.1.1, .int .u64 p.2.1.2, .int .i64 p.2.2] ∧ v.ownBlock ≠ some p.1 ∧ v2.ownBlock ≠ some p.1 ∧ p.1 ≠ Q ∧ p.1 ≠ Q2
section
variable {w3 W W' : World} {Q Q2 Q3 : Nat} {X Y : List Spt} {bx : List (Nat × Spt)}
theorem LV.step (h : LV w3 W Q Q2 Q3 X Y bx) (hb : Below W.heap.size W W') : LV w3 W' Q Q2 Q3 X Y bx := by
  obtain ⟨v, v2, l, l2, h1, h2, h3, h4, h5, h6⟩ := h
  exact ⟨v, v2, l, l2, h1.below hb, h2, h3, h4, h5, fun p hp => ⟨(h6 p hp).1.below hb (h6 p hp).1.lt, (h6 p hp).2⟩⟩
theorem LV.bel (h : LV w3 W Q Q2 Q3 X Y bx) : Below w3.heap.size w3 W := by
  obtain ⟨v, v2, l, l2, h1, _⟩ := h
  exact h1.bel
theorem LV.spot (h : LV w3 W Q Q2 Q3 X Y bx) {g : Nat} {t : TypeId} {cs : Array Value} (hg : Blk w3 g t cs) : Blk W g t cs := hg.below h.bel hg.lt
theorem LV.box (h : LV w3 W Q Q2 Q3 X Y bx) (s : Spt) : LV w3 (W.alloc (.cells #[.int .u64 s.1.1, .int .u64 s.1.2, .int .i64 s.2] 33)) Q Q2 Q3 X Y ((W.heap.size, s) :: bx) := by
  have hb := below1 W (.cells #[.int .u64 s.1.1, .int .u64 s.1.2, .int .i64 s.2] 33)
  have hs := h.step hb
  obtain ⟨v, v2, l, l2, h1, h2, h3, h4, h5, h6⟩ := h
  refine ⟨v, v2, l, l2, h1.below hb, h2, h3, h4, h5, fun p hp => ?_⟩
  rcases List.mem_cons.1 hp with rfl | hp
  · obtain ⟨a1, a2⟩ := h1.q.low
    obtain ⟨a3, a4⟩ := h1.b.low
    exact ⟨Blk.new _ _ _, fun e => by have := a2 _ e; simp at this, fun e => by have := a4 _ e; simp at this, by simp only; omega, by simp only; omega⟩
  · exact ⟨(h6 p hp).1.below hb (h6 p hp).1.lt, (h6 p hp).2⟩
theorem LV.cells (h : LV w3 W Q Q2 Q3 X Y bx) {g : Nat} {s : Spt} (hg : (g, s) ∈ bx) : W.cell? ⟨g, 0, none⟩ = some (.int .u64 s.1.1) ∧ W.cell? ⟨g, 1, none⟩ = some (.int .u64 s.1.2) ∧ W.cell? ⟨g, 2, none⟩ = some (.int .i64 s.2) := by
  obtain ⟨v, v2, l, l2, h1, h2, h3, h4, h5, h6⟩ := h
  have hb := (h6 _ hg).1
  exact ⟨by rw [hb.cell]; rfl, by rw [hb.cell]; rfl, by rw [hb.cell]; rfl⟩
theorem lvPush (h : LV w3 W Q Q2 Q3 X Y bx) (s : Spt) {X' : List Spt} (hX : srtS (X ++ [s]) = X') (hx : X.length ≤ 999) :
    Calls Try.prog 9 #[.pointer (some ⟨Q, 0, none⟩), aggS s] W fun e w' => e = .returned (.tuple #[]) ∧ LV w3 w' Q Q2 Q3 X' Y bx := by
  obtain ⟨v, v2, l, l2, h1, h2, h3, h4, h5, h6⟩ := h
  have hlen : l.length = X.length := by rw [← h2, srtS_len]
  refine (qPush_any h1.q h1.hq s (by omega)).mono ?_
  rintro e w' ⟨rfl, hd⟩
  obtain ⟨l', v', r1, r2, r3, r4⟩ := h1.q_ hd
  refine ⟨rfl, v', v2, l', l2, r2, ?_, h3, ?_, h5, fun p hp => ?_⟩
  · rw [srtS_push r1, h2, hX]
  · rw [r1.length_eq]; simp; omega
  · obtain ⟨a1, a2, a3, a4, a5⟩ := h6 p hp
    exact ⟨HpAt.blk r3 a1 a4 a2, fun e => by
      rcases r4 _ e with e | e
      · exact a2 e
      · have := a1.lt; omega, a3, a4, a5⟩
theorem lvPop {x : Spt} (h : LV w3 W Q Q2 Q3 (x :: X) Y bx) :
    Calls Try.prog 8 #[.pointer (some ⟨Q, 0, none⟩)] W fun e w' => e = .returned (.tuple #[aggS x, .bool true]) ∧ LV w3 w' Q Q2 Q3 X Y bx := by
  obtain ⟨v, v2, l, l2, h1, h2, h3, h4, h5, h6⟩ := h
  obtain ⟨e1, e2, e3, e4⟩ := srtS_cons h1.hq h2
  refine (qPop_any h1.q h1.hq (by omega)).mono ?_
  rintro e w' ⟨rfl, m, hm, hd⟩
  obtain ⟨l', v', r1, r2, r3, r4⟩ := h1.q_ hd
  have hm := hm.resolve_left (fun h => e4 h.1)
  refine ⟨by rw [e1, e3], v', v2, l', l2, r2, ?_, h3, ?_, h5, fun p hp => ?_⟩
  · rw [srtS_congr r1, e2 m hm]
  · rw [r1.length_eq]; have := hm.length_eq; simp at this; omega
  · obtain ⟨a1, a2, a3, a4, a5⟩ := h6 p hp
    exact ⟨HpAt.blk r3 a1 a4 a2, fun e => by
      rcases r4 _ e with e | e
      · exact a2 e
      · have := a1.lt; omega, a3, a4, a5⟩
theorem lvPeek {x : Spt} (h : LV w3 W Q Q2 Q3 (x :: X) Y bx) :
    Calls Try.prog 13 #[.pointer (some ⟨Q, 0, none⟩)] W fun e w' => e = .returned (.tuple #[aggS x, .bool true]) ∧ Below W.heap.size W w' := by
  obtain ⟨v, v2, l, l2, h1, h2, h3, h4, h5, h6⟩ := h
  obtain ⟨e1, e2, e3, e4⟩ := srtS_cons h1.hq h2
  refine (qPeek_any h1.q).mono ?_
  rintro e w' ⟨rfl, hb⟩
  exact ⟨by rw [e1, e3], hb⟩
theorem lvLen (h : LV w3 W Q Q2 Q3 X Y bx) : Calls Try.prog 15 #[.pointer (some ⟨Q, 0, none⟩)] W fun e w' => e = .returned (.int .i64 X.length) ∧ W = w' := by
  obtain ⟨v, v2, l, l2, h1, h2, h3, h4, h5, h6⟩ := h
  rw [← h2, srtS_len]
  exact qLen_any h1.q
theorem lvOffer (h : LV w3 W Q Q2 Q3 X Y bx) (s : Spt) {Y' : List Spt} {r : Bool} (hY : offR 2 Y s = (Y', r)) :
    Calls Try.prog 12 #[.pointer (some ⟨Q2, 0, none⟩), aggS s] W fun e w' => e = .returned (.bool r) ∧ LV w3 w' Q Q2 Q3 X Y' bx := by
  obtain ⟨v, v2, l, l2, h1, h2, h3, h4, h5, h6⟩ := h
  refine (bOffer_any h1.b h1.hb s (by omega)).mono ?_
  rintro e w' ⟨r', m, rfl, ho, hd⟩
  obtain ⟨g1, g2⟩ := off_eq h1.hb h5 ho
  rw [h3, hY] at g1
  injection g1 with g1 g3
  obtain ⟨l', v', r1, r2, r3, r4⟩ := h1.b_ hd
  refine ⟨by rw [g3], v, v', l, l', r2, h2, by rw [srtS_congr r1, g1], h4, by rw [r1.length_eq]; exact g2, fun p hp => ?_⟩
  obtain ⟨a1, a2, a3, a4, a5⟩ := h6 p hp
  exact ⟨HpAt.blk r3 a1 a5 a3, a2, fun e => by
    rcases r4 _ e with e | e
    · exact a3 e
    · have := a1.lt; omega, a4, a5⟩
theorem lvWorst {y : Spt} (h : LV w3 W Q Q2 Q3 X (Y ++ [y]) bx) :
    Calls Try.prog 14 #[.pointer (some ⟨Q2, 0, none⟩)] W fun e w' => e = .returned (.tuple #[aggS y, .bool true]) ∧ Below W.heap.size W w' := by
  obtain ⟨v, v2, l, l2, h1, h2, h3, h4, h5, h6⟩ := h
  have hl : 0 < l2.length := by rw [← srtS_len, h3]; simp
  have e1 := lstS_worst h1.hb hl
  rw [h3, lstS_app] at e1
  refine (bWorst_any h1.b).mono ?_
  rintro e w' ⟨rfl, hb⟩
  exact ⟨by rw [e1, decide_eq_true hl], hb⟩
theorem lvFull (h : LV w3 W Q Q2 Q3 X Y bx) (hY : Y.length = 2) : Calls Try.prog 16 #[.pointer (some ⟨Q2, 0, none⟩)] W fun e w' => e = .returned (.bool true) ∧ Drew W w' := by
  obtain ⟨v, v2, l, l2, h1, h2, h3, h4, h5, h6⟩ := h
  have hl : l2.length = 2 := by rw [← srtS_len, h3]; exact hY
  refine (bFull_any h1.b).mono ?_
  rintro e w' ⟨rfl, hb⟩
  exact ⟨by rw [decide_eq_true (by omega)], hb⟩
theorem lvFull3 (h : LV w3 W Q Q2 Q3 X Y bx) : Calls Try.prog 16 #[.pointer (some ⟨Q3, 0, none⟩)] W fun e w' => e = .returned (.bool true) ∧ Drew W w' := by
  obtain ⟨v, v2, l, l2, h1, h2, h3, h4, h5, h6⟩ := h
  exact bFull_any h1.c
theorem lvOffer3 (h : LV w3 W Q Q2 Q3 X Y bx) (s : Spt) : Calls Try.prog 12 #[.pointer (some ⟨Q3, 0, none⟩), aggS s] W fun e w' => e = .returned (.bool false) ∧ Below W.heap.size W w' := by
  obtain ⟨v, v2, l, l2, h1, h2, h3, h4, h5, h6⟩ := h
  exact bOffer_zero h1.c s
theorem lvPush3 (a b c : Int) (h : LV w3 W Q Q2 Q3 X Y bx) {X' : List Spt} (hX : srtS (X ++ [((a, b), c)]) = X') (hx : X.length ≤ 999) :
    Calls Try.prog 9 #[.pointer (some ⟨Q, 0, none⟩), .agg #[.int .u64 a, .int .u64 b, .int .i64 c]] W fun e w' => e = .returned (.tuple #[]) ∧ LV w3 w' Q Q2 Q3 X' Y bx := lvPush h ((a, b), c) hX hx
theorem lvOffer3s (a b c : Int) (h : LV w3 W Q Q2 Q3 X Y bx) {Y' : List Spt} {r : Bool} (hY : offR 2 Y ((a, b), c) = (Y', r)) :
    Calls Try.prog 12 #[.pointer (some ⟨Q2, 0, none⟩), .agg #[.int .u64 a, .int .u64 b, .int .i64 c]] W fun e w' => e = .returned (.bool r) ∧ LV w3 w' Q Q2 Q3 X Y' bx := lvOffer h ((a, b), c) hY
theorem lvPop3 (a b c : Int) (h : LV w3 W Q Q2 Q3 (((a, b), c) :: X) Y bx) :
    Calls Try.prog 8 #[.pointer (some ⟨Q, 0, none⟩)] W fun e w' => e = .returned (.tuple #[.agg #[.int .u64 a, .int .u64 b, .int .i64 c], .bool true]) ∧ LV w3 w' Q Q2 Q3 X Y bx := lvPop h
theorem lvPeek3 (a b c : Int) (h : LV w3 W Q Q2 Q3 (((a, b), c) :: X) Y bx) :
    Calls Try.prog 13 #[.pointer (some ⟨Q, 0, none⟩)] W fun e w' => e = .returned (.tuple #[.agg #[.int .u64 a, .int .u64 b, .int .i64 c], .bool true]) ∧ Below W.heap.size W w' := lvPeek h
theorem lvWorst3 (a b c : Int) (h : LV w3 W Q Q2 Q3 X (Y ++ [((a, b), c)]) bx) :
    Calls Try.prog 14 #[.pointer (some ⟨Q2, 0, none⟩)] W fun e w' => e = .returned (.tuple #[.agg #[.int .u64 a, .int .u64 b, .int .i64 c], .bool true]) ∧ Below W.heap.size W w' := lvWorst h
theorem lvZero3 (a b c : Int) (h : LV w3 W Q Q2 Q3 X Y bx) : Calls Try.prog 12 #[.pointer (some ⟨Q3, 0, none⟩), .agg #[.int .u64 a, .int .u64 b, .int .i64 c]] W fun e w' => e = .returned (.bool false) ∧ Below W.heap.size W w' := lvOffer3 h ((a, b), c)
theorem LV.box3 (a b c : Int) (h : LV w3 W Q Q2 Q3 X Y bx) : LV w3 (W.alloc (.cells #[.int .u64 a, .int .u64 b, .int .i64 c] 33)) Q Q2 Q3 X Y ((W.heap.size, ((a, b), c)) :: bx) := h.box ((a, b), c)
/-- a list that came -/
def NewS (W : World) (L : List Spt) (e : Ending) (w' : World) : Prop := ∃ A c, e = .returned (.slice A L.length c) ∧ L.length ≤ c ∧ c ≤ 9223372036854775807 ∧ RdR SP w' (Btw W.heap.size w'.heap.size) A L ∧ Below W.heap.size W w'
theorem newS_of {L : List Spt} {n : Nat} {v : Value} (hn : L.length = n) (ho : W'.ownsRow W.heap.size 33 3 v n (fcs encS L)) (hb : Below W.heap.size W W') : NewS W L (.returned v) W' := by
  subst hn
  obtain ⟨A, c, rfl, h1, h2⟩ := own_form ho
  exact ⟨A, c, rfl, h1, h2, flatS.own ho, hb⟩
theorem bListS {B k : Nat} {v : Value} {l : List Spt} (h : BAt W B Q k v l) (hsz : l.length ≤ 500000) : Calls Try.prog 19 #[.pointer (some ⟨Q, 0, none⟩)] W (NewS W (srtS l)) := by
  refine (bList_any h hsz).mono ?_
  rintro e w' ⟨v', rfl, ho, hb⟩
  exact newS_of (by rw [srtS_len]) ho hb
theorem lvList (h : LV w3 W Q Q2 Q3 X Y bx) : Calls Try.prog 19 #[.pointer (some ⟨Q2, 0, none⟩)] W (NewS W Y) := by
  obtain ⟨v, v2, l, l2, h1, h2, h3, h4, h5, h6⟩ := h
  rw [← h3]
  exact bListS h1.b (by omega)
theorem lvList3 (h : LV w3 W Q Q2 Q3 X Y bx) : Calls Try.prog 19 #[.pointer (some ⟨Q3, 0, none⟩)] W (NewS W []) := by
  obtain ⟨v, v2, l, l2, h1, h2, h3, h4, h5, h6⟩ := h
  have := bListS h1.c (by simp)
  rwa [srtS_nil] at this
end
end Go.Proofs.Ytknljldmjicfgae
