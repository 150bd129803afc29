/-
  Texts of one part, put together. No condition.
-/
import Derived.Test.YtgiplahhalgbdaaGreatMgB
import Derived.Test.YtgiplahhalgbdaaGreatMapI
/-
  The package probe: the object, what may have turned, what stays. No condition.
-/
namespace Go.Proofs.YtgiplahhalgbdaaGreat
set_option linter.unusedSimpArgs false
set_option linter.unusedVariables false
open Go.RowKit

/-- blocks that are none of those that turn: the map's, the queue's, the best list's -/
def FreeP (W : World) (M Q P : Nat) (v v2 : Value) (d : Nat) : Prop := d < W.heap.size ∧ d ≠ M ∧ d ≠ Q ∧ d ≠ P ∧ v.ownBlock ≠ some d ∧ v2.ownBlock ≠ some d
/-- what may have turned -/
structure TurnP (w w' : World) (M Q P : Nat) (v v2 u u2 : Value) : Prop where
  size : w.heap.size ≤ w'.heap.size
  block : ∀ d, FreeP w M Q P v v2 d → w'.heap[d]? = w.heap[d]? ∧ FreeP w' M Q P u u2 d
/-- a probe: its vector, mask, most; what it knows, what waits, the best -/
structure PrAt (w wr : World) (X M Q P k : Nat) (mask ef : Int) (A : Option Addr) (c : Nat) (qs : List Int) (m : List (Int × Int)) (v v2 : Value) (l l2 : List Spt) : Prop where
  x : Blk wr X 108 #[.slice A qs.length c, .int .u64 mask, .int .i64 ef, .map (some M), .pointer (some ⟨Q, 0, none⟩), .pointer (some ⟨P, 0, none⟩)]
  fx : FreeP wr M Q P v v2 X
  c1 : qs.length ≤ c
  c2 : c ≤ 9223372036854775807
  vec : RdR (Sh.int .i32) wr (FreeP wr M Q P v v2) A qs
  m : MapA .i64 (Value.int .i64) wr M m
  hM : w.heap.size ≤ M
  q : QAt wr w.heap.size Q v l
  b : BAt wr w.heap.size P k v2 l2
  hq : Heap sptLt l
  hb : Heap sptGt l2
  ne : Q ≠ P
  ap : Apart v v2
  bel : Below w.heap.size w wr
section
variable {w wr wr' : World} {X M Q P k : Nat} {mask ef : Int} {A : Option Addr} {c : Nat} {qs : List Int} {m m' : List (Int × Int)} {v v2 u u2 u3 u4 : Value} {l l2 ms : List Spt}
theorem TurnP.trans {w1 w2 w3 : World} (h : TurnP w1 w2 M Q P v v2 u u2) (k : TurnP w2 w3 M Q P u u2 u3 u4) : TurnP w1 w3 M Q P v v2 u3 u4 :=
  ⟨Nat.le_trans h.size k.size, fun d hd => by
    obtain ⟨a, b⟩ := h.block d hd
    obtain ⟨a2, b2⟩ := k.block d b
    exact ⟨a2.trans a, b2⟩⟩
theorem TurnP.rd {α : Type} {S : Sh α} {B : Option Addr} {xs : List α} (h : TurnP wr wr' M Q P v v2 u u2) (hx : RdR S wr (FreeP wr M Q P v v2) B xs) : RdR S wr' (FreeP wr' M Q P u u2) B xs :=
  (hx.keepBlocks fun d hd => (h.block d hd).1).more fun d hd => (h.block d hd).2
theorem TurnP.blk {g : Nat} {t : TypeId} {cs : Array Value} (h : TurnP wr wr' M Q P v v2 u u2) (hg : Blk wr g t cs) (hf : FreeP wr M Q P v v2 g) : Blk wr' g t cs ∧ FreeP wr' M Q P u u2 g :=
  ⟨(h.block g hf).1.trans hg, (h.block g hf).2⟩
theorem TurnP.of_below (hb : Below wr.heap.size wr wr') : TurnP wr wr' M Q P v v2 v v2 :=
  ⟨hb.size, fun d hd => ⟨hb.block d hd.1, Nat.lt_of_lt_of_le hd.1 hb.size, hd.2⟩⟩
theorem PrAt.low (h : PrAt w wr X M Q P k mask ef A c qs m v v2 l l2) : M < wr.heap.size ∧ Q < wr.heap.size ∧ P < wr.heap.size ∧ (∀ d, v.ownBlock = some d → d < wr.heap.size) ∧ ∀ d, v2.ownBlock = some d → d < wr.heap.size :=
  ⟨h.m.lt, h.q.low.1, h.b.low.1, h.q.low.2, h.b.low.2⟩
/-- a block that came later -/
theorem PrAt.new (h : PrAt w wr X M Q P k mask ef A c qs m v v2 l l2) {d : Nat} (h1 : wr.heap.size ≤ d) (h2 : d < wr'.heap.size) : FreeP wr' M Q P v v2 d := by
  obtain ⟨a0, a1, a2, a3, a4⟩ := h.low
  exact ⟨h2, by omega, by omega, by omega, fun e => by have := a3 d e; omega, fun e => by have := a4 d e; omega⟩
theorem PrAt.made {α : Type} {S : Sh α} {B : Option Addr} {xs : List α} (h : PrAt w wr X M Q P k mask ef A c qs m v v2 l l2) (hr : RdR S wr' (Btw wr.heap.size wr'.heap.size) B xs) : RdR S wr' (FreeP wr' M Q P v v2) B xs := hr.more fun _ hd => h.new hd.1 hd.2
theorem PrAt.step (h : PrAt w wr X M Q P k mask ef A c qs m v v2 l l2) (hb : Below wr.heap.size wr wr') : PrAt w wr' X M Q P k mask ef A c qs m v v2 l l2 :=
  have ht : TurnP wr wr' M Q P v v2 v v2 := TurnP.of_below hb
  ⟨(ht.blk h.x h.fx).1, (ht.blk h.x h.fx).2, h.c1, h.c2, ht.rd h.vec, h.m.block (hb.block M h.m.lt), h.hM, h.q.below hb, h.b.below hb, h.hq, h.hb, h.ne, h.ap, Below.step h.bel hb⟩
theorem PrAt.neQ (h : PrAt w wr X M Q P k mask ef A c qs m v v2 l l2) : Q ≠ M ∧ P ≠ M ∧ v.ownBlock ≠ some M ∧ v2.ownBlock ≠ some M :=
  ⟨blk_ne_map h.q.q h.m, blk_ne_map h.b.q h.m, own_ne_map h.q.own h.m, own_ne_map h.b.own h.m⟩
/-- the queue has turned -/
theorem PrAt.q_ (h : PrAt w wr X M Q P k mask ef A c qs m v v2 l l2) (hd : QDone wr wr' w.heap.size Q v ms) : ∃ l' v', l'.Perm ms ∧ PrAt w wr' X M Q P k mask ef A c qs m v' v2 l' l2 ∧ TurnP wr wr' M Q P v v2 v' v2 := by
  obtain ⟨l', v', r1, r2, r3, r4, r5⟩ := hd
  obtain ⟨n1, n2, n3, n4⟩ := h.neQ
  have ht : TurnP wr wr' M Q P v v2 v' v2 := ⟨r4.size, fun d hd => ⟨r4.block d hd.1 hd.2.2.1 fun e => hd.2.2.2.2.1 e.symm, Nat.lt_of_lt_of_le hd.1 r4.size, hd.2.1, hd.2.2.1, hd.2.2.2.1, fun e => by
      rcases r5 d e with e | e
      · exact hd.2.2.2.2.1 e
      · have := hd.1; omega, hd.2.2.2.2.2⟩⟩
  exact ⟨l', v', r2, ⟨(ht.blk h.x h.fx).1, (ht.blk h.x h.fx).2, h.c1, h.c2, ht.rd h.vec, h.m.block (r4.block M h.m.lt (Ne.symm n1) fun e => n3 e.symm), h.hM, r3, h.q.other h.b h.ap h.ne r4, r1, h.hb, h.ne, h.ap.turned h.b r5, h.q.turn h.bel r4 h.bel.size⟩, ht⟩
/-- the best list has turned -/
theorem PrAt.b_ (h : PrAt w wr X M Q P k mask ef A c qs m v v2 l l2) (hd : BDone wr wr' w.heap.size P k v2 ms) : ∃ l' v', l'.Perm ms ∧ PrAt w wr' X M Q P k mask ef A c qs m v v' l l' ∧ TurnP wr wr' M Q P v v2 v v' := by
  obtain ⟨l', v', r1, r2, r3, r4, r5⟩ := hd
  obtain ⟨n1, n2, n3, n4⟩ := h.neQ
  have ht : TurnP wr wr' M Q P v v2 v v' := ⟨r4.size, fun d hd => ⟨r4.block d hd.1 hd.2.2.2.1 fun e => hd.2.2.2.2.2 e.symm, Nat.lt_of_lt_of_le hd.1 r4.size, hd.2.1, hd.2.2.1, hd.2.2.2.1, hd.2.2.2.2.1, fun e => by
      rcases r5 d e with e | e
      · exact hd.2.2.2.2.2 e
      · have := hd.1; omega⟩⟩
  exact ⟨l', v', r2, ⟨(ht.blk h.x h.fx).1, (ht.blk h.x h.fx).2, h.c1, h.c2, ht.rd h.vec, h.m.block (r4.block M h.m.lt (Ne.symm n2) fun e => n4 e.symm), h.hM, h.b.other h.q h.ap.symm h.ne.symm r4, r3, h.hq, r1, h.ne, (h.ap.symm.turned h.q r5).symm, h.b.turn h.bel r4 h.bel.size⟩, ht⟩
/-- the map has turned -/
theorem PrAt.map_ (h : PrAt w wr X M Q P k mask ef A c qs m v v2 l l2) (hm : MapA .i64 (Value.int .i64) wr' M m') (hp : MapPut wr wr' M) : PrAt w wr' X M Q P k mask ef A c qs m' v v2 l l2 ∧ TurnP wr wr' M Q P v v2 v v2 := by
  obtain ⟨n1, n2, n3, n4⟩ := h.neQ
  have ht : TurnP wr wr' M Q P v v2 v v2 := ⟨Nat.le_of_eq hp.size.symm, fun d hd => ⟨hp.2.2.2.2 d hd.2.1, by rw [hp.size]; exact hd.1, hd.2⟩⟩
  exact ⟨⟨(ht.blk h.x h.fx).1, (ht.blk h.x h.fx).2, h.c1, h.c2, ht.rd h.vec, hm, h.hM, ⟨(hp.2.2.2.2 Q n1).trans h.q.q, own_put h.q.own h.m hp, h.q.ne, h.q.hQ⟩, ⟨(hp.2.2.2.2 P n2).trans h.b.q, own_put h.b.own h.m hp, h.b.ne, h.b.hQ⟩, h.hq, h.hb, h.ne, h.ap, hp.below h.bel h.hM⟩, ht⟩
end
end Go.Proofs.YtgiplahhalgbdaaGreat

/-
  The package probe: New; Knows, Waits, Found; nil receivers. Conditions: the slice reads as a list; a probe lies as said.
-/
namespace Go.Proofs.YtgiplahhalgbdaaGreat
set_option linter.unusedSimpArgs false
set_option linter.unusedVariables false
open Go.RowKit

theorem info_i32P : (Tryz.prog.info? 21).map (fun i => (i.zero, i.size, i.bytes)) = some (some (.int .i32 0), 1, 4) := by kernel_rfl
set_option maxHeartbeats 1000000 in
theorem cloneV_any (A : Option Addr) (n c : Nat) (xs : List Int) (w : World) (hx : Rd (Sh.int .i32) w w.heap.size A xs) (hn : xs.length = n) (h6 : n ≤ 35184372088832) :
    Calls Tryz.prog 70 #[.slice A n c] w (GivesI .i32 w xs) := by
  have Hn := hide hn
  have HX := hide hx
  have he := fun W : World => Lib.run_eql_slice_nil (P := Tryz.prog) W 25 21 A n c 0 0 Tryz.underlying25
  rcases A with _ | ad
  · have hxs : xs = [] := by
      rcases xs with _ | ⟨x, xs⟩
      · rfl
      · obtain ⟨ad, e, _⟩ := hx (by simp)
        cases e
    have HF := hide (show GivesI .i32 w xs (.returned (.slice none 0 0)) w by subst hxs; exact ⟨_, rfl, NewInts.nil (Below.refl _ _)⟩)
    clear hx hn hxs
    go_enter Tryz.func70, Tryz.ntmps70
    go_wp2
    go_ret
    exact HF.out
  · clear hx hn
    have ho := hide (World.ownsRow_lit (base := w.heap.size) (e := 21) (size := 1) w #[] 0 (Nat.le_refl _) (by simp [maxLen]) rfl)
    go_enter Tryz.func70, Tryz.ntmps70
    go_wp2_with (at_builtin; refine wpList_append_ints rfl _ _ 25 rfl w.heap.size Tryz.underlying25 info_i32P rfl _ 0 [] rfl ho.out w.heap.size _ n c xs rfl (HX.out.alloc (Nat.le_refl _) _) Hn.out (by simp only [maxLen]; omega) (by omega) (by simp) ?_; intro v' w9 hown9 hgr9 hat9; have HO := hide hown9; have HG := hide (below_own ((Below.refl w.heap.size w).alloc (Nat.le_refl _) _) ho.out (by simp) hgr9); clear hown9 hgr9 hat9)
    go_ret
    exact ⟨_, rfl, NewInts.of_own (n := 0 + n) HO.out HG.out⟩
section
variable {w wr : World} {X M Q P k : Nat} {mask ef : Int} {A : Option Addr} {c : Nat} {qs : List Int} {m : List (Int × Int)} {v v2 : Value} {l l2 : List Spt}
theorem PrAt.cells (h : PrAt w wr X M Q P k mask ef A c qs m v v2 l l2) : wr.cell? ⟨X, 0, none⟩ = some (.slice A qs.length c) ∧ wr.cell? ⟨X, 1, none⟩ = some (.int .u64 mask) ∧ wr.cell? ⟨X, 2, none⟩ = some (.int .i64 ef) ∧ wr.cell? ⟨X, 3, none⟩ = some (.map (some M)) ∧ wr.cell? ⟨X, 4, none⟩ = some (.pointer (some ⟨Q, 0, none⟩)) ∧ wr.cell? ⟨X, 5, none⟩ = some (.pointer (some ⟨P, 0, none⟩)) :=
  ⟨h.x.cell 0, h.x.cell 1, h.x.cell 2, h.x.cell 3, h.x.cell 4, h.x.cell 5⟩
theorem found_any (h : PrAt w wr X M Q P k mask ef A c qs m v v2 l l2) (hsz : l2.length ≤ 500000) : Calls Tryz.prog 42 #[.pointer (some ⟨X, 0, none⟩)] wr fun e w' => ∃ v', e = .returned v' ∧ w'.ownsRow wr.heap.size 60 3 v' l2.length (fcs encS (srtS l2)) ∧ Below wr.heap.size wr w' := by
  obtain ⟨e0, e1, e2, e3, e4, e5⟩ := h.cells
  have HB := hide h.b
  clear h
  go_enter Tryz.func42, Tryz.ntmps42
  go_wp2_with fail
  refine (bList_any HB.out hsz).mono ?_
  rintro e w2 ⟨v', rfl, h1, h2⟩
  go_wp2
  go_ret
  exact ⟨v', rfl, h1, h2⟩
end
set_option maxHeartbeats 2000000 in
theorem prNew_any (A : Option Addr) (n c : Nat) (xs : List Int) (mask ef : Int) (w : World) (hx : Rd (Sh.int .i32) w w.heap.size A xs) (hn : xs.length = n) (h6 : n ≤ 35184372088832) :
    Calls Tryz.prog 56 #[.slice A n c, .int .u64 mask, .int .i64 ef] w fun e w' => ∃ X M Q P A' c', e = .returned (.pointer (some ⟨X, 0, none⟩)) ∧ w.heap.size ≤ X ∧ PrAt w w' X M Q P (mostB ef) mask ef A' c' xs [] (.slice none 0 0) (.slice none 0 0) [] [] := by
  have HC := hide (cloneV_any A n c xs w hx hn h6)
  clear hx hn h6
  have hmm := @run_makeMap Tryz.prog
  go_enter Tryz.func56, Tryz.ntmps56
  go_wp2_with fail
  refine HC.out.mono ?_
  rintro e w1 ⟨v, rfl, A1, n1, c1, rfl, p1, p2, p3, hr, hb⟩
  subst p1
  go_wp2_with fail
  have hm := MapA.new (kd := .i64) (enc := Value.int .i64) (β := Int) w1
  have hb2 := below1 w1 (.map #[] 0)
  have hs2 : (w1.alloc (.map #[] 0)).heap.size = w1.heap.size + 1 := by simp
  have HM := hide hm
  have HB2 := hide hb2
  have HS2 := hide hs2
  have HR := hide hr
  have HB := hide hb
  clear hm hb2 hs2 hr hb HC
  generalize World.alloc w1 _ = w2 at *
  refine (newQ_any _).mono ?_
  rintro e w3 ⟨Q, rfl, hQ, hb3⟩
  have HQ := hide hQ
  have HB3 := hide hb3
  clear hQ hb3
  go_wp2_with fail
  refine (newB_any ef _).mono ?_
  rintro e w4 ⟨P, rfl, hP, hb4⟩
  have HP := hide hP
  have HB4 := hide hb4
  clear hP hb4
  go_wp2
  go_ret
  have s2 := HS2.out
  have q1 := HQ.out.hQ
  have q2 := HQ.out.low.1
  have p1 := HP.out.hQ
  have p2' := HP.out.low.1
  have b0 := HB.out.size
  have b3 := HB3.out.size
  have b4 := HB4.out.size
  have B24 : Below w2.heap.size w2 w4 := Below.step HB3.out HB4.out
  have B14 : Below w1.heap.size w1 w4 := Below.step HB2.out B24
  have b5 := below1 w4 (.cells #[.slice A1 xs.length c1, .int .u64 mask, .int .i64 ef, .map (some w1.heap.size), .pointer (some ⟨Q, 0, none⟩), .pointer (some ⟨P, 0, none⟩)] 108)
  have b15 := Below.step B14 b5
  have b35 := Below.step HB4.out b5
  have b25 := Below.step B24 b5
  refine ⟨w4.heap.size, w1.heap.size, Q, P, A1, c1, rfl, B14.size |> Nat.le_trans b0, Blk.new w4 _ _, ⟨by simp, by omega, by omega, by omega, by simp [Value.ownBlock], by simp [Value.ownBlock]⟩, p2, p3, (HR.out.keepBlocks fun d hd => b15.block d hd.2).more fun d hd => ⟨by have := hd.2; have := b15.size; omega, by have := hd.2; omega, by have := hd.2; omega, by have := hd.2; omega, by simp [Value.ownBlock], by simp [Value.ownBlock]⟩, HM.out.block (b25.block _ (by omega)), b0, ⟨b35.block Q q2 |>.trans HQ.out.q, World.ownsRow_nil _ _ _ _, HQ.out.ne, by omega⟩, ⟨b5.block P p2' |>.trans HP.out.q, World.ownsRow_nil _ _ _ _, HP.out.ne, by omega⟩, fun _ _ _ _ e _ => by simp at e, fun _ _ _ _ e _ => by simp at e, by omega, Apart.nil _, Below.step HB.out b15⟩
end Go.Proofs.YtgiplahhalgbdaaGreat

/-
  The package probe: done, Want. Condition: a probe lies as said.
-/
namespace Go.Proofs.YtgiplahhalgbdaaGreat
set_option linter.unusedSimpArgs false
set_option linter.unusedVariables false
open Go.RowKit

/-- whether nothing is wanted any more -/
def doneP (ef : Int) (k : Nat) (l l2 : List Spt) : Bool := !decide (0 < l.length) || decide (ef < 1) || (decide (0 < l2.length) && decide (k ≤ l2.length) && sptLt (fstS l2) (fstS l))
section
variable {w wr : World} {X M Q P k : Nat} {mask ef : Int} {A : Option Addr} {c : Nat} {qs : List Int} {m : List (Int × Int)} {v v2 : Value} {l l2 : List Spt}
set_option maxHeartbeats 4000000 in
theorem done_any (h : PrAt w wr X M Q P k mask ef A c qs m v v2 l l2) : Calls Tryz.prog 96 #[.pointer (some ⟨X, 0, none⟩)] wr fun e w' => e = .returned (.bool (doneP ef k l l2)) ∧ Below wr.heap.size wr w' := by
  obtain ⟨e0, e1, e2, e3, e4, e5⟩ := h.cells
  have H := hide h
  clear h
  go_enter Tryz.func96, Tryz.ntmps96
  go_wp2_with fail
  refine (qPeek_any H.out.q).mono ?_
  rintro e w1 ⟨rfl, hb⟩
  have HB := hide hb
  clear hb
  unfold aggS
  go_upto_region 2 with fail
  have hb := below1 w1 (.cells #[.int .u64 (fstS l).1.1, .int .u64 (fstS l).1.2, .int .i64 (fstS l).2] 60)
  have HN := hide (Blk.new w1 60 #[.int .u64 (fstS l).1.1, .int .u64 (fstS l).1.2, .int .i64 (fstS l).2])
  have HB := hide (Below.step HB.out hb)
  clear hb e0 e1 e2 e3 e4 e5
  generalize World.alloc w1 _ = w2 at *
  generalize w1.heap.size = g1 at *
  obtain ⟨e0, e1, e2, e3, e4, e5⟩ := (H.out.step HB.out).cells
  by_cases hl : 0 < l.length
  · have d0 : decide (0 < l.length) = true := decide_eq_true hl
    by_cases hf : ef < 1
    · have d1 : decide (ef < 1) = true := decide_eq_true hf
      have HD := hide (show doneP ef k l l2 = true by unfold doneP; rw [d0, d1]; rfl)
      rw [d0]
      go_wp2
      go_ret
      exact ⟨by rw [HD.out]; rfl, HB.out⟩
    · have d1 : decide (ef < 1) = false := decide_eq_false hf
      rw [d0]
      go_wp2_with fail
      have H2 := hide (H.out.step HB.out)
      refine (bWorst_any H2.out.b).mono ?_
      rintro e w3 ⟨rfl, hb⟩
      have HB3 := hide (Below.step HB.out hb)
      have HN3 := hide (HN.out.below hb HN.out.lt)
      clear hb e0 e1 e2 e3 e4 e5
      unfold aggS
      go_upto_region 5 with fail
      have hb := below1 w3 (.cells #[.int .u64 (fstS l2).1.1, .int .u64 (fstS l2).1.2, .int .i64 (fstS l2).2] 60)
      have HN2 := hide (Blk.new w3 60 #[.int .u64 (fstS l2).1.1, .int .u64 (fstS l2).1.2, .int .i64 (fstS l2).2])
      have HB4 := hide (Below.step HB3.out hb)
      have HN4 := hide (HN3.out.below hb HN3.out.lt)
      clear hb
      generalize World.alloc w3 _ = w4 at *
      generalize w3.heap.size = g2 at *
      obtain ⟨e0, e1, e2, e3, e4, e5⟩ := (H.out.step HB4.out).cells
      by_cases h2 : 0 < l2.length
      · have d2 : decide (0 < l2.length) = true := decide_eq_true h2
        rw [d2]
        go_wp2_with fail
        have H4 := hide (H.out.step HB4.out)
        refine (bFull_any H4.out.b).mono ?_
        rintro e w5 ⟨rfl, hdw⟩
        have hb := hdw.below
        have HB5 := hide (Below.step HB4.out hb)
        have HM2 := hide (HN2.out.below hb HN2.out.lt)
        have HM4 := hide (HN4.out.below hb HN4.out.lt)
        clear hb hdw e0 e1 e2 e3 e4 e5 HN2 HN4 HN HN3
        by_cases h3 : k ≤ l2.length
        · have d3 : decide (k ≤ l2.length) = true := decide_eq_true h3
          have HD := hide (show doneP ef k l l2 = sptLt (fstS l2) (fstS l) by unfold doneP; rw [d0, d1, d2, d3]; simp)
          rw [d3]
          have y0 : w5.cell? ⟨g2, 0, none⟩ = some (.int .u64 (fstS l2).1.1) := HM2.out.cell 0
          have y1 : w5.cell? ⟨g2, 1, none⟩ = some (.int .u64 (fstS l2).1.2) := HM2.out.cell 1
          have y2 : w5.cell? ⟨g2, 2, none⟩ = some (.int .i64 (fstS l2).2) := HM2.out.cell 2
          have z0 : w5.cell? ⟨g1, 0, none⟩ = some (.int .u64 (fstS l).1.1) := HM4.out.cell 0
          have z1 : w5.cell? ⟨g1, 1, none⟩ = some (.int .u64 (fstS l).1.2) := HM4.out.cell 1
          have z2 : w5.cell? ⟨g1, 2, none⟩ = some (.int .i64 (fstS l).2) := HM4.out.cell 2
          go_wp2_with fail
          refine (spot_any (fstS l2) (fstS l) _).mono ?_
          rintro e w6 ⟨rfl, hb⟩
          have HB6 := hide (Below.step HB5.out hb)
          clear hb
          go_wp2
          go_ret
          exact ⟨by rw [HD.out]; rfl, HB6.out⟩
        · have d3 : decide (k ≤ l2.length) = false := decide_eq_false h3
          have HD := hide (show doneP ef k l l2 = false by unfold doneP; rw [d0, d1, d2, d3]; simp)
          rw [d3]
          go_wp2
          go_ret
          exact ⟨by rw [HD.out]; rfl, HB5.out⟩
      · have d2 : decide (0 < l2.length) = false := decide_eq_false h2
        have HD := hide (show doneP ef k l l2 = false by unfold doneP; rw [d0, d1, d2]; simp)
        rw [d2]
        go_wp2
        go_ret
        exact ⟨by rw [HD.out]; rfl, HB4.out⟩
  · have d0 : decide (0 < l.length) = false := decide_eq_false hl
    have HD := hide (show doneP ef k l l2 = true by unfold doneP; rw [d0]; rfl)
    rw [d0]
    go_wp2
    go_ret
    exact ⟨by rw [HD.out]; rfl, HB.out⟩
set_option maxHeartbeats 4000000 in
theorem want_any (h : PrAt w wr X M Q P k mask ef A c qs m v v2 l l2) (hsz : l.length ≤ 500000) : Calls Tryz.prog 78 #[.pointer (some ⟨X, 0, none⟩)] wr fun e w' =>
    (doneP ef k l l2 = true ∧ e = .returned (.tuple #[.int .i64 0, .bool false]) ∧ Below wr.heap.size wr w') ∨
    (doneP ef k l l2 = false ∧ e = .returned (.tuple #[.int .i64 (fstS l).2, .bool true]) ∧ ∃ l' v', (fstS l :: l').Perm l ∧ PrAt w w' X M Q P k mask ef A c qs m v' v2 l' l2 ∧ TurnP wr w' M Q P v v2 v' v2) := by
  have H := hide h
  clear h
  go_enter Tryz.func78, Tryz.ntmps78
  go_wp2_with fail
  refine (done_any H.out).mono ?_
  rintro e w1 ⟨rfl, hb⟩
  have HB := hide hb
  clear hb
  rcases hd : doneP ef k l l2 with _ | _
  · have H1 := hide (H.out.step HB.out)
    have hl : 0 < l.length := by
      rcases Nat.eq_zero_or_pos l.length with e | e
      · exfalso; unfold doneP at hd; rw [decide_eq_false (by omega)] at hd; simp at hd
      · exact e
    obtain ⟨e0, e1, e2, e3, e4, e5⟩ := H1.out.cells
    go_wp2_with fail
    refine (qPop_any H1.out.q H1.out.hq hsz).mono ?_
    rintro e w2 ⟨rfl, ms, hm, hdn⟩
    have hm : (fstS l :: ms).Perm l := hm.elim (fun h => by rw [h.1] at hl; simp at hl) id
    obtain ⟨l', v', hp, hP, hT⟩ := H1.out.q_ hdn
    have HPm := hide ((hp.cons (fstS l)).trans hm)
    have HP := hide hP
    have HT := hide ((TurnP.of_below HB.out).trans hT)
    clear hm hdn hp hP hT e0 e1 e2 e3 e4 e5
    rw [decide_eq_true hl]
    unfold aggS
    go_upto_region 4 with fail
    have hb := below1 w2 (.cells #[.int .u64 (fstS l).1.1, .int .u64 (fstS l).1.2, .int .i64 (fstS l).2] 60)
    have HN := hide (Blk.new w2 60 #[.int .u64 (fstS l).1.1, .int .u64 (fstS l).1.2, .int .i64 (fstS l).2])
    have HP3 := hide (HP.out.step hb)
    have HT3 := hide (HT.out.trans (TurnP.of_below hb))
    clear hb
    generalize World.alloc w2 _ = w3 at *
    generalize w2.heap.size = g1 at *
    have y2 : w3.cell? ⟨g1, 2, none⟩ = some (.int .i64 (fstS l).2) := HN.out.cell 2
    go_wp2
    go_ret2
    exact .inr ⟨hd, rfl, l', v', HPm.out, HP3.out, HT3.out⟩
  · go_wp2
    go_ret2
    exact .inl ⟨hd, rfl, HB.out⟩
end
end Go.Proofs.YtgiplahhalgbdaaGreat
