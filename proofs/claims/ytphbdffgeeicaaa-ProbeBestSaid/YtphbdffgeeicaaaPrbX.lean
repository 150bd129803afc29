/-
  lives of the law's package. No condition.
-/
import Derived.Test.YtphbdffgeeicaaaPrbS
namespace Go.Proofs.Ytphbdffgeeicaaa
set_option linter.unusedSimpArgs false
set_option linter.unusedVariables false
open Go.RowKit

/-- blocks between two worlds -/
structure InN (w1 w2 : World) (M Q P : Nat) : Prop where
  m : w1.heap.size ≤ M ∧ M < w2.heap.size
  q : w1.heap.size ≤ Q ∧ Q < w2.heap.size
  p : w1.heap.size ≤ P ∧ P < w2.heap.size
theorem PrV.inN {w1 w2 : World} {X M Q P n : Nat} {mask ef : Int} {A : Option Addr} {c : Nat} {qs kn : List Int} {v v2 : Value} {wt bs : List Spt} (h : PrV w1 w2 X M Q P mask ef A c qs v v2 n kn wt bs) : InN w1 w2 M Q P := by
  obtain ⟨m, l, l2, h1, h2⟩ := h
  exact ⟨⟨h1.hM, h1.m.lt⟩, ⟨h1.q.hQ, h1.q.low.1⟩, ⟨h1.b.hQ, h1.b.low.1⟩⟩
/-- blocks that are free still -/
structure FreeH (W : World) (M Q P : Nat) (v v2 : Value) (g : Nat) (x : Int) : Prop where
  b : Blk W g 21 #[.int .i32 x]
  f : FreeP W M Q P v v2 g
theorem LPr.lit {w w1 w2 W : World} {X M Q P : Nat} {A : Option Addr} {c n : Nat} {v v2 : Value} {kn : List Int} {wt bs : List Spt} (h : LPr w w1 w2 X M Q P A c v v2 n kn wt bs W) (x : Int) : LPr w w1 w2 X M Q P A c v v2 n kn wt bs (W.alloc (.cells #[.int .i32 x] 21)) ∧ FreeH (W.alloc (.cells #[.int .i32 x] 21)) M Q P v v2 W.heap.size x :=
  ⟨h.step (below1 _ _), Blk.new _ _ _, h.pv.new (Nat.le_refl _) (by simp)⟩
theorem vWaitsE {w wr : World} {X M Q P n : Nat} {mask ef : Int} {A : Option Addr} {c : Nat} {qs kn : List Int} {v v2 : Value} {wt bs : List Spt} (h : PrV w wr X M Q P mask ef A c qs v v2 n kn wt bs) {z : Int} (e : (wt.length : Int) = z) : Calls Try.prog 12 #[.pointer (some ⟨X, 0, none⟩)] wr fun e w' => e = .returned (.int .i64 z) ∧ wr = w' := by
  rw [← e]; exact vWaits h
theorem vKnowsE {w wr : World} {X M Q P n : Nat} {mask ef : Int} {A : Option Addr} {c : Nat} {qs kn : List Int} {v v2 : Value} {wt bs : List Spt} (h : PrV w wr X M Q P mask ef A c qs v v2 n kn wt bs) {s : Int} (hw : (Lit.int .i64 s).wf = true) {b : Bool} (e : decide (s ∈ kn) = b) : Calls Try.prog 11 #[.pointer (some ⟨X, 0, none⟩), .int .i64 s] wr fun e w' => e = .returned (.bool b) ∧ wr = w' := by
  rw [← e]; exact vKnows h hw
theorem vFoundE {w wr : World} {X M Q P n : Nat} {mask ef : Int} {A : Option Addr} {c : Nat} {qs kn : List Int} {v v2 : Value} {wt bs : List Spt} (h : PrV w wr X M Q P mask ef A c qs v v2 n kn wt bs) (hn : n ≤ 1000) {k : Nat} (e : bs.length = k) : Calls Try.prog 14 #[.pointer (some ⟨X, 0, none⟩)] wr fun e w' => ∃ A' c', e = .returned (.slice A' k c') ∧ k ≤ c' ∧ c' ≤ 9223372036854775807 ∧ RdR SP w' (Btw wr.heap.size w'.heap.size) A' bs ∧ Below wr.heap.size wr w' := by
  subst e; exact vFound h hn
set_option maxHeartbeats 8000000 in
set_option maxRecDepth 100000 in
theorem lives_any (w : World) : Calls Try.prog 5 #[] w fun e w' => e = .returned (.bool true) ∧ Below w.heap.size w w' := by
  have HB0 := hide (show ∀ W, Below (w.alloc (.cells #[.int .i32 0] 21)).heap.size (w.alloc (.cells #[.int .i32 0] 21)) W → Below w.heap.size w W from fun W h => Below.step (below1 w (.cells #[.int .i32 0] 21)) h)
  have HN0 := hide (Blk.new w 21 #[.int .i32 0])
  go_enter Try.func5, Try.ntmps5
  go_wp2_with fail
  generalize World.alloc w _ = w0 at *
  generalize w.heap.size = g0 at HN0 ⊢
  refine (vNew_any (some ⟨g0, 0, none⟩) 1 1 [0] 1 1 _ ((flatInt .i32).blk HN0.out rfl) rfl (by omega)).mono ?_
  rintro e w1 ⟨X, M, Q, P, A, c, rfl, hX, hp⟩
  have HP := hide hp
  clear hp HN0 hX
  go_wp2_with fail
  refine (vNew_any none 0 0 [] 0 0 _ RdR.nil rfl (by omega)).mono ?_
  rintro e w2 ⟨X', M', Q', P', A', c', rfl, hX', hN⟩
  have HL := hide (LPr.start HP.out hN.bel)
  have HN := hide hN
  have HX := hide hX'
  have HI := hide hN.inN
  clear hN HP hX'
  go_wp2_with fail
  have hh := HL.out.lit 3
  replace HL := hide hh.1
  have HG := hide hh.2
  clear hh
  generalize World.alloc w2 _ = w3 at *
  generalize w2.heap.size = g3 at *
  refine (lpOffer HL.out (by omega) (by decide) 9 1 (some ⟨g3, 0, none⟩) 1 1 [3] (lit_vec HG.out.b HG.out.f) rfl (by omega) (by omega) (i32_one (by omega)) nk1 nw1 nb1 rfl).mono ?_
  rintro e w4 ⟨rfl, v, v2, hl⟩
  replace HL := hide hl
  clear hl HG
  go_wp2_with fail
  have hh := HL.out.lit 1
  replace HL := hide hh.1
  have HG := hide hh.2
  clear hh
  generalize World.alloc w4 _ = w5 at *
  generalize w4.heap.size = g5 at *
  refine (lpOffer HL.out (by omega) (by decide) 8 3 (some ⟨g5, 0, none⟩) 1 1 [1] (lit_vec HG.out.b HG.out.f) rfl (by omega) (by omega) (i32_one (by omega)) nk2 nw2 nb2 rfl).mono ?_
  rintro e w6 ⟨rfl, v, v2, hl⟩
  replace HL := hide hl
  clear hl HG
  go_wp2_with fail
  refine (lpOffer HL.out (by omega) (by decide) 0 0 none 0 0 [] RdR.nil rfl (by omega) (by omega) (fun y hy => by simp at hy) nk3 nw3 nb3 rfl).mono ?_
  rintro e w7 ⟨rfl, v, v2, hl⟩
  replace HL := hide hl
  clear hl
  go_wp2_with fail
  refine (lpOffer HL.out (by omega) (by decide) 7 0 none 0 0 [] RdR.nil rfl (by omega) (by omega) (fun y hy => by simp at hy) nk4 nw4 nb4 rfl).mono ?_
  rintro e w8 ⟨rfl, v, v2, hl⟩
  replace HL := hide hl
  clear hl
  go_wp2_with fail
  refine (vWaitsE HL.out.pv (z := 3) rfl).mono ?_
  rintro e _ ⟨rfl, rfl⟩
  go_wp2_with fail
  refine (lpWant HL.out (by omega) (s := 6) (wt' := [((1, 8), 5), ((9, 9), 4)]) (by decide) rfl rfl).mono ?_
  rintro e wa ⟨rfl, va, hl⟩
  replace HL := hide hl
  clear hl
  go_wp2_with fail
  refine (lpWant HL.out (by omega) (s := 5) (wt' := [((9, 9), 4)]) (by decide) rfl rfl).mono ?_
  rintro e wb ⟨rfl, vb, hl⟩
  replace HL := hide hl
  clear hl
  go_wp2_with fail
  refine (lpEnd HL.out (by omega) (by decide)).mono ?_
  rintro e wc ⟨rfl, hl⟩
  replace HL := hide hl
  clear hl
  go_wp2_with fail
  refine (lpNone HL.out HN.out HX.out).mono ?_
  rintro e wd ⟨rfl, u, u2, wx, bx, hp, ht⟩
  have HNp := hide hp
  have HT := hide ht
  clear hp ht
  go_wp2_with fail
  refine (vWant HNp.out (by omega)).mono ?_
  rintro e we (⟨hd, rfl, hp, ht⟩ | ⟨hd, _⟩)
  case inr => rw [none_done] at hd; cases hd
  have HV := hide (HL.out.other (HT.out.trans ht) hp.bel HI.out.m HI.out.q HI.out.p)
  clear hd hp ht HNp HT HL HN HX HI
  go_wp2_with fail
  refine (want_nil _).mono ?_
  rintro e _ ⟨rfl, rfl⟩
  go_wp2_with fail
  refine (vKnowsE HV.out (by decide) (b := true) (by decide)).mono ?_
  rintro e _ ⟨rfl, rfl⟩
  go_wp2_with fail
  refine (vKnowsE HV.out (by decide) (b := false) (by decide)).mono ?_
  rintro e _ ⟨rfl, rfl⟩
  go_wp2_with fail
  refine (vFoundE HV.out (by omega) (k := 1) rfl).mono ?_
  rintro e wf ⟨A9, c9, rfl, q1, q2, hr, hb⟩
  have HR := hide hr
  have HBl := hide ((HV.out.step hb).bel)
  clear hr hb HV
  go_wp2_with fail
  have hb := below1 wf (.cells #[.int .u64 1, .int .u64 8, .int .i64 5] 53)
  have hg := flatS.blk (l := [((1, 8), 5)]) (Blk.new wf 53 #[.int .u64 1, .int .u64 8, .int .i64 5]) rfl
  have HR2 := hide ((HR.out.rd fun b hb => hb.2).at_world hb)
  have HG := hide hg
  have HB2 := hide (Below.step HBl.out hb)
  clear hg hb HR HBl
  generalize World.alloc wf _ = wg at *
  generalize wf.heap.size = gf at *
  refine (same_any A9 (some ⟨gf, 0, none⟩) 1 c9 1 1 [((1, 8), 5)] [((1, 8), 5)] _ HR2.out rfl q1 q2 HG.out rfl (by omega) (by omega)).mono ?_
  rintro e wh ⟨rfl, hd⟩
  have HB3 := hide (Below.step HB2.out hd.below)
  clear hd HB2 HR2 HG
  go_wp2_with fail
  refine (offer_nil 1 0 0 none 0 0 _).mono ?_
  rintro e wi ⟨rfl, hb⟩
  have HB4 := hide (Below.step HB3.out hb)
  clear hb HB3
  go_wp2_with fail
  refine (found_nil _).mono ?_
  rintro e _ ⟨rfl, rfl⟩
  go_wp2_with fail
  refine (waits_nil _).mono ?_
  rintro e _ ⟨rfl, rfl⟩
  go_wp2_with fail
  refine (knows_nil 1 _).mono ?_
  rintro e _ ⟨rfl, rfl⟩
  go_wp2
  go_ret
  exact ⟨rfl, HB0.out _ HB4.out⟩
end Go.Proofs.Ytphbdffgeeicaaa
