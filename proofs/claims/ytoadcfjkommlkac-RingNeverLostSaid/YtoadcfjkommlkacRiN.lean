/-
  RingTells: the law's function. Condition: the arguments read as what came in.
-/
import Derived.Test.YtoadcfjkommlkacRiM
namespace Go.Proofs.Ytoadcfjkommlkac
set_option linter.unusedSimpArgs false
set_option linter.unusedVariables false
open Go.RowKit

/-- what came in: the words, the operations -/
structure RI (w : World) (A : Option Addr) (ws : List Int) (B : Option Addr) (l : List OpV) (W : World) : Prop where
  bel : Below w.heap.size w W
  x : Rd (Sh.int .u64) W W.heap.size A ws
  o : Rd SOp W W.heap.size B l
theorem RI.step {w W W' : World} {A B : Option Addr} {ws : List Int} {l : List OpV} (h : RI w A ws B l W) (hb : Below W.heap.size W W') : RI w A ws B l W' :=
  ⟨Below.step h.bel hb, h.x.at_world hb, h.o.at_world hb⟩
theorem at_step {w W : World} {T : Sh Int} {A : Option Addr} {l : List Int} (h : Rd T w w.heap.size A l) (hb : Below w.heap.size w W) : Rd T W W.heap.size A l := h.at_world hb
theorem r_ints {W : World} {A B : Option Addr} {n c m d : Nat} {l : List Int} (hA : Rd (Sh.int .i64) W W.heap.size A l) (hn : l.length = n) (hc : n ≤ c) (hm : c ≤ 9223372036854775807) (hB : Rd (Sh.int .i64) W W.heap.size B l) (hn' : l.length = m) (hc' : m ≤ d) (hm' : d ≤ 9223372036854775807) :
    Calls Try.prog 8 #[.slice A n c, .slice B m d] W fun e w' => e = .returned (.bool true) ∧ Below W.heap.size W w' := by
  refine (sameInts_any A B n c m d l l W hA hn hc hm hB hn' hc' hm').mono ?_
  rintro e w' ⟨rfl, hd⟩
  exact ⟨by simp, hd.below⟩
theorem r_64 {W : World} {A B : Option Addr} {n c m d : Nat} {l : List Int} (hA : Rd (Sh.int .u64) W W.heap.size A l) (hn : l.length = n) (hc : n ≤ c) (hm : c ≤ 9223372036854775807) (hB : Rd (Sh.int .u64) W W.heap.size B l) (hn' : l.length = m) (hc' : m ≤ d) (hm' : d ≤ 9223372036854775807) :
    Calls Try.prog 13 #[.slice A n c, .slice B m d] W fun e w' => e = .returned (.bool true) ∧ Below W.heap.size W w' := by
  refine (same64_any A B n c m d l l W hA hn hc hm hB hn' hc' hm').mono ?_
  rintro e w' ⟨rfl, hd⟩
  exact ⟨by simp, hd.below⟩
theorem r_ops {W : World} {A B : Option Addr} {n c m d : Nat} {l : List Opr} (hA : Rd SOp W W.heap.size A (l.map opT)) (hn : l.length = n) (hB : Rd SOp W W.heap.size B (l.map opT)) (hn' : l.length = m) (h6 : n ≤ 1000) :
    Calls Try.prog 16 #[.slice A n c, .slice B m d] W fun e w' => e = .returned (.bool true) ∧ Below W.heap.size W w' := by
  obtain rfl : n = m := by omega
  refine (sameOps_any A B n c d l W hA hn hB (by omega)).mono ?_
  rintro e w' ⟨rfl, hd⟩
  exact ⟨rfl, hd.below⟩
theorem join_len (ws : List Int) (s : Int) : (joinW ws s).length ≤ 3 := by unfold joinW; split <;> (try split) <;> simp
theorem cut_len (ws : List Int) (s : Int) : (cutW ws s).length ≤ 3 := by unfold cutW; split <;> (try split) <;> simp
set_option maxHeartbeats 8000000 in
set_option maxRecDepth 100000 in
theorem tells_any (A B : Option Addr) (n c m d : Nat) (ws : List Int) (l : List OpV) (s t : Int) (w : World) (hx : Rd (Sh.int .u64) w w.heap.size A ws) (hn : ws.length = n) (hu : ∀ x ∈ ws, U64 x) (hl : Rd SOp w w.heap.size B l) (hm : l.length = m) :
    Calls Try.prog 3 #[.slice A n c, .int .i64 s, .int .i64 t, .slice B m d] w fun e w' => e = .returned (.bool true) ∧ Below w.heap.size w w' := by
  have HR : Hid (RI w A ws B l w) := hide ⟨Below.refl _ _, hx, hl⟩
  have Hn := hide hn
  have Hm := hide hm
  have Hu := hide hu
  clear hx hl hn hm hu
  by_cases hbig : (100 : Int) < n ∨ (100 : Int) < m
  · have b0 : decide ((100 : Int) < n) = true ∨ decide ((100 : Int) < m) = true := by simpa using hbig
    go_enter Try.func3, Try.ntmps3
    rcases Bool.eq_false_or_eq_true (decide ((100 : Int) < n)) with b1 | b1
    · go_wp2_with (go_at_call 5; refine (lives_any _).mono ?_; rintro e w2 ⟨rfl, hb2⟩)
      go_ret
      exact ⟨rfl, hb2⟩
    · have b2 : decide ((100 : Int) < m) = true := by simpa [b1] using b0
      go_wp2_with (go_at_call 5; refine (lives_any _).mono ?_; rintro e w2 ⟨rfl, hb2⟩)
      go_ret
      exact ⟨rfl, hb2⟩
  · have g1 : n ≤ 100 := by omega
    have g2 : m ≤ 100 := by omega
    have b1 : decide ((100 : Int) < n) = false := decide_eq_false (by omega)
    have b2 : decide ((100 : Int) < m) = false := decide_eq_false (by omega)
    clear hbig
    go_enter Try.func3, Try.ntmps3
    go_wp2_with fail
    refine (at_any A n c ws s _ HR.out.x Hn.out Hu.out).mono ?_
    rintro e _ ⟨rfl, rfl⟩
    go_wp2_with fail
    refine (refAt_any A n c ws s _ HR.out.x Hn.out Hu.out).mono ?_
    rintro e _ ⟨rfl, rfl⟩
    generalize (atW ws s).1 = z1
    generalize (atW ws s).2 = z2
    have e1 : (z1 == z1) = true := by simp
    have e2 : (z2 == z2) = true := by simp
    go_wp2_with fail
    refine (lives_any _).mono ?_
    rintro e w1 ⟨rfl, hb⟩
    have HR := hide (HR.out.step hb)
    clear hb
    go_wp2_with fail
    refine (qList HR.out.x Hn.out Hu.out).mono ?_
    rintro e w2 ⟨A1, n1, c1, rfl, p1, p2, p3, h1, hb⟩
    have HR := hide (HR.out.step hb)
    have H1 := hide h1
    have P1 := hide (And.intro p1 (And.intro p2 p3))
    clear hb h1 p1 p2 p3
    go_wp2_with fail
    refine (qRefList HR.out.x Hn.out Hu.out).mono ?_
    rintro e w3 ⟨A2, n2, c2, rfl, p1, p2, p3, h1, hb⟩
    have HR := hide (HR.out.step hb)
    have H2 := hide h1
    have H1 := hide (at_step H1.out hb)
    have P2 := hide (And.intro p1 (And.intro p2 p3))
    clear hb h1 p1 p2 p3
    go_wp2_with fail
    refine (r_ints H1.out P1.out.1 P1.out.2.1 P1.out.2.2 H2.out P2.out.1 P2.out.2.1 P2.out.2.2).mono ?_
    rintro e w4 ⟨rfl, hb⟩
    have HR := hide (HR.out.step hb)
    clear hb H1 H2 P1 P2
    go_wp2_with fail
    refine (check_any A n c ws _ HR.out.x Hn.out Hu.out).mono ?_
    rintro e w5 ⟨rfl, hb⟩
    have HR := hide (HR.out.step hb)
    clear hb
    go_wp2_with fail
    refine (refCheck_any A n c ws _ HR.out.x Hn.out Hu.out).mono ?_
    rintro e w6 ⟨rfl, hb⟩
    have HR := hide (HR.out.step hb)
    clear hb
    generalize checkW ws = z3
    have e3 : (z3 == z3) = true := by simp
    go_wp2_with fail
    refine (qDo HR.out.x Hn.out (by omega) HR.out.o Hm.out (by omega)).mono ?_
    rintro e w7 ⟨A1, n1, c1, rfl, p1, p2, p3, h1, hb⟩
    have HR := hide (HR.out.step hb)
    have H1 := hide h1
    have P1 := hide (And.intro p1 (And.intro p2 p3))
    clear hb h1 p1 p2 p3
    go_wp2_with fail
    refine (qRefDo HR.out.x Hn.out (by omega) HR.out.o Hm.out (by omega)).mono ?_
    rintro e w8 ⟨A2, n2, c2, rfl, p1, p2, p3, h1, hb⟩
    have HR := hide (HR.out.step hb)
    have H2 := hide h1
    have H1 := hide (at_step H1.out hb)
    have P2 := hide (And.intro p1 (And.intro p2 p3))
    clear hb h1 p1 p2 p3
    go_wp2_with fail
    refine (r_64 H1.out P1.out.1 P1.out.2.1 P1.out.2.2 H2.out P2.out.1 P2.out.2.1 P2.out.2.2).mono ?_
    rintro e w9 ⟨rfl, hb⟩
    have HR := hide (HR.out.step hb)
    clear hb H1 H2 P1 P2
    go_wp2_with fail
    refine (qJoins HR.out.x Hn.out Hu.out s rfl).mono ?_
    rintro e w10 ⟨A1, n1, c1, rfl, p1, p2, p3, h1, hb⟩
    have HR := hide (HR.out.step hb)
    have H1 := hide h1
    have P1 := hide p1
    clear hb h1 p1 p2 p3
    go_wp2_with fail
    refine (qRefJoins HR.out.x Hn.out Hu.out s).mono ?_
    rintro e w11 ⟨A2, n2, c2, rfl, p1, p2, p3, h1, hb⟩
    have HR := hide (HR.out.step hb)
    have H2 := hide h1
    have H1 := hide (H1.out.at_world hb)
    have P2 := hide p1
    clear hb h1 p1 p2 p3
    go_wp2_with fail
    refine (r_ops H1.out P1.out H2.out P2.out (by have := join_len ws s; have := P1.out; omega)).mono ?_
    rintro e w12 ⟨rfl, hb⟩
    have HR := hide (HR.out.step hb)
    clear hb H1 H2 P1 P2
    go_wp2_with fail
    refine (qCuts HR.out.x Hn.out Hu.out s rfl).mono ?_
    rintro e w13 ⟨A1, n1, c1, rfl, p1, p2, p3, h1, hb⟩
    have HR := hide (HR.out.step hb)
    have H1 := hide h1
    have P1 := hide p1
    clear hb h1 p1 p2 p3
    go_wp2_with fail
    refine (qRefCuts HR.out.x Hn.out Hu.out s).mono ?_
    rintro e w14 ⟨A2, n2, c2, rfl, p1, p2, p3, h1, hb⟩
    have HR := hide (HR.out.step hb)
    have H2 := hide h1
    have H1 := hide (H1.out.at_world hb)
    have P2 := hide p1
    clear hb h1 p1 p2 p3
    go_wp2_with fail
    refine (r_ops H1.out P1.out H2.out P2.out (by have := cut_len ws s; have := P1.out; omega)).mono ?_
    rintro e w15 ⟨rfl, hb⟩
    have HR := hide (HR.out.step hb)
    clear hb H1 H2 P1 P2
    go_wp2_with fail
    refine (qLocks HR.out.x Hn.out Hu.out s rfl).mono ?_
    rintro e w16 ⟨A1, n1, c1, rfl, p1, p2, p3, h1, hb⟩
    have HR := hide (HR.out.step hb)
    have H1 := hide h1
    have P1 := hide (And.intro p1 (And.intro p2 p3))
    clear hb h1 p1 p2 p3
    go_wp2_with fail
    refine (qRefLocks HR.out.x Hn.out Hu.out s (by omega)).mono ?_
    rintro e w17 ⟨A2, n2, c2, rfl, p1, p2, p3, h1, hb⟩
    have HR := hide (HR.out.step hb)
    have H2 := hide h1
    have H1 := hide (at_step H1.out hb)
    have P2 := hide (And.intro p1 (And.intro p2 p3))
    clear hb h1 p1 p2 p3
    go_wp2_with fail
    refine (r_ints H1.out P1.out.1 P1.out.2.1 P1.out.2.2 H2.out P2.out.1 P2.out.2.1 P2.out.2.2).mono ?_
    rintro e w18 ⟨rfl, hb⟩
    have HR := hide (HR.out.step hb)
    clear hb H1 H2 P1 P2
    go_wp2_with fail
    refine (qNew t _).mono ?_
    rintro e w19 ⟨A1, n1, c1, rfl, p1, p2, p3, h1, hb⟩
    have HR := hide (HR.out.step hb)
    have H1 := hide h1
    have P1 := hide (And.intro p1 (And.intro p2 p3))
    clear hb h1 p1 p2 p3
    go_wp2_with fail
    refine (qRefNew t _).mono ?_
    rintro e w20 ⟨A2, n2, c2, rfl, p1, p2, p3, h1, hb⟩
    have HR := hide (HR.out.step hb)
    have H2 := hide h1
    have H1 := hide (at_step H1.out hb)
    have P2 := hide (And.intro p1 (And.intro p2 p3))
    clear hb h1 p1 p2 p3
    go_wp2_with fail
    refine (r_64 H1.out P1.out.1 P1.out.2.1 P1.out.2.2 H2.out P2.out.1 P2.out.2.1 P2.out.2.2).mono ?_
    rintro e w21 ⟨rfl, hb⟩
    have HR := hide (HR.out.step hb)
    clear hb H1 H2 P1 P2
    go_wp2_with fail
    go_ret
    exact ⟨rfl, HR.out.bel⟩
end Go.Proofs.Ytoadcfjkommlkac
