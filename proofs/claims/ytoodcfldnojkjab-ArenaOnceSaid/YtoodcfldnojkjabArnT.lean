/-
  The document's arena (ganglionref21): Alloc of none, Move, Gen, Count. Conditions: the slices read as lists of ints.
-/
import Derived.Test.YtoodcfldnojkjabArnS
namespace Go.Proofs.Ytoodcfldnojkjab
open Go.RowKit

def nil3 : Array Value := #[.slice none 0 0, .slice none 0 0, .slice none 0 0]
theorem refAt_len {w : World} {R : Nat → Prop} {s : Arn} {v : Value} (h : RefAt w R s v) : ∃ a b c, v = .agg #[a, b, c] := by
  obtain ⟨AS, cS, AG, cG, AK, cK, rfl, _⟩ := h
  exact ⟨_, _, _, rfl⟩
theorem refAt_slices {w : World} {R : Nat → Prop} {s : Arn} {v : Value} (h : RefAt w R s v) : ∃ AS nS cS AG nG cG AK nK cK, v = .agg #[.slice AS nS cS, .slice AG nG cG, .slice AK nK cK] ∧ nS = s.S.length ∧ nG = s.G.length ∧ nK = s.K.length := by
  obtain ⟨AS, cS, AG, cG, AK, cK, rfl, _⟩ := h
  exact ⟨_, _, _, _, _, _, _, _, _, rfl, rfl, rfl, rfl⟩

set_option maxHeartbeats 2000000 in
theorem refAlloc_no {s : Arn} {v : Value} {R : Nat → Prop} (w : World) (h : RefAt w R s v) (hR : ∀ b, R b → b < w.heap.size) (hK : s.K = []) :
    Calls Try.prog 8 #[v] w (RefGives w R s fun v => .tuple #[v, .agg #[.int .i64 0, .int .i64 0], .bool false]) := by
  have H := hide h
  obtain ⟨AS, nS, cS, AG, nG, cG, AK, nK, cK, rfl, e1, e2, e3⟩ := refAt_slices h
  rw [hK] at e3
  obtain rfl : nK = 0 := e3
  clear h e1 e2 hK
  go_enter Try.func8, Try.ntmps8
  go_wp2
  refine bodyPost_ret (v := .tuple #[.agg #[.slice AS nS cS, .slice AG nG cG, .slice AK 0 cK], .agg #[.int .i64 0, .int .i64 0], .bool false]) (by simp [results, Try.results8, go_sem]) rfl ?_
  have hb : ∀ c1 c2 c3 : Array Value, ∀ t1 t2 t3, Below w.heap.size w (((w.alloc (.cells c1 t1)).alloc (.cells c2 t2)).alloc (.cells c3 t3)) := fun c1 c2 c3 t1 t2 t3 => (blk3 w c1 c2 c3 t1 t2 t3).2.2.2
  exact ⟨_, rfl, (H.out.below (hb _ _ _ _ _ _) hR).more fun b h => .inl h, hb _ _ _ _ _ _⟩

set_option maxHeartbeats 2000000 in
theorem refMove_no {s : Arn} {v : Value} {R : Nat → Prop} (w : World) (h : RefAt w R s v) (hR : ∀ b, R b → b < w.heap.size) (hl : s.S.length ≤ 5000) (i z : Int) (hm : moves s.S i z = false) :
    Calls Try.prog 10 #[v, .int .i64 i, .int .i64 z] w (RefGives w R s fun v => .tuple #[v, .bool false]) := by
  have H := hide h
  have C := fun (W : World) (hb : Below w.heap.size w W) => refState_any W (h.below hb hR) (fun b hb' => Nat.lt_of_lt_of_le (hR b hb') hb.size) hl i
  have hm := of_decide_eq_false hm
  generalize stateOf s.S i = x at hm C
  have HC := hide C
  obtain ⟨AS, nS, cS, AG, nG, cG, AK, nK, cK, rfl, e1, e2, e3⟩ := refAt_slices h
  have HR := hide hR
  clear h e1 e2 e3 C hR
  have four : (x = 1 ∧ z ≠ 2) ∨ (x = 2 ∧ z ≠ 3) ∨ (x = 3 ∧ z ≠ 4) ∨ (x ≠ 1 ∧ x ≠ 2 ∧ x ≠ 3) := by omega
  have B := fun c1 c2 : Array Value => fun t1 t2 => blk2 w c1 c2 t1 t2
  have HB := hide B
  clear hm B
  rcases four with ⟨rfl, hz⟩ | ⟨rfl, hz⟩ | ⟨rfl, hz⟩ | ⟨h1, h2, h3⟩
  all_goals
    first
      | (have b1 : (z == 2) = false := by rw [beq_eq_false_iff_ne]; assumption)
      | (have b1 : (z == 3) = false := by rw [beq_eq_false_iff_ne]; assumption)
      | (have b1 : (z == 4) = false := by rw [beq_eq_false_iff_ne]; assumption)
      | (have b1 : (x == 1) = false := (by rw [beq_eq_false_iff_ne]; assumption); have b2 : (x == 2) = false := (by rw [beq_eq_false_iff_ne]; assumption); have b3 : (x == 3) = false := (by rw [beq_eq_false_iff_ne]; assumption); clear h1 h2 h3)
    go_enter Try.func10, Try.ntmps10
    go_wp2_with (go_at_call 15; refine (HC.out _ (HB.out _ _ _ _).2.2).mono ?_; rintro e w1 ⟨rfl, hb⟩; have hb1 := Below.step (HB.out #[.slice AS nS cS, .slice AG nG cG, .slice AK nK cK] nil3 30 30).2.2 hb; have g0 : Blk w1 w.heap.size 30 #[.slice AS nS cS, .slice AG nG cG, .slice AK nK cK] := (Blk.below (HB.out #[.slice AS nS cS, .slice AG nG cG, .slice AK nK cK] nil3 _ 30).1 hb (by simp; omega)); have g1 : Blk w1 (w.heap.size + 1) 30 nil3 := (Blk.below (HB.out #[.slice AS nS cS, .slice AG nG cG, .slice AK nK cK] nil3 _ _).2.1 hb (by simp)); have x0 : w1.cell? ⟨w.heap.size, 0, none⟩ = some (.slice AS nS cS) := (by rw [g0.cell]; rfl); have x1 : w1.cell? ⟨w.heap.size, 1, none⟩ = some (.slice AG nG cG) := (by rw [g0.cell]; rfl); have x2 : w1.cell? ⟨w.heap.size, 2, none⟩ = some (.slice AK nK cK) := (by rw [g0.cell]; rfl); have y0 : w1.cell? ⟨w.heap.size + 1, 0, none⟩ = some (.slice none 0 0) := (by rw [g1.cell]; rfl); have y1 : w1.cell? ⟨w.heap.size + 1, 1, none⟩ = some (.slice none 0 0) := (by rw [g1.cell]; rfl); have y2 : w1.cell? ⟨w.heap.size + 1, 2, none⟩ = some (.slice none 0 0) := (by rw [g1.cell]; rfl); have z0 := g1.frozen 0; have z1 := g1.frozen 1; have z2 := g1.frozen 2; have G1 := hide g1; clear g0 g1 hb)
    have hR1 := ((G1.out.set_ 0 (.slice AS nS cS)).set_ 1 (.slice AG nG cG)).set_ 2 (.slice AK nK cK)
    have q0 := hR1.cell 0
    have q1 := hR1.cell 1
    have q2 := hR1.cell 2
    simp [nil3] at q0 q1 q2
    refine bodyPost_ret (v := .tuple #[.agg #[.slice AS nS cS, .slice AG nG cG, .slice AK nK cK], .bool false]) (by simp [results, Try.results10, go_sem, q0, q1, q2]) rfl ?_
    have hbf := ((hb1.setCell (p := ⟨w.heap.size + 1, 0, none⟩) (by simp) (.slice AS nS cS)).setCell (p := ⟨w.heap.size + 1, 1, none⟩) (by simp) (.slice AG nG cG)).setCell (p := ⟨w.heap.size + 1, 2, none⟩) (by simp) (.slice AK nK cK)
    exact ⟨_, rfl, (H.out.below hbf HR.out).more fun b h => .inl h, hbf⟩

set_option maxHeartbeats 2000000 in
theorem refMove_yes {s : Arn} {v : Value} {R : Nat → Prop} (w : World) (h : RefAt w R s v) (hR : ∀ b, R b → b < w.heap.size) (hl : s.S.length ≤ 5000) (k x : Nat) (h1 : 1 ≤ k) (hx : s.S[k]? = some (x : Int)) (x1 : 1 ≤ x) (x3 : x ≤ 3) :
    Calls Try.prog 10 #[v, .int .i64 k, .int .i64 ((x + 1 : Nat) : Int)] w (RefGives w R (s.set k ((x + 1 : Nat) : Int)) fun v => .tuple #[v, .bool true]) := by
  have H := hide h
  have C := fun (W : World) (hb : Below w.heap.size w W) => refState_any W (h.below hb hR) (fun b hb' => Nat.lt_of_lt_of_le (hR b hb') hb.size) hl k
  rw [stateOf_at h1 hx] at C
  have HC := hide C
  have hk := (List.getElem?_eq_some_iff.1 hx).1
  obtain ⟨AS, cS, AG, cG, AK, cK, rfl, ⟨a1, a2, a3⟩, ⟨b1, b2, b3⟩, ⟨c1, c2, c3⟩⟩ := h
  have IS : Hid (∀ W, Below w.heap.size w W → Ints W W.heap.size AS s.S) := hide (fun W hb => (a3.below hb hR).more fun b h => Nat.lt_of_lt_of_le (hR b h) hb.size)
  generalize hSn : s.S.length = nS at *
  generalize hGn : s.G.length = nG at *
  generalize hKn : s.K.length = nK at *
  have HSn := hide hSn
  have HGn := hide hGn
  have HKn := hide hKn
  have HR := hide hR
  have B3 := hide b3
  have C3 := hide c3
  have HB := hide (fun c1 c2 : Array Value => fun t1 t2 => blk2 w c1 c2 t1 t2)
  have hk0 : (0 : Int) ≤ (k : Int) := by omega
  clear C hR hx b3 c3 a3 hSn hGn hKn
  have three : x = 1 ∨ x = 2 ∨ x = 3 := by omega
  rcases three with rfl | rfl | rfl
  all_goals
    go_enter Try.func10, Try.ntmps10
    go_upto_region 5 with (first
      | (go_at_call 15; refine (HC.out _ (HB.out _ _ _ _).2.2).mono ?_; rintro e w1 ⟨rfl, hb⟩; have hb1 := Below.step (HB.out #[.slice AS nS cS, .slice AG nG cG, .slice AK nK cK] nil3 30 30).2.2 hb; have g0 : Blk w1 w.heap.size 30 #[.slice AS nS cS, .slice AG nG cG, .slice AK nK cK] := (Blk.below (HB.out #[.slice AS nS cS, .slice AG nG cG, .slice AK nK cK] nil3 _ 30).1 hb (by simp; omega)); have g1 : Blk w1 (w.heap.size + 1) 30 nil3 := (Blk.below (HB.out #[.slice AS nS cS, .slice AG nG cG, .slice AK nK cK] nil3 _ _).2.1 hb (by simp)); have x0 : w1.cell? ⟨w.heap.size, 0, none⟩ = some (.slice AS nS cS) := (by rw [g0.cell]; rfl); have G0 := hide g0; have G1 := hide g1; have lw1 := g1.lt; clear g0 g1 hb)
      | (go_at_call 20; refine (refSet_any _ (IS.out _ hb1) HSn.out hl k hk _).mono ?_; rintro e w2 ⟨A', c', rfl, s1, s2, s3, hb2⟩; have g0 := (G0.out.below hb2 (by omega)); have g1 := (G1.out.below hb2 (by omega)); have hb1' := Below.step hb1 hb2; have u0 : w2.cell? ⟨w.heap.size, 0, none⟩ = some (.slice AS nS cS) := (by rw [g0.cell]; rfl); have v0 := g0.frozen 0; have E0 := hide g0; have E1 := hide g1; have S3 := hide s3; clear g0 g1 s3 hb2 x0))
    generalize hw3 : World.setCell w2 _ _ = w3
    have K3 : ∀ b, b ≠ w.heap.size → w3.heap[b]? = w2.heap[b]? := fun b hb => by rw [← hw3]; exact Below.heap_setCell _ _ _ _ hb
    have Z3 : w3.heap.size = w2.heap.size := by rw [← hw3]; simp
    obtain ⟨g0, g1, hb3⟩ : Blk w3 w.heap.size 30 #[.slice A' nS c', .slice AG nG cG, .slice AK nK cK] ∧ Blk w3 (w.heap.size + 1) 30 nil3 ∧ Below w.heap.size w w3 := by
      rw [← hw3]; exact ⟨E0.out.set_ 0 _, E1.out.far (by simp) _, hb1'.setCell (Nat.le_refl _) _⟩
    have x0 : w3.cell? ⟨w.heap.size, 0, none⟩ = some (.slice A' nS c') := (by rw [g0.cell]; rfl)
    have x1 : w3.cell? ⟨w.heap.size, 1, none⟩ = some (.slice AG nG cG) := (by rw [g0.cell]; rfl)
    have x2 : w3.cell? ⟨w.heap.size, 2, none⟩ = some (.slice AK nK cK) := (by rw [g0.cell]; rfl)
    have y0 : w3.cell? ⟨w.heap.size + 1, 0, none⟩ = some (.slice none 0 0) := (by rw [g1.cell]; rfl)
    have y1 : w3.cell? ⟨w.heap.size + 1, 1, none⟩ = some (.slice none 0 0) := (by rw [g1.cell]; rfl)
    have y2 : w3.cell? ⟨w.heap.size + 1, 2, none⟩ = some (.slice none 0 0) := (by rw [g1.cell]; rfl)
    have z0 := g1.frozen 0
    have z1 := g1.frozen 1
    have z2 := g1.frozen 2
    have G1' := hide g1
    have KK := hide K3
    have ZZ := hide Z3
    clear hw3 g0 g1 K3 Z3
    go_wp2
    have hR1 := ((G1'.out.set_ 0 (.slice A' nS c')).set_ 1 (.slice AG nG cG)).set_ 2 (.slice AK nK cK)
    have q0 := hR1.cell 0
    have q1 := hR1.cell 1
    have q2 := hR1.cell 2
    simp [nil3] at q0 q1 q2
    refine bodyPost_ret (v := .tuple #[.agg #[.slice A' nS c', .slice AG nG cG, .slice AK nK cK], .bool true]) (by simp [results, Try.results10, go_sem, q0, q1, q2]) rfl ?_
    have hbf := ((hb3.setCell (p := ⟨w.heap.size + 1, 0, none⟩) (by simp) (.slice A' nS c')).setCell (p := ⟨w.heap.size + 1, 1, none⟩) (by simp) (.slice AG nG cG)).setCell (p := ⟨w.heap.size + 1, 2, none⟩) (by simp) (.slice AK nK cK)
    refine ⟨_, rfl, ⟨A', c', AG, cG, AK, cK, ?_, ⟨?_, s2, ?_⟩, ⟨?_, b2, (B3.out.below hbf HR.out).more fun b h => .inl h⟩, ⟨?_, c2, (C3.out.below hbf HR.out).more fun b h => .inl h⟩⟩, hbf⟩
    · show _ = Value.agg #[.slice A' (s.S.set k _).length c', .slice AG s.G.length cG, .slice AK s.K.length cK]
      rw [List.length_set, HSn.out, HGn.out, HKn.out]
    · show (s.S.set k _).length ≤ c'; rw [List.length_set, HSn.out]; exact s1
    · refine (S3.out.keepBlocks (w' := _) fun b hb => ?_).more fun b hb => .inr ⟨by omega, ?_⟩
      · rw [Below.heap_setCell _ _ _ _ (by simp; omega), Below.heap_setCell _ _ _ _ (by simp; omega), Below.heap_setCell _ _ _ _ (by simp; omega)]
        exact KK.out b (by omega)
      · simp [ZZ.out]; exact hb.2
    · show s.G.length ≤ cG; rw [HGn.out]; exact b1
    · show s.K.length ≤ cK; rw [HKn.out]; exact c1
end Go.Proofs.Ytoodcfldnojkjab
