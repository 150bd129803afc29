/-
  The document's arena (ganglionref21): Free. Conditions: the slices read as lists of ints.
-/
import Derived.Test.YtoodcfldnojkjabArnT
namespace Go.Proofs.Ytoodcfldnojkjab
open Go.RowKit

set_option maxHeartbeats 2000000 in
theorem refFree_no {s : Arn} {v : Value} {R : Nat → Prop} (w : World) (h : RefAt w R s v) (hR : ∀ b, R b → b < w.heap.size) (hl : s.S.length ≤ 5000) (i : Int) (hm : ¬ (stateOf s.S i = 1 ∨ stateOf s.S i = 4)) :
    Calls Try.prog 12 #[v, .int .i64 i] w (RefGives w R s fun v => .tuple #[v, .bool false]) := by
  have H := hide h
  have C := fun (W : World) (hb : Below w.heap.size w W) => refState_any W (h.below hb hR) (fun b hb' => Nat.lt_of_lt_of_le (hR b hb') hb.size) hl i
  generalize stateOf s.S i = x at hm C
  have HC := hide C
  obtain ⟨AS, nS, cS, AG, nG, cG, AK, nK, cK, rfl, e1, e2, e3⟩ := refAt_slices h
  have HR := hide hR
  have b1 : (x != 1) = true := by rw [bne_iff_ne]; omega
  have b2 : (x != 4) = true := by rw [bne_iff_ne]; omega
  clear h e1 e2 e3 C hR hm
  have HB := hide (fun c1 c2 : Array Value => fun t1 t2 => blk2 w c1 c2 t1 t2)
  go_enter Try.func12, Try.ntmps12
  go_wp2_with (go_at_call 15; refine (HC.out _ (HB.out _ _ _ _).2.2).mono ?_; rintro e w1 ⟨rfl, hb⟩; have hb1 := Below.step (HB.out #[.slice AS nS cS, .slice AG nG cG, .slice AK nK cK] nil3 30 30).2.2 hb; have g0 : Blk w1 w.heap.size 30 #[.slice AS nS cS, .slice AG nG cG, .slice AK nK cK] := (Blk.below (HB.out #[.slice AS nS cS, .slice AG nG cG, .slice AK nK cK] nil3 _ 30).1 hb (by simp; omega)); have g1 : Blk w1 (w.heap.size + 1) 30 nil3 := (Blk.below (HB.out #[.slice AS nS cS, .slice AG nG cG, .slice AK nK cK] nil3 _ _).2.1 hb (by simp)); have x0 : w1.cell? ⟨w.heap.size, 0, none⟩ = some (.slice AS nS cS) := (by rw [g0.cell]; rfl); have x1 : w1.cell? ⟨w.heap.size, 1, none⟩ = some (.slice AG nG cG) := (by rw [g0.cell]; rfl); have x2 : w1.cell? ⟨w.heap.size, 2, none⟩ = some (.slice AK nK cK) := (by rw [g0.cell]; rfl); have y0 : w1.cell? ⟨w.heap.size + 1, 0, none⟩ = some (.slice none 0 0) := (by rw [g1.cell]; rfl); have y1 : w1.cell? ⟨w.heap.size + 1, 1, none⟩ = some (.slice none 0 0) := (by rw [g1.cell]; rfl); have y2 : w1.cell? ⟨w.heap.size + 1, 2, none⟩ = some (.slice none 0 0) := (by rw [g1.cell]; rfl); have z0 := g1.frozen 0; have z1 := g1.frozen 1; have z2 := g1.frozen 2; have G1 := hide g1; clear g0 g1 hb)
  have hR1 := ((G1.out.set_ 0 (.slice AS nS cS)).set_ 1 (.slice AG nG cG)).set_ 2 (.slice AK nK cK)
  have q0 := hR1.cell 0
  have q1 := hR1.cell 1
  have q2 := hR1.cell 2
  simp [nil3] at q0 q1 q2
  refine bodyPost_ret (v := .tuple #[.agg #[.slice AS nS cS, .slice AG nG cG, .slice AK nK cK], .bool false]) (by simp [results, Try.results12, go_sem, q0, q1, q2]) rfl ?_
  have hbf := ((hb1.setCell (p := ⟨w.heap.size + 1, 0, none⟩) (by simp) (.slice AS nS cS)).setCell (p := ⟨w.heap.size + 1, 1, none⟩) (by simp) (.slice AG nG cG)).setCell (p := ⟨w.heap.size + 1, 2, none⟩) (by simp) (.slice AK nK cK)
  exact ⟨_, rfl, (H.out.below hbf HR.out).more fun b h => .inl h, hbf⟩

/-- the two boxes of Free, as the list of the arena's three slices turns -/
structure Boxes (w w' : World) (a b c : Value) : Prop where
  g0 : Blk w' w.heap.size 30 #[a, b, c]
  g1 : Blk w' (w.heap.size + 1) 30 nil3
  hb : Below w.heap.size w w'
theorem Boxes.below {w w' w'' : World} {a b c : Value} (h : Boxes w w' a b c) (hb : Below w'.heap.size w' w'') : Boxes w w'' a b c := ⟨h.g0.below hb h.g0.lt, h.g1.below hb h.g1.lt, Below.step h.hb hb⟩
theorem Boxes.drew {w w' : World} {a b c : Value} (h : Boxes w w' a b c) : Boxes w w'.drew a b c := ⟨h.g0.drew, h.g1.drew, h.hb.drew⟩
theorem Boxes.c0 {w w' : World} {a b c : Value} (h : Boxes w w' a b c) : w'.cell? ⟨w.heap.size, 0, none⟩ = some a := by rw [h.g0.cell]; rfl
theorem Boxes.c1 {w w' : World} {a b c : Value} (h : Boxes w w' a b c) : w'.cell? ⟨w.heap.size, 1, none⟩ = some b := by rw [h.g0.cell]; rfl
theorem Boxes.c2 {w w' : World} {a b c : Value} (h : Boxes w w' a b c) : w'.cell? ⟨w.heap.size, 2, none⟩ = some c := by rw [h.g0.cell]; rfl
theorem Boxes.fr {w w' : World} {a b c : Value} (h : Boxes w w' a b c) (j : Nat) : w'.frozen? ⟨w.heap.size, j, none⟩ = false := h.g0.frozen j
theorem Boxes.set0 {w w' : World} {a b c : Value} (h : Boxes w w' a b c) (a' : Value) : Boxes w (w'.setCell ⟨w.heap.size, 0, none⟩ a') a' b c := ⟨h.g0.set_ 0 _, h.g1.far (by simp) _, h.hb.setCell (Nat.le_refl _) _⟩
theorem Boxes.set1 {w w' : World} {a b c : Value} (h : Boxes w w' a b c) (a' : Value) : Boxes w (w'.setCell ⟨w.heap.size, 1, none⟩ a') a a' c := ⟨h.g0.set_ 1 _, h.g1.far (by simp) _, h.hb.setCell (Nat.le_refl _) _⟩
theorem Boxes.set2 {w w' : World} {a b c : Value} (h : Boxes w w' a b c) (a' : Value) : Boxes w (w'.setCell ⟨w.heap.size, 2, none⟩ a') a b a' := ⟨h.g0.set_ 2 _, h.g1.far (by simp) _, h.hb.setCell (Nat.le_refl _) _⟩
/-- what lies behind the two boxes, and stays -/
def Stays (w w' w'' : World) : Prop := w'.heap.size ≤ w''.heap.size ∧ ∀ b, w.heap.size + 2 ≤ b → b < w'.heap.size → w''.heap[b]? = w'.heap[b]?
theorem Stays.set {w w' : World} (j : Nat) (u : Value) : Stays w w' (w'.setCell ⟨w.heap.size, j, none⟩ u) := ⟨by simp, fun b h _ => Below.heap_setCell _ _ _ _ (by simp; omega)⟩
theorem Stays.set' {w w' : World} (j : Nat) (u : Value) : Stays w w' (w'.setCell ⟨w.heap.size + 1, j, none⟩ u) := ⟨by simp, fun b h _ => Below.heap_setCell _ _ _ _ (by simp; omega)⟩
theorem Stays.below {w w' w'' : World} (hb : Below w'.heap.size w' w'') : Stays w w' w'' := ⟨hb.size, fun b _ h => hb.block b h⟩
theorem Stays.drew {w w' : World} : Stays w w' w'.drew := ⟨Nat.le_refl _, fun _ _ _ => rfl⟩
theorem Stays.trans {w a b c : World} (h : Stays w a b) (k : Stays w b c) : Stays w a c := ⟨Nat.le_trans h.1 k.1, fun i x y => (k.2 i x (Nat.lt_of_lt_of_le y h.1)).trans (h.2 i x y)⟩
def NewR (w w' : World) (b : Nat) : Prop := w.heap.size + 2 ≤ b ∧ b < w'.heap.size
theorem Stays.ints {w a b : World} {A : Option Addr} {xs : List Int} (h : Stays w a b) (k : IntsR a (NewR w a) A xs) : IntsR b (NewR w b) A xs :=
  (k.keepBlocks fun i hi => h.2 i hi.1 hi.2).more fun i hi => ⟨hi.1, Nat.lt_of_lt_of_le hi.2 h.1⟩

set_option maxHeartbeats 4000000 in
theorem refFree_yes {s : Arn} {v : Value} {R : Nat → Prop} (w : World) (h : RefAt w R s v) (hR : ∀ b, R b → b < w.heap.size) (hl : s.S.length ≤ 5000) (hGl : s.G.length ≤ 5000) (hKl : s.K.length ≤ 5000) (k x : Nat) (h1 : 1 ≤ k) (hx : s.S[k]? = some (x : Int)) (hx14 : x = 1 ∨ x = 4) (g : Int) (hg : s.G[k]? = some g) (g0 : 0 ≤ g) (gm : g ≤ 1000000) :
    Calls Try.prog 12 #[v, .int .i64 k] w (RefGives w R (s.free k g) fun v => .tuple #[v, .bool true]) := by
  have C := fun (W : World) (hb : Below w.heap.size w W) => refState_any W (h.below hb hR) (fun b hb' => Nat.lt_of_lt_of_le (hR b hb') hb.size) hl k
  rw [stateOf_at h1 hx] at C
  have HC := hide C
  have hk := (List.getElem?_eq_some_iff.1 hx).1
  have hkG := (List.getElem?_eq_some_iff.1 hg).1
  obtain ⟨AS, cS, AG, cG, AK, cK, rfl, ⟨a1, a2, a3⟩, ⟨b1, b2, b3⟩, ⟨c1, c2, c3⟩⟩ := h
  have IS : Hid (∀ W, Below w.heap.size w W → Ints W W.heap.size AS s.S) := hide (fun W hb => (a3.below hb hR).more fun b h => Nat.lt_of_lt_of_le (hR b h) hb.size)
  have IG : Hid (∀ W, Below w.heap.size w W → Ints W W.heap.size AG s.G) := hide (fun W hb => (b3.below hb hR).more fun b h => Nat.lt_of_lt_of_le (hR b h) hb.size)
  have IK : Hid (∀ W, Below w.heap.size w W → Ints W W.heap.size AK s.K) := hide (fun W hb => (c3.below hb hR).more fun b h => Nat.lt_of_lt_of_le (hR b h) hb.size)
  obtain ⟨gd, y, rfl, hgb, hy, cG1⟩ := b3.cell (k := k) hkG
  obtain rfl : y = g := by rw [hg] at hy; injection hy with hy; exact hy.symm
  have HCG : Hid (∀ W, Below w.heap.size w W → W.cell? (gd.add k) = some (.int .i64 y)) := hide (fun W hb => (hb.cell (by rw [block_of_add]; exact hR _ hgb)).trans cG1)
  generalize hSn : s.S.length = nS at *
  generalize hGn : s.G.length = nG at *
  generalize hKn : s.K.length = nK at *
  have HSn := hide hSn
  have HGn := hide hGn
  have HKn := hide hKn
  have HR := hide hR
  have hk0 : (0 : Int) ≤ (k : Int) := by omega
  have hkG' : (k : Int) < (nG : Int) := by omega
  have HX : Hid (Boxes w ((w.alloc (.cells #[.slice AS nS cS, .slice (some gd) nG cG, .slice AK nK cK] 30)).alloc (.cells nil3 30)) (.slice AS nS cS) (.slice (some gd) nG cG) (.slice AK nK cK)) :=
    hide ⟨(blk2 w _ _ _ _).1, (blk2 w _ _ _ _).2.1, (blk2 w _ _ _ _).2.2⟩
  clear C hR hx b3 c3 a3 hSn hGn hKn hg hy cG1
  rcases hx14 with rfl | rfl
  all_goals
    go_enter Try.func12, Try.ntmps12
    go_upto_region 5 with (first
      | (go_at_call 15; refine (HC.out _ HX.out.hb).mono ?_; rintro e w1 ⟨rfl, hb⟩; have X1 := (HX.out.below hb); have x0 := X1.c0; have HX1 := hide X1; clear X1 hb)
      | (go_at_call 20; refine (refSet_any _ (IS.out _ HX1.out.hb) HSn.out hl k hk 0).mono ?_; rintro e w2 ⟨A', c', rfl, s1, s2, s3, hb2⟩; have X2 := (HX1.out.below hb2); have u0 := X2.c0; have v0 := X2.fr 0; have HX2 := hide X2; have S3 : Hid (IntsR w2 (NewR w w2) A' (s.S.set k 0)) := hide (s3.more fun b hb => ⟨by have := HX1.out.g1.lt; omega, hb.2⟩); clear X2 s3 hb2 x0))
    have X3 := HX2.out.set0 (.slice A' nS c')
    have S4 := hide ((Stays.set 0 (.slice A' nS c')).ints S3.out)
    generalize World.setCell w2 _ _ = w3 at X3 S4
    have x1 := X3.c1
    have xg := HCG.out _ X3.hb
    have y1 := X3.fr 1
    have hw : IntKind.i64.wrap (y + 1) = y + 1 := IntWalk.i64_in _ (by omega)
    have HX3 := hide X3
    clear X3 u0 v0
    go_still_tail 9, (by kernel_rfl)
    change wpList _ _ _ _ _ w3.drew
    have X4 := HX3.out.drew
    have S5 := hide (Stays.drew.ints S4.out)
    generalize w3.drew = w4 at X4 S5
    have HX4 := hide X4
    clear X4 x1 xg y1 hw
    go_upto_region 6 with (go_at_call 20; refine (refSet_any _ (IG.out _ HX4.out.hb) HGn.out hGl k hkG (y + 1)).mono ?_; rintro e w5 ⟨A2, c5, rfl, t1, t2, t3, hb2⟩; have X5 := (HX4.out.below hb2); have u0 := X5.c1; have v0 := X5.fr 1; have HX5 := hide X5; have T3 : Hid (IntsR w5 (NewR w w5) A2 (s.G.set k (y + 1))) := hide (t3.more fun b hb => ⟨by have := HX4.out.g1.lt; omega, hb.2⟩); have S6 := hide ((Stays.below hb2).ints S5.out); clear X5 t3 hb2)
    have X6 := HX5.out.set1 (.slice A2 nG c5)
    have S7 := hide ((Stays.set 1 (.slice A2 nG c5)).ints S6.out)
    have T4 := hide ((Stays.set 1 (.slice A2 nG c5)).ints T3.out)
    generalize World.setCell w5 _ _ = w6 at X6 S7 T4
    have x2 := X6.c2
    have HX6 := hide X6
    have lN : w.heap.size < w6.heap.size := X6.g0.lt
    have lb : Hid (w.heap.size + 2 ≤ w6.heap.size) := hide (by have := X6.g1.lt; omega)
    clear X6 u0 v0
    have hr := hide ((RdR.reads (IK.out _ HX6.out.hb) (fun b h => h) HKn.out).alloc (Nat.le_refl _) (.cells #[] 3))
    have h0 : (w6.alloc (.cells #[] 3)).ownsRow w6.heap.size 3 1 (.slice (some ⟨w6.heap.size, 0, none⟩) 0 0) 0 [] :=
      ⟨rfl, .inr ⟨_, 0, #[], rfl, Nat.le_refl _, heap_alloc_new _ _, Nat.le_refl _, by simp [maxLen], rfl, rfl⟩⟩
    have H0 := hide h0
    clear h0
    obtain ⟨i0, hi0, hz0, hz1, hz2⟩ := info_parts info_int
    have HI := hide (And.intro hi0 (And.intro hz0 (And.intro hz1 hz2)))
    clear hi0 hz0 hz1 hz2
    have L6 := hide (Nat.le_refl w6.heap.size)
    have D6 := hide (Below.refl w6.heap.size w6)
    go_upto_region 7 with (at_builtin; first
      | (refine wpList_append_any _ rfl (.tmp 33) (.tmp 35) 28 rfl w6.heap.size 3 i0 _ 1 8 Try.underlying28 HI.out.1 HI.out.2.1 HI.out.2.2.1 HI.out.2.2.2 rfl (by decide) (.slice (some ⟨w6.heap.size, 0, none⟩) 0 0) 0 [] rfl H0.out w6.heap.size AK nK cK (s.K.map (Value.int .i64)) rfl hr.out (by simp [Value.oneCell']) (by simp only [maxLen]; omega) (by omega) (by simp) ?_; intro v7 w7 own7 gr7 hat7; have D7 := hide ((D6.out.alloc (Nat.le_refl _) (.cells #[] 3)).grown gr7 (by simp) (by simp [Value.ownBlock])); rw [Nat.zero_add, List.nil_append] at own7; have O7 := hide own7; clear own7 gr7 hat7)
      | (refine wpList_append_elem rfl (.tmp 36) (.tmp 38) 28 rfl w6.heap.size Try.underlying28 info_int rfl (by decide) v7 nK _ rfl O7.out _ _ rfl rfl (by simp [Value.oneCell']) (by simp only [maxLen]; omega) (by omega) D7.out.size ?_; intro v8 w8 own8 gr8 hat8; obtain ⟨A8, c8, rfl, o1, o2⟩ := own_form own8; have D8 := hide (below_own D7.out O7.out D7.out.size gr8); have O8 := hide own8; have X8 := HX6.out.below D8.out; have u2 := X8.c2; have v2 := X8.fr 2; have HX8 := hide X8; clear own8 gr8 hat8 X8))
    have X9 := HX8.out.set2 (.slice A8 (nK + 1) c8)
    have S9 := hide (((Stays.below D8.out).trans (Stays.set 2 (.slice A8 (nK + 1) c8))).ints S7.out)
    have T9 := hide (((Stays.below D8.out).trans (Stays.set 2 (.slice A8 (nK + 1) c8))).ints T4.out)
    have K9 : Hid (IntsR (World.setCell w8 ⟨w.heap.size, 2, none⟩ (.slice A8 (nK + 1) c8)) (NewR w (World.setCell w8 ⟨w.heap.size, 2, none⟩ (.slice A8 (nK + 1) c8))) A8 (s.K ++ [(k : Int)])) := hide (by
      have h8 : w8.ownsRow w6.heap.size 3 1 (.slice A8 (nK + 1) c8) (nK + 1) ((s.K ++ [(k : Int)]).map (Value.int .i64)) := by rw [List.map_append]; exact O8.out
      exact (Stays.set 2 _).ints ((intsR_own h8).more fun b hb => ⟨by have := lb.out; omega, hb.2⟩))
    generalize World.setCell w8 _ _ = w9 at X9 S9 T9 K9
    have x0 := X9.c0
    have x1 := X9.c1
    have x2 := X9.c2
    have y0 : w9.cell? ⟨w.heap.size + 1, 0, none⟩ = some (.slice none 0 0) := by rw [X9.g1.cell]; rfl
    have y1 : w9.cell? ⟨w.heap.size + 1, 1, none⟩ = some (.slice none 0 0) := by rw [X9.g1.cell]; rfl
    have y2 : w9.cell? ⟨w.heap.size + 1, 2, none⟩ = some (.slice none 0 0) := by rw [X9.g1.cell]; rfl
    have z0 := X9.g1.frozen 0
    have z1 := X9.g1.frozen 1
    have z2 := X9.g1.frozen 2
    have HX9 := hide X9
    clear X9 u2 v2
    go_wp2
    have hR1 := ((HX9.out.g1.set_ 0 (.slice A' nS c')).set_ 1 (.slice A2 nG c5)).set_ 2 (.slice A8 (nK + 1) c8)
    have q0 := hR1.cell 0
    have q1 := hR1.cell 1
    have q2 := hR1.cell 2
    simp [nil3] at q0 q1 q2
    refine bodyPost_ret (v := .tuple #[.agg #[.slice A' nS c', .slice A2 nG c5, .slice A8 (nK + 1) c8], .bool true]) (by simp [results, Try.results12, go_sem, q0, q1, q2]) rfl ?_
    have hbf := ((HX9.out.hb.setCell (p := ⟨w.heap.size + 1, 0, none⟩) (by simp) (.slice A' nS c')).setCell (p := ⟨w.heap.size + 1, 1, none⟩) (by simp) (.slice A2 nG c5)).setCell (p := ⟨w.heap.size + 1, 2, none⟩) (by simp) (.slice A8 (nK + 1) c8)
    have st := ((Stays.set' (w := w) (w' := w9) 0 (.slice A' nS c')).trans (Stays.set' 1 (.slice A2 nG c5))).trans (Stays.set' 2 (.slice A8 (nK + 1) c8))
    have up : ∀ b, NewR w (((w9.setCell ⟨w.heap.size + 1, 0, none⟩ (.slice A' nS c')).setCell ⟨w.heap.size + 1, 1, none⟩ (.slice A2 nG c5)).setCell ⟨w.heap.size + 1, 2, none⟩ (.slice A8 (nK + 1) c8)) b → Grow R w (((w9.setCell ⟨w.heap.size + 1, 0, none⟩ (.slice A' nS c')).setCell ⟨w.heap.size + 1, 1, none⟩ (.slice A2 nG c5)).setCell ⟨w.heap.size + 1, 2, none⟩ (.slice A8 (nK + 1) c8)) b :=
      fun b hb => .inr ⟨by have := hb.1; omega, hb.2⟩
    refine ⟨_, rfl, ⟨A', c', A2, c5, A8, c8, ?_, ⟨?_, s2, (st.ints S9.out).more up⟩, ⟨?_, t2, (st.ints T9.out).more up⟩, ⟨?_, o2, (st.ints K9.out).more up⟩⟩, hbf⟩
    · show _ = Value.agg #[.slice A' (s.S.set k _).length c', .slice A2 (s.G.set k _).length c5, .slice A8 (s.K ++ [(k : Int)]).length c8]
      rw [List.length_set, List.length_set, List.length_append, HSn.out, HGn.out, HKn.out]
      rfl
    · show (s.S.set k _).length ≤ c'; rw [List.length_set, HSn.out]; exact s1
    · show (s.G.set k _).length ≤ c5; rw [List.length_set, HGn.out]; exact t1
    · show (s.K ++ [(k : Int)]).length ≤ c8; rw [List.length_append, HKn.out]; exact o1
end Go.Proofs.Ytoodcfldnojkjab
