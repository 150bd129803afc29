/-
  The reference's tables: Give. Conditions: the lists read as said.
-/
import Derived.Test.YtknljldmjicfgaaLckH
namespace Go.Proofs.Ytknljldmjicfgaa
open Go.RowKit

/-- a table of the reference's in the first of the call's blocks, the answer's variable in the second; what it refers to lies in blocks of D -/
structure KT (w wr : World) (D : Nat → Prop) (a b c x y z : Value) (s : Tab) : Prop where
  p : Blk wr w.heap.size 28 #[a, b, c]
  q : Blk wr (w.heap.size + 1) 28 #[x, y, z]
  ref : RefT wr D s (.agg #[a, b, c])
  hD : ∀ d, D d → d < wr.heap.size ∧ d ≠ w.heap.size ∧ d ≠ w.heap.size + 1
  bel : Below w.heap.size w wr
section
variable {w wr wr' : World} {D D' : Nat → Prop} {a b c x y z a' b' c' : Value} {s s' : Tab}
theorem KT.step (h : KT w wr D a b c x y z s) (hb : Below wr.heap.size wr wr') : KT w wr' D a b c x y z s :=
  ⟨h.p.below hb h.p.lt, h.q.below hb h.q.lt, h.ref.below hb (fun d hd => (h.hD d hd).1), fun d hd => ⟨Nat.lt_of_lt_of_le (h.hD d hd).1 hb.size, (h.hD d hd).2⟩, Below.step h.bel hb⟩
theorem KT.cells (h : KT w wr D a b c x y z s) : wr.cell? ⟨w.heap.size, 0, none⟩ = some a ∧ wr.cell? ⟨w.heap.size, 1, none⟩ = some b ∧ wr.cell? ⟨w.heap.size, 2, none⟩ = some c :=
  ⟨by rw [h.p.cell]; rfl, by rw [h.p.cell]; rfl, by rw [h.p.cell]; rfl⟩
theorem KT.frozen (h : KT w wr D a b c x y z s) (i : Nat) : wr.frozen? ⟨w.heap.size, i, none⟩ = false := h.p.frozen i
theorem KT.cellsQ (h : KT w wr D a b c x y z s) : wr.cell? ⟨w.heap.size + 1, 0, none⟩ = some x ∧ wr.cell? ⟨w.heap.size + 1, 1, none⟩ = some y ∧ wr.cell? ⟨w.heap.size + 1, 2, none⟩ = some z :=
  ⟨by rw [h.q.cell]; rfl, by rw [h.q.cell]; rfl, by rw [h.q.cell]; rfl⟩
theorem KT.frozenQ (h : KT w wr D a b c x y z s) (i : Nat) : wr.frozen? ⟨w.heap.size + 1, i, none⟩ = false := h.q.frozen i
theorem KT.call (h : KT w wr D a b c x y z s) : RefT wr (fun b => b < wr.heap.size) s (.agg #[a, b, c]) := h.ref.more fun d hd => (h.hD d hd).1
/-- a row that the call owns has grown -/
theorem KT.grow {e : TypeId} {k n : Nat} {v : Value} {xs : List Value} (h : KT w wr D a b c x y z s) (hO : wr.ownsRow (w.heap.size + 2) e k v n xs) (hn : ∀ d, D d → v.ownBlock ≠ some d) (hG : wr.grownBy wr' v.ownBlock) : KT w wr' D a b c x y z s := by
  have lo := fun g hg => (hO.lt g hg).1
  refine ⟨h.p.grown hG fun e1 => ?_, h.q.grown hG fun e1 => ?_, h.ref.keep fun d hd => hG.block d (h.hD d hd).1 (fun e1 => hn d hd e1.symm), fun d hd => ⟨Nat.lt_of_lt_of_le (h.hD d hd).1 hG.size, (h.hD d hd).2⟩, ?_⟩
  · have := lo _ e1.symm; omega
  · have := lo _ e1.symm; omega
  · exact h.bel.grown hG h.bel.size fun k hk => by have := lo k hk; omega
/-- a field is stored -/
theorem KT.set0 (h : KT w wr D a b c x y z s) (hr : RefT wr D' s' (.agg #[a', b, c])) (hD : ∀ d, D' d → d < wr.heap.size ∧ d ≠ w.heap.size ∧ d ≠ w.heap.size + 1) : KT w (wr.setCell ⟨w.heap.size, 0, none⟩ a') D' a' b c x y z s' :=
  ⟨h.p.set_ 0 a', h.q.far (by simp) _, hr.keep fun d hd => Below.heap_setCell _ _ _ _ (hD d hd).2.1, fun d hd => by simpa using hD d hd, h.bel.setCell (Nat.le_refl _) _⟩
theorem KT.set1 (h : KT w wr D a b c x y z s) (hr : RefT wr D' s' (.agg #[a, b', c])) (hD : ∀ d, D' d → d < wr.heap.size ∧ d ≠ w.heap.size ∧ d ≠ w.heap.size + 1) : KT w (wr.setCell ⟨w.heap.size, 1, none⟩ b') D' a b' c x y z s' :=
  ⟨h.p.set_ 1 b', h.q.far (by simp) _, hr.keep fun d hd => Below.heap_setCell _ _ _ _ (hD d hd).2.1, fun d hd => by simpa using hD d hd, h.bel.setCell (Nat.le_refl _) _⟩
theorem KT.set2 (h : KT w wr D a b c x y z s) (hr : RefT wr D' s' (.agg #[a, b, c'])) (hD : ∀ d, D' d → d < wr.heap.size ∧ d ≠ w.heap.size ∧ d ≠ w.heap.size + 1) : KT w (wr.setCell ⟨w.heap.size, 2, none⟩ c') D' a b c' x y z s' :=
  ⟨h.p.set_ 2 c', h.q.far (by simp) _, hr.keep fun d hd => Below.heap_setCell _ _ _ _ (hD d hd).2.1, fun d hd => by simpa using hD d hd, h.bel.setCell (Nat.le_refl _) _⟩
theorem KT.start {R : Nat → Prop} (h : RefT w R s (.agg #[a, b, c])) (hR : ∀ d, R d → d < w.heap.size) :
    KT w ((w.alloc (.cells #[a, b, c] 28)).alloc (.cells #[.slice none 0 0, .slice none 0 0, .bool false] 28)) R a b c (.slice none 0 0) (.slice none 0 0) (.bool false) s := by
  have h2 := blk2 w #[a, b, c] #[.slice none 0 0, .slice none 0 0, .bool false] 28 28
  exact ⟨h2.1, h2.2.1, h.below h2.2.2 hR, fun d hd => by have := hR d hd; simp; omega, h2.2.2⟩
/-- the answer: the table copied into the answer's variable -/
theorem KT.done (h : KT w wr D a b c x y z s) : Blk (((wr.setCell ⟨w.heap.size + 1, 0, none⟩ a).setCell ⟨w.heap.size + 1, 1, none⟩ b).setCell ⟨w.heap.size + 1, 2, none⟩ c) (w.heap.size + 1) 28 #[a, b, c] ∧
    RefT (((wr.setCell ⟨w.heap.size + 1, 0, none⟩ a).setCell ⟨w.heap.size + 1, 1, none⟩ b).setCell ⟨w.heap.size + 1, 2, none⟩ c) D s (.agg #[a, b, c]) ∧
    Below w.heap.size w (((wr.setCell ⟨w.heap.size + 1, 0, none⟩ a).setCell ⟨w.heap.size + 1, 1, none⟩ b).setCell ⟨w.heap.size + 1, 2, none⟩ c) :=
  ⟨((h.q.set_ 0 a).set_ 1 b).set_ 2 c, h.ref.keep fun d hd => by
    rw [Below.heap_setCell _ _ _ _ (h.hD d hd).2.2, Below.heap_setCell _ _ _ _ (h.hD d hd).2.2, Below.heap_setCell _ _ _ _ (h.hD d hd).2.2], ((h.bel.setCell (by simp) _).setCell (by simp) _).setCell (by simp) _⟩
end
/-- what a call of the reference's that makes a table leaves -/
def RefGivesT (w : World) (R : Nat → Prop) (r : Tab × Bool) (e : Ending) (w' : World) : Prop := ∃ v, e = .returned (.tuple #[v, .bool r.2]) ∧ RefT w' (Grow R w w') r.1 v ∧ Below w.heap.size w w'
/-- old blocks, and those made since the call's two -/
def GrowK (R : Nat → Prop) (w wr : World) (d : Nat) : Prop := R d ∨ (w.heap.size + 2 ≤ d ∧ d < wr.heap.size)
theorem RefT.mkH {w : World} {R : Nat → Prop} {s : Tab} {AH AW : Option Addr} {cH cW : Nat} {m : List (Int × Int)} (h : RefT w R s (.agg #[.slice AH s.h.length cH, .slice AW s.ws.length cW, .bool s.br])) {A : Option Addr} {n c : Nat} {R' : Nat → Prop} (hR : ∀ d, R d → R' d)
    (hr : RdR SPr w R' A m) (hn : m.length = n) (hc : n ≤ c) (hm : c ≤ 9223372036854775807) : RefT w R' ⟨m, s.ws, s.br⟩ (.agg #[.slice A n c, .slice AW s.ws.length cW, .bool s.br]) := by
  obtain ⟨AH', cH', AW', cW', e, h1, h2, h3, h4, h5, h6⟩ := h
  injection e with e
  simp at e
  obtain ⟨⟨rfl, rfl⟩, rfl, rfl⟩ := e
  subst hn
  exact ⟨A, c, AW, cW, rfl, hc, hm, h3, h4, hr, h6.more hR⟩
theorem RefT.mkW {w : World} {R : Nat → Prop} {s : Tab} {AH AW : Option Addr} {cH cW : Nat} {m : List (Int × Int)} (h : RefT w R s (.agg #[.slice AH s.h.length cH, .slice AW s.ws.length cW, .bool s.br])) {A : Option Addr} {n c : Nat} {R' : Nat → Prop} (hR : ∀ d, R d → R' d)
    (hr : RdR SPr w R' A (m.map swapP)) (hn : m.length = n) (hc : n ≤ c) (hm : c ≤ 9223372036854775807) : RefT w R' ⟨s.h, m, s.br⟩ (.agg #[.slice AH s.h.length cH, .slice A n c, .bool s.br]) := by
  obtain ⟨AH', cH', AW', cW', e, h1, h2, h3, h4, h5, h6⟩ := h
  injection e with e
  simp at e
  obtain ⟨⟨rfl, rfl⟩, rfl, rfl⟩ := e
  subst hn
  exact ⟨AH, cH, A, c, rfl, h1, h2, hc, hm, h5.more hR, hr⟩
theorem RefT.both {w : World} {R : Nat → Prop} {s : Tab} {AH AW : Option Addr} {cH cW : Nat} (h : RefT w R s (.agg #[.slice AH s.h.length cH, .slice AW s.ws.length cW, .bool s.br])) : (s.h.length ≤ cH ∧ cH ≤ 9223372036854775807 ∧ RdR SPr w R AH s.h) ∧ s.ws.length ≤ cW ∧ cW ≤ 9223372036854775807 ∧ RdR SPr w R AW (s.ws.map swapP) := by
  obtain ⟨AH', cH', AW', cW', e, h1, h2, h3, h4, h5, h6⟩ := h
  injection e with e
  simp at e
  obtain ⟨⟨rfl, rfl⟩, rfl, rfl⟩ := e
  exact ⟨⟨h1, h2, h5⟩, h3, h4, h6⟩
set_option maxHeartbeats 4000000 in
theorem refGive_any {w : World} {s : Tab} {v : Value} {R : Nat → Prop} (h : RefT w R s v) (hR : ∀ d, R d → d < w.heap.size) (hsz : s.h.length ≤ 100000 ∧ s.ws.length ≤ 100000) (x n : Int) :
    Calls Try.prog 7 #[v, .int .i64 x, .int .i64 n] w (RefGivesT w R (giveF s x n)) := by
  obtain ⟨AH, cH, AW, cW, rfl⟩ := h.parts
  have HK := hide (KT.start h hR)
  have HR := hide hR
  have HH := hide (fun W (hW : KT w W R (.slice AH s.h.length cH) (.slice AW s.ws.length cW) (.bool s.br) (.slice none 0 0) (.slice none 0 0) (.bool false) s) => refHolder_any hW.call n)
  have HSZ := hide hsz
  unfold giveF
  by_cases e : lookF s.h n = some x
  · rw [if_pos e]
    obtain ⟨⟨g1, g2, g3⟩, g4, g5, g6⟩ := h.both
    have HB := hide h
    have HRD := hide g3
    have HRW := hide g6
    have e1 : ((lookF s.h n).getD 0 != x) = false := by rw [e]; simp
    have e2 : (lookF s.h n).isSome = true := by rw [e]; rfl
    rw [e2] at HH
    generalize (lookF s.h n).getD 0 = v1 at *
    obtain ⟨s1, s2⟩ := hsz
    clear h hR e e2 g3 g6
    go_enter Try.func7, Try.ntmps7
    go_wp2_with (go_at_call 12; refine (HH.out _ HK.out).mono ?_; rintro e w1 ⟨rfl, hb⟩; have HK1 := hide (HK.out.step hb); obtain ⟨z0, z1, z2⟩ := HK1.out.cells; clear hb)
    go_loopw [30, 12, 10] (fun i _ v wr => ∃ j : Nat, j ≤ s.h.length ∧ i = .int .i64 j ∧ Hid (KT w wr R (.slice AH s.h.length cH) (.slice AW s.ws.length cW) (.bool s.br) (.slice none 0 0) (.slice none 0 0) (.bool false) s) ∧ Hid (wr.ownsRow (w.heap.size + 2) 48 2 v (dropF (s.h.take j) n).length (fcs encP (dropF (s.h.take j) n)))) (fun i _ _ _ => s.h.length - (intOf i).toNat)
    case atStart => exact ⟨0, by omega, rfl, HK1, hide (World.ownsRow_nil _ _ _ _)⟩
    case round =>
      obtain ⟨j, hj, rfl, HK2, HO⟩ := hrel
      obtain ⟨AV, cV, rfl, o1, o2⟩ := own_form HO.out
      by_cases hlt : j < s.h.length
      · have hrd := HK2.out.ref.both.1.2.2
        obtain ⟨ad, ⟨k, y⟩, hA, _, hv, q0, q1⟩ := hrd.pcell hlt
        simp only at q0 q1
        subst hA
        have g0 : (0 : Int) ≤ j := by omega
        have g1 : (j : Int) < s.h.length := by omega
        have HD := hide (dropF_snoc (n := n) hv)
        have Hle := hide (dropF_le s.h j n)
        have HK3 := hide (HK2.out.step (below1 wr (.cells #[.int .i64 k, .int .i64 y] 48)))
        have HO1 := hide (HO.out.alloc (.cells #[.int .i64 k, .int .i64 y] 48))
        have hsz := HK2.out.bel.size
        clear hv hrd z0 z1 z2
        by_cases e : k = n
        · have e1 : (k != n) = false := by simp [e]
          have HF : Hid (dropF (s.h.take (j + 1)) n = dropF (s.h.take j) n) := hide (by rw [HD.out, if_pos e])
          clear e
          go_wp2
          go_roundw
          case rel => exact ⟨j + 1, by omega, by go_num, HK3, by rw [HF.out]; exact HO1⟩
          case measure => simp [intOf]; omega
        · have e1 : (k != n) = true := by simp [e]
          have HF : Hid (dropF (s.h.take (j + 1)) n = dropF (s.h.take j) n ++ [(k, y)]) := hide (by rw [HD.out, if_neg e])
          clear e
          go_wp2_with (at_builtin; refine wpList_append_elemG rfl _ _ 26 rfl (w.heap.size + 2) Try.underlying26 info_pair rfl (by decide) (.slice AV (dropF (s.h.take j) n).length cV) (dropF (s.h.take j) n).length _ rfl HO1.out (wr.heap.size + 1) (by simp) _ _ rfl rfl (by simp [Value.oneCell']) (by have := Hle.out; simp only [maxLen]; omega) (by have := Hle.out; omega) (HK3.out.q.lt) ?_; intro v' w3 hown3 hgr3 hat3; have HK4 := hide (HK3.out.grow HO1.out (fun d hd e => by have := (HO1.out.lt d e).1; have := HR.out d hd; omega) hgr3); have HO3 := hide hown3; clear hown3 hgr3 hat3)
          go_roundw
          case rel => exact ⟨j + 1, by omega, by go_num, HK4, by rw [HF.out, List.length_append, fcs_append]; exact HO3⟩
          case measure => simp [intOf]; omega
      · have HF : Hid (s.h.take j = s.h) := hide (List.take_of_length_le (by omega))
        rw [HF.out] at HO o1
        have hrow := (flatP.own HO.out).more (R' := GrowK R w wr) fun d hd => .inr hd
        have HK4 := hide (HK2.out.set0 (D' := GrowK R w wr) (s' := ⟨dropF s.h n, s.ws, s.br⟩) (HK2.out.ref.mkH (fun d hd => .inl hd) hrow rfl o1 o2) (fun d hd => by
          rcases hd with hd | hd
          · exact HK2.out.hD d hd
          · exact ⟨hd.2, by have := hd.1; omega, by have := hd.1; omega⟩))
        have f0 := HK2.out.frozen 0
        obtain ⟨x0, _, _⟩ := HK2.out.cells
        have hl0 : (s.h.take j).length = s.h.length := by rw [HF.out]
        rw [HF.out]
        clear hrow z0 z1 z2 hl0
        go_upto_region 12 with fail
        generalize World.setCell wr ⟨w.heap.size, 0, none⟩ (.slice AV (dropF s.h n).length cV) = w4 at HK4 ⊢
        obtain ⟨z0, z1, z2⟩ := HK4.out.cells
        go_upto_region 13 with (go_at_call 21; refine (rest_any AW s.ws.length cW s.ws x HK4.out.call.both.2.2.2 rfl g4 g5 (by omega)).mono ?_; rintro e w5 ⟨v5, rfl, hN⟩; obtain ⟨A5, n5, c5, rfl, hl5, hc5, hm5, hr5, hb5⟩ := hN; have HK5 := hide (HK4.out.step hb5); have HR5 := hide hr5; have HL5 := hide hl5; have HB5 := hide hb5; obtain ⟨z3, z4, z5⟩ := HK5.out.cells; have f4 := HK5.out.frozen 1; clear hl5 hr5 hb5)
        have hqs := HK4.out.q.lt
        have HK6 := hide (HK5.out.set1 (D' := GrowK R w w5) (s' := ⟨dropF s.h n, dropF s.ws x, s.br⟩) (HK5.out.ref.mkW (fun d hd => by
            rcases hd with hd | hd
            · exact .inl hd
            · exact .inr ⟨hd.1, by have := (HK5.out.hD d (.inr hd)).1; omega⟩) (HR5.out.more fun d hd => .inr ⟨by have := hd.1; omega, hd.2⟩) (by have := HL5.out; rw [List.length_map] at this; exact this) hc5 hm5) (fun d hd => by
          rcases hd with hd | hd
          · exact HK5.out.hD d (.inl hd)
          · exact ⟨hd.2, by have := hd.1; omega, by have := hd.1; omega⟩))
        generalize World.setCell w5 ⟨w.heap.size, 1, none⟩ (.slice A5 n5 c5) = w6 at HK6 ⊢
        clear z0 z1 z2 z3 z4 z5 f0 f4 x0
        obtain ⟨z0, z1, z2⟩ := HK6.out.cells
        obtain ⟨y0, y1, y2⟩ := HK6.out.cellsQ
        have f0 := HK6.out.frozenQ 0
        have f1 := HK6.out.frozenQ 1
        have f2 := HK6.out.frozenQ 2
        go_wp2
        obtain ⟨q, r, hb⟩ := HK6.out.done
        have q0 := q.cell 0
        have q1 := q.cell 1
        have q2 := q.cell 2
        simp at q0 q1 q2
        refine bodyPost_ret (v := .tuple #[.agg #[.slice AV (dropF s.h n).length cV, .slice A5 n5 c5, .bool s.br], .bool true]) (by simp [results, Try.results7, go_sem, q0, q1, q2]) rfl ?_
        exact ⟨_, rfl, r.more fun d hd => by
          rcases hd with hd | hd
          · exact .inl hd
          · exact .inr ⟨by have := hd.1; omega, by have := (HK6.out.hD d (.inr hd)).1; simpa using this⟩, hb⟩
  · rw [if_neg e]
    have HN : Hid ((lookF s.h n).isSome = false ∨ (lookF s.h n).isSome = true ∧ ((lookF s.h n).getD 0 != x) = true) := hide (by
      rcases ho : lookF s.h n with _ | y
      · exact .inl rfl
      · exact .inr ⟨rfl, by rw [ho] at e; simpa using e⟩)
    clear h hR hsz e
    generalize (lookF s.h n).isSome = b1 at *
    generalize (lookF s.h n).getD 0 = v1 at *
    rcases HN.out with rfl | ⟨rfl, e1⟩
    all_goals
      go_enter Try.func7, Try.ntmps7
      go_wp2_with (go_at_call 12; refine (HH.out _ HK.out).mono ?_; rintro e w1 ⟨rfl, hb⟩; have HK1 := hide (HK.out.step hb); obtain ⟨z0, z1, z2⟩ := HK1.out.cells; obtain ⟨y0, y1, y2⟩ := HK1.out.cellsQ; have f0 := HK1.out.frozenQ 0; have f1 := HK1.out.frozenQ 1; have f2 := HK1.out.frozenQ 2; clear hb)
      obtain ⟨q, r, hb⟩ := HK1.out.done
      have q0 := q.cell 0
      have q1 := q.cell 1
      have q2 := q.cell 2
      simp at q0 q1 q2
      refine bodyPost_ret (v := .tuple #[.agg #[.slice AH s.h.length cH, .slice AW s.ws.length cW, .bool s.br], .bool false]) (by simp [results, Try.results7, go_sem, q0, q1, q2]) rfl ?_
      exact ⟨_, rfl, r.more fun d hd => .inl hd, hb⟩
end Go.Proofs.Ytknljldmjicfgaa
