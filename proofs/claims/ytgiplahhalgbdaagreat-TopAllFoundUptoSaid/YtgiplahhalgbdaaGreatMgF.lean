/-
  Texts of one part, put together. No condition.
-/
import Derived.Test.YtgiplahhalgbdaaGreatBmP
import Derived.Test.YtgiplahhalgbdaaGreatPrbN
import Derived.Deep.LoopGhost
import Derived.Test.YtgiplahhalgbdaaGreatMgJ
/-
  The package beam: the searcher: offer, look. Conditions: it lies as said, the plane is small.
-/
namespace Go.Proofs.YtgiplahhalgbdaaGreat
set_option linter.unusedSimpArgs false
set_option linter.unusedVariables false
open Go.RowKit

/-- a searcher: its probe, the plane, the cost -/
structure BmW (w : World) (X M Q P S : Nat) (mask ef : Int) (A0 : Option Addr) (c0 : Nat) (qs : List Int) (N : Option Addr) (nn cN : Nat) (en top : Int) (v v2 : Value) (n : Nat) (s : PrS) (cost : Int) (W : World) : Prop where
  pv : PrV w W X M Q P mask ef A0 c0 qs v v2 n s.1 s.2.1 s.2.2
  sb : Blk W S 88 #[.pointer (some ⟨X, 0, none⟩), .slice N nn cN, .int .i64 en, .int .i64 top, .int .i64 cost]
  fs : FreeP W M Q P v v2 S
  hS : w.heap.size ≤ S
  vec : RdR (Sh.int .i32) W (fun d => FreeP W M Q P v v2 d ∧ d ≠ S) A0 qs
section
variable {w W W' : World} {X M Q P S : Nat} {mask ef : Int} {A0 B : Option Addr} {c0 : Nat} {qs : List Int} {N : Option Addr} {nn cN : Nat} {en top : Int} {v v2 v' v2' : Value} {n n' : Nat} {s s' : PrS} {cost : Int}
theorem BmW.turn (h : BmW w X M Q P S mask ef A0 c0 qs N nn cN en top v v2 n s cost W) (hp : PrV w W' X M Q P mask ef A0 c0 qs v' v2' n' s'.1 s'.2.1 s'.2.2) (ht : TurnP W W' M Q P v v2 v' v2') : BmW w X M Q P S mask ef A0 c0 qs N nn cN en top v' v2' n' s' cost W' :=
  ⟨hp, (ht.blk h.sb h.fs).1, (ht.blk h.sb h.fs).2, h.hS, (h.vec.keepBlocks fun d hd => (ht.block d hd.1).1).more fun d hd => ⟨(ht.block d hd.1).2, hd.2⟩⟩
theorem BmW.step (h : BmW w X M Q P S mask ef A0 c0 qs N nn cN en top v v2 n s cost W) (hb : Below W.heap.size W W') : BmW w X M Q P S mask ef A0 c0 qs N nn cN en top v v2 n s cost W' := h.turn (h.pv.step hb) (TurnP.of_below hb)
theorem BmW.more (h : BmW w X M Q P S mask ef A0 c0 qs N nn cN en top v v2 n s cost W) (hn : n ≤ n') : BmW w X M Q P S mask ef A0 c0 qs N nn cN en top v v2 n' s cost W := by
  obtain ⟨⟨m, l, l2, h1, h2, h3, h4, h5, h6, h7⟩, a1, a2, a3, a4⟩ := h
  exact ⟨⟨m, l, l2, h1, h2.more hn, h3, h4, Nat.le_trans h5 hn, Nat.le_trans h6 hn, h7⟩, a1, a2, a3, a4⟩
theorem BmW.xs (h : BmW w X M Q P S mask ef A0 c0 qs N nn cN en top v v2 n s cost W) : X ≠ S := by
  obtain ⟨m, l, l2, h1, h2⟩ := h.pv
  exact h1.x.ne_ h.sb (by decide)
theorem BmW.count (h : BmW w X M Q P S mask ef A0 c0 qs N nn cN en top v v2 n s cost W) (u : Int) : BmW w X M Q P S mask ef A0 c0 qs N nn cN en top v v2 n s u (W.setCell ⟨S, 4, none⟩ (.int .i64 u)) :=
  ⟨h.pv.far h.xs h.fs h.hS h.vec 4 _, by have := h.sb.set_ 4 (.int .i64 u); simpa using this, ⟨by simpa using h.fs.1, h.fs.2⟩, h.hS, (h.vec.keepBlocks fun d hd => Below.heap_setCell W ⟨S, 4, none⟩ _ d hd.2).more fun d hd => ⟨⟨by simpa using hd.1.1, hd.1.2⟩, hd.2⟩⟩
theorem BmW.cells (h : BmW w X M Q P S mask ef A0 c0 qs N nn cN en top v v2 n s cost W) : W.cell? ⟨S, 0, none⟩ = some (.pointer (some ⟨X, 0, none⟩)) ∧ W.cell? ⟨S, 1, none⟩ = some (.slice N nn cN) ∧ W.cell? ⟨S, 2, none⟩ = some (.int .i64 en) ∧ W.cell? ⟨S, 3, none⟩ = some (.int .i64 top) ∧ W.cell? ⟨S, 4, none⟩ = some (.int .i64 cost) := by
  have c0 := h.sb.cell 0
  have c1 := h.sb.cell 1
  have c2 := h.sb.cell 2
  have c3 := h.sb.cell 3
  have c4 := h.sb.cell 4
  simp at c0 c1 c2 c3 c4
  exact ⟨c0, c1, c2, c3, c4⟩
/-- what may have turned: the probe, the searcher -/
structure TurnB (w w' : World) (M Q P S : Nat) (v v2 u u2 : Value) : Prop where
  size : w.heap.size ≤ w'.heap.size
  block : ∀ d, FreeP w M Q P v v2 d → d ≠ S → w'.heap[d]? = w.heap[d]? ∧ FreeP w' M Q P u u2 d
theorem TurnP.toB (h : TurnP W W' M Q P v v2 v' v2') : TurnB W W' M Q P S v v2 v' v2' := ⟨h.size, fun d hd _ => h.block d hd⟩
theorem TurnB.trans {W'' : World} {u u2 : Value} (h : TurnB W W' M Q P S v v2 v' v2') (k : TurnB W' W'' M Q P S v' v2' u u2) : TurnB W W'' M Q P S v v2 u u2 :=
  ⟨Nat.le_trans h.size k.size, fun d hd hs => ⟨(k.block d (h.block d hd hs).2 hs).1.trans (h.block d hd hs).1, (k.block d (h.block d hd hs).2 hs).2⟩⟩
theorem TurnB.set (i : Nat) (u : Value) : TurnB W (W.setCell ⟨S, i, none⟩ u) M Q P S v v2 v v2 := ⟨by simp, fun d hd hs => ⟨Below.heap_setCell _ _ _ _ hs, ⟨by simpa using hd.1, hd.2⟩⟩⟩
theorem TurnB.rdS {α : Type} {Z : Sh α} {xs : List α} (h : TurnB W W' M Q P S v v2 v' v2') (hx : RdR Z W (fun d => FreeP W M Q P v v2 d ∧ d ≠ S) B xs) : RdR Z W' (fun d => FreeP W' M Q P v' v2' d ∧ d ≠ S) B xs :=
  (hx.keepBlocks fun d hd => (h.block d hd.1 hd.2).1).more fun d hd => ⟨(h.block d hd.1 hd.2).2, hd.2⟩
/-- lists beside the searcher -/
theorem TurnP.rdS {α : Type} {Z : Sh α} {xs : List α} (h : TurnP W W' M Q P v v2 v' v2') (hx : RdR Z W (fun d => FreeP W M Q P v v2 d ∧ d ≠ S) B xs) : RdR Z W' (fun d => FreeP W' M Q P v' v2' d ∧ d ≠ S) B xs :=
  (hx.keepBlocks fun d hd => (h.block d hd.1).1).more fun d hd => ⟨(h.block d hd.1).2, hd.2⟩
theorem oldAtB {α : Type} {Z : Sh α} {w w1 w2 : World} {B : Option Addr} {xs : List α} (h1 : Below w.heap.size w w2) (hv : RdR Z w (fun d => d < w.heap.size) B xs) : RdR Z w2 (fun d => d < w.heap.size) B xs := hv.keepBlocks fun d hd => h1.block d hd
theorem PrV.oldB {α : Type} {Z : Sh α} {xs : List α} {kn : List Int} {wt bs : List Spt} (h : PrV w W X M Q P mask ef A0 c0 qs v v2 n kn wt bs) (hx : RdR Z W (fun d => d < w.heap.size) B xs) : RdR Z W (FreeP W M Q P v v2) B xs := hx.more fun d hd => h.old hd
theorem item_at {ns : List NodeP} {m : Nat} {x : NodeP} (h : ns[m]? = some x) : itemF ns (m : Int) = x.1 := by
  have hk := (List.getElem?_eq_some_iff.1 h).1
  unfold itemF
  rw [if_pos ⟨by omega, by omega⟩, show ((m : Int)).toNat = m by omega, h]; rfl
set_option maxHeartbeats 8000000 in
set_option maxRecDepth 100000 in
theorem bOfferL_any {ns : List NodeP} {Aq : Option Addr} {nq cq : Nat} (hpl : PlW w N nn ns Aq nq cq qs) (h : BmW w X M Q P S mask ef A0 c0 qs N nn cN en top v v2 n s cost W) (Al : Option Addr) (nl cl : Nat) (l : List Int) (hl : RdR (Sh.int .i64) W (fun d => FreeP W M Q P v v2 d ∧ d ≠ S) Al l) (hnl : l.length = nl) (hn6 : n + nl ≤ 1000) :
    Calls Tryz.prog 58 #[.pointer (some ⟨S, 0, none⟩), .slice Al nl cl] W fun e w' => e = .returned (.tuple #[]) ∧ ∃ v' v2', BmW w X M Q P S mask ef A0 c0 qs N nn cN en top v' v2' (n + nl) (offL ns qs mask (mostB ef) s l) cost w' ∧ TurnP W w' M Q P v v2 v' v2' := by
  have HPl := hide hpl
  have Hnl := hide hnl
  have h20 : nn ≤ 20 := hpl.n20
  have HB0 := hide h
  have HR0 := hide hl
  have HT0 := hide (TurnP.of_below (Below.refl W.heap.size W) : TurnP W W M Q P v v2 v v2)
  clear hpl h hl hnl
  go_enter Tryz.func58, Tryz.ntmps58
  go_wp2
  go_loopw [5, 8] (fun _ i wr => ∃ (k : Nat) (u u2 : Value), k ≤ nl ∧ i = .int .i64 k ∧ Hid (BmW w X M Q P S mask ef A0 c0 qs N nn cN en top u u2 (n + k) (offL ns qs mask (mostB ef) s (l.take k)) cost wr) ∧ Hid (RdR (Sh.int .i64) wr (fun d => FreeP wr M Q P u u2 d ∧ d ≠ S) Al l) ∧ Hid (TurnP W wr M Q P v v2 u u2)) (fun _ i _ => nl - (intOf i).toNat)
  case atStart => exact ⟨0, v, v2, by omega, rfl, HB0, HR0, HT0⟩
  case round =>
    obtain ⟨k, u, u2, hk, rfl, HB, HR, HT⟩ := hrel
    clear HB0 HR0 HT0
    by_cases hlt : k < nl
    · obtain ⟨ad, y, rfl, _, hv, q0⟩ := RdR.cell HR.out (k := k) (by have := Hnl.out; omega)
      have g0 : (0 : Int) ≤ k := by omega
      have g1 : (k : Int) < nl := by omega
      have HV := hide hv
      obtain ⟨c0_, c1, c2, c3, c4⟩ := HB.out.cells
      have hsn := hide (show offL ns qs mask (mostB ef) s (l.take (k + 1)) = offS ns qs mask (mostB ef) (offL ns qs mask (mostB ef) s (l.take k)) y by rw [take_snocW hv, offL_snoc])
      have CT := hide (fun (W2 : World) (hb : Below w.heap.size w W2) => there_any (nn := nn) (cN := cN) (en := en) (top := top) (HPl.out.at_ hb).nd HPl.out.len y)
      clear hv
      rcases ht : thereF ns y with _ | _
      · rw [ht] at CT
        have HF := hide (show offL ns qs mask (mostB ef) s (l.take (k + 1)) = offL ns qs mask (mostB ef) s (l.take k) by rw [hsn.out]; unfold offS; rw [ht]; rfl)
        clear ht
        go_wp2_with (go_at_call 17; refine (CT.out _ HB.out.pv.bel).mono ?_; rintro e w2 ⟨rfl, hb⟩; have HB2 := hide (HB.out.step hb); have HR2 := hide ((TurnP.of_below hb).rdS HR.out); have HT2 := hide (HT.out.trans (TurnP.of_below hb)); clear hb)
        go_roundw
        case rel => exact ⟨k + 1, u, u2, by omega, by go_num, hide (HF.out ▸ HB2.out.more (by omega)), HR2, HT2⟩
        case measure => simp [intOf]; omega
      · rw [ht] at CT
        have hrg := there_lt ht
        obtain ⟨m, rfl⟩ : ∃ m : Nat, y = m := ⟨y.toNat, by omega⟩
        have hm : m < ns.length := by omega
        obtain ⟨aN, x, V, cV, L, cL, hN, hbl, hkx, hc⟩ := HPl.out.nd.node (k := m) hm
        subst hN
        have HIt := hide (item_at hkx)
        have HVI := hide (HPl.out.ok x (List.mem_of_getElem? hkx)).v
        obtain ⟨⟨id, vs, tg⟩, lv, ls, nx, pv⟩ := x
        have HF := hide (show offL ns qs mask (mostB ef) s (l.take (k + 1)) = (offKn (offL ns qs mask (mostB ef) s (l.take k)).1 (m : Int), offWt (offL ns qs mask (mostB ef) s (l.take k)).1 (offL ns qs mask (mostB ef) s (l.take k)).2.1 ((distOf qs vs, id), (m : Int)), offBs (mostB ef) (hasB mask tg) (offL ns qs mask (mostB ef) s (l.take k)).1 (offL ns qs mask (mostB ef) s (l.take k)).2.2 ((distOf qs vs, id), (m : Int))) by
          rw [hsn.out]
          unfold offS
          rw [if_pos ht]
          unfold spotF
          rw [HIt.out])
        have hwf : (Lit.int .i64 (m : Int)).wf = true := wfI (by have := HPl.out.len; omega)
        have hba : (aN.add (m * 7)).block = aN.block := block_of_add _ _
        have HC := hide hc
        have HNx := hide hbl
        have m0 : (0 : Int) ≤ m := by omega
        have m1 : (m : Int) < nn := by have := HPl.out.len; omega
        have u1 : vs.length ≤ cV := hc.v1
        have u2' : cV ≤ 9223372036854775807 := hc.v2
        clear ht hc hbl hkx hrg hsn
        go_upto_region 4 with (go_at_call 17; refine (CT.out _ HB.out.pv.bel).mono ?_; rintro e w2 ⟨rfl, hb⟩; have HB2 := hide (HB.out.step hb); have HR2 := hide ((TurnP.of_below hb).rdS HR.out); have HT2 := hide (HT.out.trans (TurnP.of_below hb)); clear hb)
        clear c0_ c1 c2 c3 c4 HB HR HT q0
        obtain ⟨c0_, c1, c2, c3, c4⟩ := HB2.out.cells
        have d0 := (HB2.out.pv.bel.cell (p := aN.add (m * 7)) (by rw [hba]; exact HNx.out)).trans HC.out.c0
        have d1 := (HB2.out.pv.bel.cell (p := ⟨(aN.add (m * 7)).block, (aN.add (m * 7)).off + 1, none⟩) (by show (aN.add (m * 7)).block < _; rw [hba]; exact HNx.out)).trans HC.out.c1
        have d2 := (HB2.out.pv.bel.cell (p := ⟨(aN.add (m * 7)).block, (aN.add (m * 7)).off + 2, none⟩) (by show (aN.add (m * 7)).block < _; rw [hba]; exact HNx.out)).trans HC.out.c2
        simp only at d0 d1 d2
        have HD := hide (HB2.out.step (Below.refl _ _).drew)
        have HRd := hide ((TurnP.of_below (Below.refl _ _).drew).rdS HR2.out)
        have HTd := hide (HT2.out.trans (TurnP.of_below (Below.refl _ _).drew))
        have CO := hide (vOffer HD.out.pv (by omega) hwf id tg V vs.length cV vs (HD.out.pv.oldB (oldAtB (w1 := w) HD.out.pv.bel HC.out.v)) rfl u1 u2' HVI.out HPl.out.qi)
        clear HB2 HR2 HT2 hba
        go_region_law ((go_simp; go_at_call 74; refine CO.out.mono ?_; rintro e w6 ⟨rfl, v6, v62, hp6, ht6⟩; have HB6 := hide (HD.out.turn (s' := (_, _, _)) hp6 ht6); have HR6 := hide (ht6.rdS HRd.out); have HT6 := hide (HTd.out.trans ht6); clear hp6 ht6 c0_ c1 c2 c3 c4 d0 d1 d2 CO HD HRd HTd))
        all_goals
          go_wp2
          go_roundw
          case rel => exact ⟨k + 1, v6, v62, by omega, by go_num, hide (HF.out ▸ HB6.out), HR6, HT6⟩
          case measure => simp [intOf]; omega
    · obtain rfl : nl = k := by omega
      have HF := hide (show l.take nl = l from List.take_of_length_le (by have := Hnl.out; omega))
      go_wp2
      go_end0
      exact ⟨rfl, u, u2, by rw [← HF.out]; exact HB.out, HT.out⟩
end
end Go.Proofs.YtgiplahhalgbdaaGreat

/-
  The package beam: look. Conditions: the searcher lies as said, the plane is small.
-/
namespace Go.Proofs.YtgiplahhalgbdaaGreat
set_option linter.unusedSimpArgs false
set_option linter.unusedVariables false
open Go.RowKit

/-- what was popped -/
def popS (b : Bool) (s : PrS) : PrS := if b = true then (s.1, s.2.1.drop 1, s.2.2) else s
section
variable {w W W' : World} {X M Q P S : Nat} {mask ef : Int} {A0 : Option Addr} {c0 : Nat} {qs : List Int} {N : Option Addr} {nn cN : Nat} {en top : Int} {v v2 : Value} {n : Nat} {s : PrS} {cost : Int}
/-- the probe is asked -/
theorem bWant_any (h : BmW w X M Q P S mask ef A0 c0 qs N nn cN en top v v2 n s cost W) (hn : n ≤ 1000) : Calls Tryz.prog 78 #[.pointer (some ⟨X, 0, none⟩)] W fun e w' => ∃ (b : Bool) (z : Int) (v' : Value), e = .returned (.tuple #[.int .i64 z, .bool b]) ∧ doneR (mostB ef) s.2.1 s.2.2 = !b ∧ (b = true → z = (fstS s.2.1).2) ∧ BmW w X M Q P S mask ef A0 c0 qs N nn cN en top v' v2 n (popS b s) cost w' ∧ TurnP W w' M Q P v v2 v' v2 := by
  refine (vWant h.pv hn).mono ?_
  rintro e w' (⟨hd, rfl, hp, ht⟩ | ⟨hd, rfl, v', hp, ht⟩)
  · exact ⟨false, 0, v, rfl, hd, (fun e => by cases e), h.turn (s' := s) hp ht, ht⟩
  · exact ⟨true, _, v', rfl, hd, fun _ => rfl, h.turn (s' := (s.1, s.2.1.drop 1, s.2.2)) hp ht, ht⟩
set_option maxHeartbeats 8000000 in
set_option maxRecDepth 100000 in
theorem bLook_any {ns : List NodeP} {Aq : Option Addr} {nq cq : Nat} (hpl : PlW w N nn ns Aq nq cq qs) (h : BmW w X M Q P S mask ef A0 c0 qs N nn cN en top v v2 n s cost W) (level : Int) (hn6 : n + 20 * lookM ns s ≤ 1000) (hc : 0 ≤ cost ∧ cost ≤ 1000) :
    Calls Tryz.prog 60 #[.pointer (some ⟨S, 0, none⟩), .int .i64 level] W fun e w' => e = .returned (.tuple #[]) ∧ ∃ v' v2' n' t c, LookR ns qs mask (mostB ef) level s t c ∧ n' ≤ 1000 ∧ BmW w X M Q P S mask ef A0 c0 qs N nn cN en top v' v2' n' t (cost + (c : Int)) w' ∧ TurnB W w' M Q P S v v2 v' v2' := by
  have HPl := hide hpl
  have HB0 := hide h
  have h20 : nn ≤ 20 := hpl.n20
  have HLM := hide (show lookM ns s ≤ 1000 by omega)
  have Hc := hide hc
  have Hn := hide hn6
  have hn0 : n ≤ 1000 := by omega
  obtain ⟨e0, e1, e2, e3, e4⟩ := h.cells
  clear hpl h hc
  go_enter Tryz.func60, Tryz.ntmps60
  go_wp2_with (go_at_call 78; refine (bWant_any HB0.out hn0).mono ?_; rintro e w1 ⟨b, z, v', rfl, hd, hz, hB, hT⟩; have HD := hide hd; have HZ := hide hz; have HB := hide hB; have HT := hide (TurnP.toB (S := S) hT); clear hd hz hB hT)
  clear e0 e1 e2 e3 e4 HB0
  go_loopg [4, 5] (lookM ns s + 1) (fun gk z is wr => ∃ (st : PrS) (b : Bool) (zz : Int) (n1 c : Nat) (u u2 : Value), z = .int .i64 zz ∧ is = .bool b ∧ gk = lookM ns st + 1 ∧ n1 ≤ 1000 ∧ Hid (doneR (mostB ef) st.2.1 st.2.2 = !b) ∧ Hid (b = true → zz = (fstS st.2.1).2) ∧ Hid (n1 + 20 * lookM ns st ≤ 1000 ∧ c + lookM ns st ≤ 1000) ∧ Hid (∀ t k, LookR ns qs mask (mostB ef) level st t k → LookR ns qs mask (mostB ef) level s t (k + c)) ∧ Hid (BmW w X M Q P S mask ef A0 c0 qs N nn cN en top u u2 n1 (popS b st) (cost + (c : Int)) wr) ∧ Hid (TurnB W wr M Q P S v v2 u u2))
  case atStart => exact ⟨s, b, z, n, 0, v', v2, rfl, rfl, rfl, hn0, HD, HZ, hide ⟨Hn.out, by have := HLM.out; omega⟩, hide (fun t k h => h), by rw [show cost + ((0 : Nat) : Int) = cost by omega]; exact HB, HT⟩
  case round =>
    obtain ⟨st, b, zz, n1, c, u, u2, rfl, rfl, rfl, hn1, HD1, HZ1, HN1, HL1, HB1, HT1⟩ := hrel
    clear HB HT HD HZ
    rcases b with _ | _
    · have HL2 := hide (HL1.out st 0 (LookR.stop st HD1.out))
      go_wp2
      go_end0
      exact ⟨rfl, u, u2, n1, st, c, by have h := HL2.out; rwa [Nat.zero_add] at h, hn1, HB1.out, HT1.out⟩
    · obtain ⟨e0, e1, e2, e3, e4⟩ := HB1.out.cells
      have Hz : zz = (fstS st.2.1).2 := HZ1.out rfl
      subst Hz
      obtain ⟨zs, hzs⟩ : ∃ y, (fstS st.2.1).2 = y := ⟨_, rfl⟩
      have HZs := hide hzs
      rw [hzs]
      have f4 := HB1.out.sb.frozen 4
      have hcw : IntKind.i64.wrap (cost + (c : Int) + 1) = cost + (c : Int) + 1 := IntWalk.i64_in _ (by have := Hc.out; have := HN1.out.2; omega)
      clear hzs
      go_upto_region 4 with fail
      have HB2 := hide (HB1.out.count (cost + (c : Int) + 1))
      have HT2 := hide (HT1.out.trans (TurnB.set 4 (.int .i64 (cost + (c : Int) + 1))))
      clear e0 e1 e2 e3 e4 f4 HB1 HT1
      generalize World.setCell wr _ _ = w3 at *
      obtain ⟨e0, e1, e2, e3, e4⟩ := HB2.out.cells
      have HNl := hide (near_len ns zs level)
      go_upto_region 2 with (first
        | (go_at_call 59; refine (near_any (cN := cN) (en := en) (top := top) (HPl.out.at_ HB2.out.pv.bel).nd HPl.out.len HPl.out.ok HPl.out.sm zs level).mono ?_; rintro e w4 ⟨An, m5, c5, rfl, k1, k2, k3, hr5, hb5⟩; have Hk1 := hide k1; have HB4 := hide (HB2.out.step hb5); have HT4 := hide (HT2.out.trans (TurnP.toB (TurnP.of_below hb5))); have HR4 := hide (show RdR (Sh.int .i64) w4 (fun d => FreeP w4 M Q P u u2 d ∧ d ≠ S) An (nearF ns zs level) from hr5.more fun d hd => ⟨HB2.out.pv.new hd.1 hd.2, by have := HB2.out.sb.lt; have := hd.1; omega⟩); clear k1 hr5 hb5)
        | (go_at_call 58; refine (bOfferL_any HPl.out HB4.out An m5 c5 (nearF ns zs level) HR4.out Hk1.out (by have := HN1.out.1; have := Hk1.out; have := HNl.out; have := HPl.out.len; have := look_pos (ns := ns) HD1.out; omega)).mono ?_; rintro e w6 ⟨rfl, u6, u62, hB6, hT6⟩; have HB6 := hide hB6; have HT6 := hide (HT4.out.trans (TurnP.toB hT6)); clear hB6 hT6))
      clear e0 e1 e2 e3 e4 HB2 HT2
      have hm5 : m5 ≤ 20 := by have := Hk1.out; have := HNl.out; have := HPl.out.len; omega
      obtain ⟨s6, hs6⟩ : ∃ y, offL ns qs mask (mostB ef) (popS true st) (nearF ns zs level) = y := ⟨_, rfl⟩
      have hlt : lookM ns s6 < lookM ns st := by rw [← hs6]; exact look_less HD1.out _
      have HL6 := hide (show ∀ t k, LookR ns qs mask (mostB ef) level s6 t k → LookR ns qs mask (mostB ef) level st t (k + 1) from fun t k h => LookR.more st t k HD1.out (by rw [HZs.out]; show LookR ns qs mask (mostB ef) level (offL ns qs mask (mostB ef) (popS true st) (nearF ns zs level)) t k; rw [hs6]; exact h))
      rw [hs6] at HB6
      have hn16 : n1 + m5 ≤ 1000 := by have := HN1.out.1; omega
      have Hlt := hide hlt
      clear hs6 hlt
      obtain ⟨e0, e1, e2, e3, e4⟩ := HB6.out.cells
      go_wp2_with (go_at_call 78; refine (bWant_any HB6.out hn16).mono ?_; rintro e w7 ⟨b7, z7, v7, rfl, hd, hz, hB, hT⟩; have HD7 := hide hd; have HZ7 := hide hz; have HB7 := hide hB; have HT7 := hide (HT6.out.trans (TurnP.toB hT)); clear hd hz hB hT)
      go_roundg (lookM ns s6 + 1)
      case measure => have := Hlt.out; omega
      case rel => exact ⟨s6, b7, z7, n1 + m5, c + 1, v7, u62, rfl, rfl, rfl, hn16, HD7, HZ7, hide ⟨by have := HN1.out.1; have := Hlt.out; omega, by have := HN1.out.2; have := Hlt.out; omega⟩, hide (fun t k h => by rw [show k + (c + 1) = k + 1 + c by omega]; exact HL1.out t (k + 1) (HL6.out t k h)), by rw [show cost + ((c + 1 : Nat) : Int) = cost + (c : Int) + 1 by omega]; exact HB7, HT7⟩
end
end Go.Proofs.YtgiplahhalgbdaaGreat

/-
  The package beam: find, Around, Find, Cost. Conditions: a small plane and a vector lie as said.
-/
namespace Go.Proofs.YtgiplahhalgbdaaGreat
set_option linter.unusedSimpArgs false
set_option linter.unusedVariables false
open Go.RowKit

/-- where a search begins -/
def StartR (ns : List NodeP) (q : List Int) (en top : Int) (l : List Int) : Prop := ∃ d, (if thereF ns en = true then DownR ns q (lvN top) en d ∧ l = d :: nearF ns 0 0 else l = nearF ns 0 0)
def noS : PrS := ([], [], [])
/-- the plane's variable -/
structure FdW (w : World) (b4 : Nat) (cs : Array Value) (W : World) : Prop where
  bel : Below w.heap.size w W
  pl : Blk W b4 24 cs
theorem FdW.step {w W W' : World} {b4 : Nat} {cs : Array Value} (h : FdW w b4 cs W) (hb : Below W.heap.size W W') : FdW w b4 cs W' := ⟨Below.step h.bel hb, h.pl.below hb h.pl.lt⟩
section
variable {w W : World} {X M Q P : Nat} {mask ef : Int} {A0 : Option Addr} {c0 : Nat} {qs : List Int} {N : Option Addr} {nn cN : Nat} {en top : Int} {v v2 : Value} {n : Nat}
theorem BmW.start (hp : PrV w W X M Q P mask ef A0 c0 qs v v2 n [] [] []) (N : Option Addr) (nn cN : Nat) (en top : Int) : BmW w X M Q P W.heap.size mask ef A0 c0 qs N nn cN en top v v2 n noS 0 (W.alloc (.cells #[.pointer (some ⟨X, 0, none⟩), .slice N nn cN, .int .i64 en, .int .i64 top, .int .i64 0] 88)) := by
  have hb := below1 W (.cells #[.pointer (some ⟨X, 0, none⟩), .slice N nn cN, .int .i64 en, .int .i64 top, .int .i64 0] 88)
  have ht : TurnP W (W.alloc (.cells #[.pointer (some ⟨X, 0, none⟩), .slice N nn cN, .int .i64 en, .int .i64 top, .int .i64 0] 88)) M Q P v v2 v v2 := TurnP.of_below hb
  exact ⟨hp.step hb, Blk.new _ _ _, hp.new (Nat.le_refl _) (by simp), hp.bel.size, (hp.vec.below hb fun d hd => hd.1).more fun d hd => ⟨(ht.block d hd).2, by have := hd.1; omega⟩⟩
theorem BmW.fd {w1 : World} {S b4 : Nat} {s : PrS} {cost : Int} {cs : Array Value} (h : BmW w1 X M Q P S mask ef A0 c0 qs N nn cN en top v v2 n s cost W) (hF : FdW w b4 cs w1) : FdW w b4 cs W := ⟨Below.step hF.bel h.pv.bel, hF.pl.below h.pv.bel hF.pl.lt⟩
theorem lookM_no (ns : List NodeP) : lookM ns noS ≤ ns.length := by
  have := unkN_le ns []
  unfold lookM noS
  simpa using this
/-- what find gives -/
def GivesFd (ns : List NodeP) (qs : List Int) (mask ef : Int) (N : Option Addr) (nn cN : Nat) (en top : Int) (w : World) (e : Ending) (w' : World) : Prop :=
  ∃ (w0 : World) (X M Q P S : Nat) (A0 : Option Addr) (c0 : Nat) (v v2 : Value) (n : Nat) (l : List Int) (t : PrS) (c : Nat), e = .returned (.pointer (some ⟨S, 0, none⟩)) ∧ Below w.heap.size w w0 ∧ StartR ns qs en top l ∧ LookR ns qs mask (mostB ef) 0 (offL ns qs mask (mostB ef) noS l) t c ∧ n ≤ 1000 ∧ BmW w0 X M Q P S mask ef A0 c0 qs N nn cN en top v v2 n t (c : Int) w'
set_option maxHeartbeats 8000000 in
set_option maxRecDepth 100000 in
theorem find_any {ns : List NodeP} {Aq : Option Addr} {nq cq : Nat} (hpl : PlW w N nn ns Aq nq cq qs) (hq6 : nq ≤ 35184372088832) :
    Calls Tryz.prog 41 #[.agg #[.slice N nn cN, .int .i64 en, .int .i64 top], .slice Aq nq cq, .int .u64 mask, .int .i64 ef] w (GivesFd ns qs mask ef N nn cN en top w) := by
  have hb1 := below1 w (.cells #[.slice N nn cN, .int .i64 en, .int .i64 top] 24)
  have HF := hide (show FdW w w.heap.size #[.slice N nn cN, .int .i64 en, .int .i64 top] (w.alloc (.cells #[.slice N nn cN, .int .i64 en, .int .i64 top] 24)) from ⟨hb1, Blk.new _ _ _⟩)
  have HPl := hide hpl
  have h20 : nn ≤ 20 := hpl.n20
  clear hpl hb1
  go_enter Tryz.func41, Tryz.ntmps41
  go_upto_region 1 with fail
  generalize World.alloc w _ = w1 at *
  obtain ⟨b4, hb4⟩ : ∃ b, w.heap.size = b := ⟨_, rfl⟩
  rw [hb4] at HF
  rw [hb4]
  have Hb4 := hide hb4
  clear hb4
  refine startO (S := (fun W => FdW w b4 #[.slice N nn cN, .int .i64 en, .int .i64 top] W)) 8 (by as_aux_lemma => kernel_rfl) (by as_aux_lemma => kernel_rfl) (HF.out.step (Below.refl _ _).drew) (fun hHeld => ?_)
  have HBd := hide (HF.out.step (Below.refl _ _).drew).bel
  have HF0 := hide (HF.out.step (Below.refl _ _).drew)
  clear HF
  generalize World.drew _ = Wd at *
  refine putsO [0, 1, 2] [2, 1, 0] [(14, .int .i64 ef), (13, .int .u64 mask), (12, .slice Aq nq cq)] 3 rfl [12, 13, 14] (by as_aux_lemma => kernel_rfl) (by as_aux_lemma => kernel_rfl) rfl (fun _ _ _ _ _ h => h) hHeld ?_
  refine takeO 4 16 (.load 24 (.const (.pointer (some ⟨b4, 0, none⟩)))) 24 (.agg #[.slice N nn cN, .int .i64 en, .int .i64 top]) (by as_aux_lemma => kernel_rfl) (by as_aux_lemma => kernel_rfl) (by as_aux_lemma => kernel_rfl) (fun _ _ _ _ _ h => h) (fun W hS => by have z0 := hS.pl.cell 0; have z1 := hS.pl.cell 1; have z2 := hS.pl.cell 2; simp at z0 z1 z2; clear hS hHeld; unfold cEv opC; as_aux_lemma => first | (go_simp; done) | (go_simp <;> rfl)) hHeld ?_
  refine readyO [3] (by as_aux_lemma => kernel_rfl) (by simp) ?_
  refine callO 3 15 (.call { callee := .value (.func 56), args := #[.const (.slice Aq nq cq), .const (.int .u64 mask), .const (.int .i64 ef)], argTypes := #[25, 26, 3] }) 86 56 #[.slice Aq nq cq, .int .u64 mask, .int .i64 ef] (by as_aux_lemma => kernel_rfl) (by as_aux_lemma => kernel_rfl) (by unfold cEv opC; go_simp) ?_ AllReadyH.nil
  refine (vNew_any Aq nq cq qs mask ef _ (HPl.out.at_ hHeld.bel).q HPl.out.lq hq6).mono ?_
  rintro e w5 ⟨X, M, Q, P, A0, c0, rfl, hX, hp⟩
  refine ⟨_, rfl, (hHeld.step hp.bel), fun hHeld2 => ?_⟩
  clear hHeld
  have hHeld := hHeld2
  clear hHeld2
  have HP0 := hide hp
  clear hp hX
  refine takeO 5 17 (.build 88 #[(0, .const (.pointer (some ⟨X, 0, none⟩))), (1, .const (.agg #[.slice N nn cN, .int .i64 en, .int .i64 top]))]) 88 (.agg #[.pointer (some ⟨X, 0, none⟩), .slice N nn cN, .int .i64 en, .int .i64 top, .int .i64 0]) (by as_aux_lemma => kernel_rfl) (by as_aux_lemma => kernel_rfl) (by as_aux_lemma => kernel_rfl) (fun _ _ _ _ _ h => h) (fun W hS => by clear hS hHeld; unfold cEv opC; as_aux_lemma => first | (go_simp; done) | (go_simp <;> rfl)) hHeld ?_
  refine readyO [6] (by as_aux_lemma => kernel_rfl) (by simp) ?_
  refine memO 6 18 (.box 88 (.const (.agg #[.pointer (some ⟨X, 0, none⟩), .slice N nn cN, .int .i64 en, .int .i64 top, .int .i64 0]))) 83 (.pointer (some ⟨w5.heap.size, 0, none⟩)) (w5.alloc (.cells #[.pointer (some ⟨X, 0, none⟩), .slice N nn cN, .int .i64 en, .int .i64 top, .int .i64 0] 88)) (by as_aux_lemma => kernel_rfl) (by as_aux_lemma => kernel_rfl) (by unfold cEv opC; go_simp) (hHeld.step (below1 _ _)) (fun hHeld2 => ?_) AllReadyH.nil
  clear hHeld
  have hHeld := hHeld2
  clear hHeld2
  have HBm := hide (BmW.start HP0.out N nn cN en top)
  clear HP0
  generalize World.alloc w5 (.cells #[.pointer (some ⟨X, 0, none⟩), .slice N nn cN, .int .i64 en, .int .i64 top, .int .i64 0] 88) = w6 at *
  obtain ⟨S, hS0⟩ : ∃ S, w5.heap.size = S := ⟨_, rfl⟩
  rw [hS0] at HBm
  rw [hS0]
  clear hS0
  refine putsO [7] [7] [(9, .pointer (some ⟨S, 0, none⟩))] 1 rfl [9] (by as_aux_lemma => kernel_rfl) (by as_aux_lemma => kernel_rfl) rfl (fun _ _ _ _ _ h => h) hHeld ?_
  refine doneO [(9, .pointer (some ⟨S, 0, none⟩)), (2, .slice Aq nq cq), (0, .int .u64 mask), (0, .int .i64 ef), (0, .pointer (some ⟨X, 0, none⟩)), (0, .agg #[.slice N nn cN, .int .i64 en, .int .i64 top]), (0, .agg #[.pointer (some ⟨X, 0, none⟩), .slice N nn cN, .int .i64 en, .int .i64 top, .int .i64 0]), (0, .pointer (some ⟨S, 0, none⟩))] (by as_aux_lemma => kernel_rfl) (by as_aux_lemma => kernel_rfl) ?_
  simp only [fillG]
  have HFd := hide hHeld
  clear hHeld
  have p0 := HFd.out.pl.cell 0
  have p1 := HFd.out.pl.cell 1
  have p2 := HFd.out.pl.cell 2
  simp at p0 p1 p2
  go_upto_region 3 with (go_at_call 57; refine (wDown_any (HPl.out.at_ HFd.out.bel) (cN := cN) (en := en) (top := top)).mono ?_; rintro e w7 ⟨d, rfl, hd, hb7⟩; have HDn := hide hd; have HB7 := hide (HBm.out.step hb7); have HF7 := hide (HFd.out.step hb7); clear hd hb7)
  clear p0 p1 p2 HBm HFd
  have HLM := hide (lookM_no ns)
  have Hln := hide HPl.out.len
  rcases ht : thereF ns en with _ | _
  · have HSt := hide (show StartR ns qs en top (nearF ns 0 0) from ⟨0, by rw [ht, if_neg (by simp)]⟩)
    clear ht
    have p0 := HF7.out.pl.cell 0
    have p1 := HF7.out.pl.cell 1
    have p2 := HF7.out.pl.cell 2
    simp at p0 p1 p2
    have HNl := hide (near_len ns 0 0)
    go_wp2_with (first
      | (go_at_call 59; refine (near_any (cN := cN) (en := en) (top := top) (HPl.out.at_ HF7.out.bel).nd HPl.out.len HPl.out.ok HPl.out.sm 0 0).mono ?_; rintro e w8 ⟨An, m5, c5, rfl, k1, k2, k3, hr5, hb5⟩; have Hk1 := hide k1; have HB8 := hide (HB7.out.step hb5); have HR8 := hide (show RdR (Sh.int .i64) w8 (fun d => FreeP w8 M Q P (.slice none 0 0) (.slice none 0 0) d ∧ d ≠ S) An (nearF ns 0 0) from hr5.more fun d hd => ⟨HB7.out.pv.new hd.1 hd.2, by have := HB7.out.sb.lt; have := hd.1; omega⟩); clear k1 hr5 hb5)
      | (go_at_call 58; refine (bOfferL_any (HPl.out.at_ HBd.out) HB8.out An m5 c5 (nearF ns 0 0) HR8.out Hk1.out (by have := Hk1.out; have := HNl.out; have := Hln.out; omega)).mono ?_; rintro e w9 ⟨rfl, v9, v92, hB9, hT9⟩; have HB9 := hide hB9; clear hB9 hT9)
      | (go_at_call 60; refine (bLook_any (HPl.out.at_ HBd.out) HB9.out 0 (by have h1 := offL_le (ns := ns) (q := qs) (mask := mask) (K := mostB ef) (nearF ns 0 0) noS; have h2 := Nat.le_refl (lookM ns noS); have := HLM.out; have := Hk1.out; have := HNl.out; have := Hln.out; omega) (by omega)).mono ?_; rintro e wa ⟨rfl, va, va2, na, t, c, hLk, hna, hBa, hTa⟩; have HLk := hide hLk; have HBa := hide hBa; have Hna := hide hna; clear hLk hBa hTa hna))
    go_ret
    exact ⟨Wd, X, M, Q, P, S, A0, c0, va, va2, na, _, t, c, rfl, HBd.out, HSt.out, HLk.out, Hna.out, by have h := HBa.out; rwa [Int.zero_add] at h⟩
  · have HSt := hide (show StartR ns qs en top (d :: nearF ns 0 0) from ⟨d, by have h := HDn.out; rw [ht, if_pos rfl] at h; rw [ht, if_pos rfl]; exact ⟨h, rfl⟩⟩)
    clear ht
    have q0 := HF7.out.pl.cell 0
    have HLit := hide (HB7.out.step (below1 w7 (.cells #[.int .i64 d] 3)))
    have HRl := hide (show RdR (Sh.int .i64) (w7.alloc (.cells #[.int .i64 d] 3)) (fun z => FreeP (w7.alloc (.cells #[.int .i64 d] 3)) M Q P (.slice none 0 0) (.slice none 0 0) z ∧ z ≠ S) (some ⟨w7.heap.size, 0, none⟩) [d] from (flatI.mk_ (R := fun z => FreeP (w7.alloc (.cells #[.int .i64 d] 3)) M Q P (.slice none 0 0) (.slice none 0 0) z ∧ z ≠ S) (ad := ⟨w7.heap.size, 0, none⟩) ⟨HB7.out.pv.new (Nat.le_refl _) (by simp), by have := HB7.out.sb.lt; show w7.heap.size ≠ S; omega⟩ fun j u hu => by
      have hg := Blk.new w7 3 #[.int .i64 d]
      rw [add_mk, hg.cell, Nat.zero_add]
      rcases j with _ | j
      · simpa [fcs, encI] using hu
      · simp [fcs, encI] at hu))
    have HFl := hide (HF7.out.step (below1 w7 (.cells #[.int .i64 d] 3)))
    go_upto_region 5 with (go_at_call 58; refine (bOfferL_any (HPl.out.at_ HBd.out) HLit.out _ 1 1 [d] HRl.out rfl (by omega)).mono ?_; rintro e wb ⟨rfl, vb, vb2, hBb, hTb⟩; have HBb := hide hBb; have HFb := hide (hBb.fd HF0.out); clear hBb hTb)
    have p0 := HFb.out.pl.cell 0
    have p1 := HFb.out.pl.cell 1
    have p2 := HFb.out.pl.cell 2
    simp at p0 p1 p2
    have HNl := hide (near_len ns 0 0)
    go_wp2_with (first
      | (go_at_call 59; refine (near_any (cN := cN) (en := en) (top := top) (HPl.out.at_ HFb.out.bel).nd HPl.out.len HPl.out.ok HPl.out.sm 0 0).mono ?_; rintro e w8 ⟨An, m5, c5, rfl, k1, k2, k3, hr5, hb5⟩; have Hk1 := hide k1; have HB8 := hide (HBb.out.step hb5); have HR8 := hide (show RdR (Sh.int .i64) w8 (fun d => FreeP w8 M Q P vb vb2 d ∧ d ≠ S) An (nearF ns 0 0) from hr5.more fun d hd => ⟨HBb.out.pv.new hd.1 hd.2, by have := HBb.out.sb.lt; have := hd.1; omega⟩); clear k1 hr5 hb5)
      | (go_at_call 58; refine (bOfferL_any (HPl.out.at_ HBd.out) HB8.out An m5 c5 (nearF ns 0 0) HR8.out Hk1.out (by have := Hk1.out; have := HNl.out; have := Hln.out; omega)).mono ?_; rintro e w9 ⟨rfl, v9, v92, hB9, hT9⟩; have HB9 := hide hB9; clear hB9 hT9)
      | (go_at_call 60; refine (bLook_any (HPl.out.at_ HBd.out) HB9.out 0 (by have h1 := offL_le (ns := ns) (q := qs) (mask := mask) (K := mostB ef) (nearF ns 0 0) (offL ns qs mask (mostB ef) noS [d]); have h2 := offL_le (ns := ns) (q := qs) (mask := mask) (K := mostB ef) [d] noS; have := HLM.out; have := Hk1.out; have := HNl.out; have := Hln.out; omega) (by omega)).mono ?_; rintro e wa ⟨rfl, va, va2, na, t, c, hLk, hna, hBa, hTa⟩; have HLk := hide hLk; have HBa := hide hBa; have Hna := hide hna; clear hLk hBa hTa hna))
    go_ret
    exact ⟨Wd, X, M, Q, P, S, A0, c0, va, va2, na, _, t, c, rfl, HBd.out, HSt.out, HLk.out, Hna.out, by have h := HBa.out; rwa [Int.zero_add] at h⟩
/-- what Around, Find give: the best of a look around -/
def GivesB (ns : List NodeP) (qs : List Int) (mask ef level : Int) (w : World) (st : List Int → Prop) (e : Ending) (w' : World) : Prop :=
  ∃ (l : List Int) (t : PrS) (k : Nat) (A : Option Addr) (n c : Nat), e = .returned (.slice A n c) ∧ st l ∧ LookR ns qs mask (mostB ef) level (offL ns qs mask (mostB ef) noS l) t k ∧ t.2.2.length = n ∧ n ≤ 1000 ∧ n ≤ c ∧ c ≤ 9223372036854775807 ∧ RdR SP w' (Btw w.heap.size w'.heap.size) A t.2.2 ∧ Below w.heap.size w w'
theorem vFoundB {wr : World} {S : Nat} {s : PrS} {cost : Int} (h : BmW w X M Q P S mask ef A0 c0 qs N nn cN en top v v2 n s cost wr) (hn : n ≤ 1000) : Calls Tryz.prog 42 #[.pointer (some ⟨X, 0, none⟩)] wr fun e w' => ∃ A' n' c', e = .returned (.slice A' n' c') ∧ s.2.2.length = n' ∧ n' ≤ 1000 ∧ n' ≤ c' ∧ c' ≤ 9223372036854775807 ∧ RdR SP w' (Btw wr.heap.size w'.heap.size) A' s.2.2 ∧ Below wr.heap.size wr w' := by
  refine (vFound h.pv hn).mono ?_
  rintro e w' ⟨A', c', rfl, h1, h2, h3, h4⟩
  exact ⟨A', _, c', rfl, rfl, by have := h.pv.lens.2.1; omega, h1, h2, h3, h4⟩
set_option maxHeartbeats 4000000 in
theorem bFind_any {ns : List NodeP} {Aq : Option Addr} {nq cq : Nat} (hpl : PlW w N nn ns Aq nq cq qs) (hq6 : nq ≤ 35184372088832) : Calls Tryz.prog 19 #[.agg #[.slice N nn cN, .int .i64 en, .int .i64 top], .slice Aq nq cq, .int .u64 mask, .int .i64 ef] w (GivesB ns qs mask ef 0 w (StartR ns qs en top)) := by
  have hb1 := below1 w (.cells #[.slice N nn cN, .int .i64 en, .int .i64 top] 24)
  have HF := hide (show FdW w w.heap.size #[.slice N nn cN, .int .i64 en, .int .i64 top] (w.alloc (.cells #[.slice N nn cN, .int .i64 en, .int .i64 top] 24)) from ⟨hb1, Blk.new _ _ _⟩)
  have HPl := hide hpl
  clear hpl hb1
  go_enter Tryz.func19, Tryz.ntmps19
  go_upto_region 1 with fail
  generalize World.alloc w _ = w1 at *
  obtain ⟨b4, hb4⟩ : ∃ b, w.heap.size = b := ⟨_, rfl⟩
  rw [hb4] at HF
  rw [hb4]
  have Hb4 := hide hb4
  clear hb4
  have p0 := HF.out.pl.cell 0
  have p1 := HF.out.pl.cell 1
  have p2 := HF.out.pl.cell 2
  simp at p0 p1 p2
  go_wp2_with (first
    | (go_at_call 41; refine (find_any (mask := mask) (ef := ef) (cN := cN) (en := en) (top := top) (HPl.out.at_ HF.out.bel) hq6).mono ?_; rintro e wa ⟨w0, X, M, Q, P, S, A0, c0, v, v2, n, l, t, c, rfl, hb0, hst, hlk, hn, hB⟩; have HB0 := hide hb0; have HSt := hide hst; have HLk := hide hlk; have HBa := hide hB; have Hn := hide hn; obtain ⟨e0, e1, e2, e3, e4⟩ := HBa.out.cells; clear hb0 hst hlk hB hn)
    | (go_at_call 42; refine (vFoundB HBa.out Hn.out).mono ?_; rintro e wb ⟨A9, n9, c9, rfl, q0, q1, q2, q3, q4, q5⟩; have HQ0 := hide q0; have HQ4 := hide q4; have HQ5 := hide q5; clear q0 q4 q5))
  go_ret
  have hbb := Below.step HF.out.bel (Below.step HB0.out HBa.out.pv.bel)
  exact ⟨l, t, c, A9, n9, c9, rfl, HSt.out, HLk.out, HQ0.out, q1, q2, q3, HQ4.out.more fun d hd => ⟨Nat.le_trans hbb.size hd.1, hd.2⟩, Below.step hbb HQ5.out⟩
/-- what Search gives -/
def GivesSe (ns : List NodeP) (qs : List Int) (mask ef kk en top : Int) (w : World) (e : Ending) (w' : World) : Prop :=
  ∃ (l : List Int) (t : PrS) (k : Nat) (A : Option Addr) (n c : Nat), e = .returned (.slice A n c) ∧ StartR ns qs en top l ∧ LookR ns qs mask (mostB (max kk ef)) 0 (offL ns qs mask (mostB (max kk ef)) noS l) t k ∧ ((t.2.2.take kk.toNat).map (·.1)).length = n ∧ n ≤ 1000 ∧ n ≤ c ∧ c ≤ 9223372036854775807 ∧ RdR SH w' (Btw w.heap.size w'.heap.size) A ((t.2.2.take kk.toNat).map (·.1)) ∧ Below w.heap.size w w'
theorem fcsH_snoc (l : List Hit) (s : Hit) : fcs encH (l ++ [s]) = fcs encH l ++ [.int .u64 s.1, .int .u64 s.2] := by
  unfold fcs
  rw [List.flatMap_append]
  simp [encH]
theorem info_hitB : (Tryz.prog.info? 42).map (fun i => (i.zero, i.size, i.bytes)) = some (some (.agg #[.int .u64 0, .int .u64 0]), 2, 16) := by kernel_rfl
theorem take_snocB {α : Type} {l : List α} {k : Nat} {x : α} (h : l[k]? = some x) : l.take (k + 1) = l.take k ++ [x] := by
  rw [List.take_add_one, h]; rfl
set_option maxHeartbeats 8000000 in
theorem bSearch_any {ns : List NodeP} {Aq : Option Addr} {nq cq : Nat} (hpl : PlW w N nn ns Aq nq cq qs) (hq6 : nq ≤ 35184372088832) (kk : Int) : Calls Tryz.prog 8 #[.agg #[.slice N nn cN, .int .i64 en, .int .i64 top], .slice Aq nq cq, .int .u64 mask, .int .i64 kk, .int .i64 ef] w (GivesSe ns qs mask ef kk en top w) := by
  have hb1 := below1 w (.cells #[.slice N nn cN, .int .i64 en, .int .i64 top] 24)
  have HF := hide (show FdW w w.heap.size #[.slice N nn cN, .int .i64 en, .int .i64 top] (w.alloc (.cells #[.slice N nn cN, .int .i64 en, .int .i64 top] 24)) from ⟨hb1, Blk.new _ _ _⟩)
  have HPl := hide hpl
  clear hpl hb1
  go_enter Tryz.func8, Tryz.ntmps8
  go_upto_region 1 with fail
  generalize World.alloc w _ = w1 at *
  obtain ⟨b4, hb4⟩ : ∃ b, w.heap.size = b := ⟨_, rfl⟩
  rw [hb4] at HF
  rw [hb4]
  have Hb4 := hide hb4
  clear hb4
  have p0 := HF.out.pl.cell 0
  have p1 := HF.out.pl.cell 1
  have p2 := HF.out.pl.cell 2
  simp at p0 p1 p2
  go_wp2_with (go_at_call 19; refine (bFind_any (mask := mask) (ef := max kk ef) (cN := cN) (en := en) (top := top) (HPl.out.at_ HF.out.bel) hq6).mono ?_; rintro e wa ⟨l, t, kc, A9, n9, c9, rfl, hst, hlk, q0, q1, q2, q3, q4, q5⟩; have HSt := hide hst; have HLk := hide hlk; have HQ0 := hide q0; have HRd := hide (show RdR SP wa (Btw w1.heap.size wa.heap.size) A9 t.2.2 from q4); have HB := hide (Below.step HF.out.bel q5); have Hsz := hide HF.out.bel.size; clear hst hlk q0 q4 q5)
  clear p0 p1 p2
  have HW1 := hide (show w.heap.size ≤ w1.heap.size from Hsz.out)
  go_loopw [11, 12, 13, 22] (fun o _ _ i wr => ∃ (j : Nat) (A : Option Addr) (c : Nat), j ≤ n9 ∧ j ≤ kk.toNat ∧ i = .int .i64 j ∧ o = .slice A j c ∧ j ≤ c ∧ c ≤ 9223372036854775807 ∧ Hid (wr.ownsRow w.heap.size 42 2 (.slice A j c) j (fcs encH ((t.2.2.take j).map (·.1)))) ∧ Hid (∀ d, (Value.slice A j c).ownBlock = some d → wa.heap.size ≤ d) ∧ Hid (RdR SP wr (Btw w1.heap.size wa.heap.size) A9 t.2.2) ∧ Hid (Below w.heap.size w wr) ∧ Hid (wa.heap.size ≤ wr.heap.size)) (fun _ _ _ i _ => n9 - (intOf i).toNat)
  case atStart => exact ⟨0, none, 0, by omega, by omega, rfl, rfl, by omega, by omega, hide (World.ownsRow_nil _ _ _ _), hide (fun d hd => by simp [Value.ownBlock] at hd), HRd, HB, hide (Nat.le_refl _)⟩
  case round =>
    obtain ⟨j, A, c, hj, hjk, rfl, rfl, hc1, hc2, HO, HAp, HR, HBw, HSz⟩ := hrel
    clear HRd HB
    by_cases hlt : j < n9
    · obtain ⟨ad, y, rfl, _, hv, z0, z1, z2⟩ := HR.out.scell (k := j) (by have := HQ0.out; omega)
      have g0 : (0 : Int) ≤ j := by omega
      have g1 : (j : Int) < n9 := by omega
      have HV := hide hv
      obtain ⟨⟨ya, yb⟩, ys⟩ := y
      simp only at z0 z1 z2
      clear hv
      go_upto_region 5 with fail
      have hb := below1 wr (.cells #[.int .u64 ya, .int .u64 yb, .int .i64 ys] 60)
      have HS := hide (Blk.new wr 60 #[.int .u64 ya, .int .u64 yb, .int .i64 ys])
      have HO2 := hide (own_keep HO.out fun d hd => hb.block d (HO.out.lt d hd).2)
      have HR2 := hide (HR.out.below hb fun d hd => Nat.lt_of_lt_of_le hd.2 HSz.out)
      have HB2 := hide (Below.step HBw.out hb)
      have HS2 := hide (Nat.le_trans HSz.out hb.size)
      clear hb z0 z1 z2 HO HR HBw HSz
      generalize World.alloc wr _ = w2 at *
      generalize wr.heap.size = gs at *
      have y0 := HS.out.cell 0
      have y1 := HS.out.cell 1
      simp at y0 y1
      by_cases hk : kk ≤ j
      · have f1 : decide (kk ≤ (j : Int)) = true := decide_eq_true hk
        have HE := hide (show j = kk.toNat by omega)
        go_wp2
        go_ret
        have hl : ((t.2.2.take kk.toNat).map (·.1)).length = j := by rw [← HE.out, List.length_map, List.length_take, HQ0.out]; omega
        exact ⟨l, t, kc, A, j, c, rfl, HSt.out, HLk.out, hl, by omega, hc1, hc2, by rw [← HE.out]; exact flatH.own HO2.out, HB2.out⟩
      · have f1 : decide (kk ≤ (j : Int)) = false := decide_eq_false hk
        have j6 : j ≤ 1000 := by omega
        go_wp2_with (at_builtin; refine wpList_append_elem rfl (.tmp 30) (.tmp 33) 32 rfl w.heap.size Tryz.underlying32 info_hitB rfl (by decide) (.slice A j c) j _ rfl HO2.out _ _ rfl rfl (by simp [Value.oneCell']) (by simp only [maxLen]; omega) (by omega) HB2.out.size ?_; intro v9 w9 hown9 hgr9 hat9; have HO9 := hide (show w9.ownsRow w.heap.size 42 2 v9 (j + 1) (fcs encH ((t.2.2.take (j + 1)).map (·.1))) by rw [take_snocB HV.out, List.map_append]; exact (by rw [show [((ya, yb), ys)].map (·.1) = [(ya, yb)] from rfl, fcsH_snoc]; exact hown9)); have HB9 := hide (below_own HB2.out HO2.out HB2.out.size hgr9); have HA9 := hide (show ∀ d, v9.ownBlock = some d → wa.heap.size ≤ d from fun d hd => hat9.elim (fun e => HAp.out d (e ▸ hd)) fun e => by rw [e] at hd; injection hd with hd; have := HS2.out; omega); have HR9 := hide (HR2.out.keepBlocks fun d hd => hgr9.block d (Nat.lt_of_lt_of_le hd.2 HS2.out) fun e => by have := HAp.out d e.symm; have := hd.2; omega); have HS9 := hide (Nat.le_trans HS2.out hgr9.size); obtain ⟨A8, c8, rfl, l1, l2⟩ := own_form hown9; clear hown9 hgr9 hat9)
        go_roundw
        case rel => exact ⟨j + 1, A8, c8, by omega, by omega, by go_num, rfl, l1, l2, HO9, HA9, HR9, HB9, HS9⟩
        case measure => simp [intOf]; omega
    · obtain rfl : n9 = j := by omega
      go_wp2
      go_ret
      have ht : t.2.2.take kk.toNat = t.2.2.take n9 := by rw [List.take_of_length_le (by rw [HQ0.out]; exact hjk), List.take_of_length_le (by rw [HQ0.out]; exact Nat.le_refl _)]
      exact ⟨l, t, kc, A, n9, c, rfl, HSt.out, HLk.out, by rw [ht, List.length_map, List.length_take, HQ0.out]; omega, by omega, hc1, hc2, by rw [ht]; exact flatH.own HO.out, HBw.out⟩
end
end Go.Proofs.YtgiplahhalgbdaaGreat
