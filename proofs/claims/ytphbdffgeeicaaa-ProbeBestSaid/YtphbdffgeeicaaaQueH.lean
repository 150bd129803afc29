/-
  The package queue: Offer. Conditions: the blocks lie as said.
-/
import Derived.Test.YtphbdffgeeicaaaQueG
namespace Go.Proofs.Ytphbdffgeeicaaa
set_option linter.unusedSimpArgs false
set_option linter.unusedVariables false
open Go.RowKit

/-- what an offer answers, and the spots behind it -/
def Off (k : Nat) (l : List Spt) (s : Spt) (r : Bool) (m : List Spt) : Prop :=
  (r = false ∧ m = l ∧ (k = 0 ∨ (k ≤ l.length ∧ sptLt s (fstS l) = false))) ∨
  (r = true ∧ k ≠ 0 ∧ ((l.length < k ∧ m.Perm (l ++ [s])) ∨ (k ≤ l.length ∧ sptLt s (fstS l) = true ∧ ∃ m', (fstS l :: m').Perm l ∧ m.Perm (m' ++ [s]))))
def OfferDone (w : World) (B Q k : Nat) (v : Value) (l : List Spt) (s : Spt) (e : Ending) (w' : World) : Prop := ∃ (r : Bool) (m : List Spt), e = .returned (.bool r) ∧ Off k l s r m ∧ BDone w w' B Q k v m
section
variable {w w1 w2 : World} {B Q : Nat} {t : TypeId} {ex : Array Value} {f : FuncId} {lt : Spt → Spt → Bool} {v v1 : Value} {l l1 m m2 : List Spt}
theorem HpDone.stay (h : HpAt w B Q t ex f v l) (hh : Heap lt l) (hb : Below w.heap.size w w1) : HpDone w w1 B Q t ex f lt v l := ⟨l, v, hh, List.Perm.refl _, h.below hb, TurnH.of_below hb, fun d hd => .inl hd⟩
theorem HpDone.then (ht : TurnH w w1 Q v) (h5 : ∀ d, v1.ownBlock = some d → v.ownBlock = some d ∨ w.heap.size ≤ d) (h2 : HpDone w1 w2 B Q t ex f lt v1 m2) : HpDone w w2 B Q t ex f lt v m2 := by
  obtain ⟨l', v', r1, r2, r3, r4, r5⟩ := h2
  exact ⟨l', v', r1, r2, r3, ht.trans r4 h5, fun d hd => (r5 d hd).elim (h5 d) fun h => .inr (Nat.le_trans ht.size h)⟩
theorem HpDone.perm (h : HpDone w w1 B Q t ex f lt v m) (hp : m.Perm m2) : HpDone w w1 B Q t ex f lt v m2 := by
  obtain ⟨l', v', r1, r2, r⟩ := h
  exact ⟨l', v', r1, r2.trans hp, r⟩
end
section
variable {w : World} {B Q k : Nat} {v : Value} {l : List Spt}
set_option maxHeartbeats 4000000 in
theorem bOffer_any (h : BAt w B Q k v l) (hh : Heap sptGt l) (s : Spt) (hsz : l.length ≤ 400000) :
    Calls Try.prog 30 #[.pointer (some ⟨Q, 0, none⟩), aggS s] w (OfferDone w B Q k v l s) := by
  have z2 := h.most
  have hQ := h.lt
  have HB1 := hide (below1 w (.cells #[.int .u64 s.1.1, .int .u64 s.1.2, .int .i64 s.2] 53))
  have HN := hide (Blk.new w 53 #[.int .u64 s.1.1, .int .u64 s.1.2, .int .i64 s.2])
  have H := hide h
  have HH := hide hh
  unfold aggS
  rcases Nat.eq_zero_or_pos k with hk | hk
  · subst hk
    clear h hh
    go_enter Try.func30, Try.ntmps30
    go_wp2
    go_ret
    exact ⟨false, l, rfl, .inl ⟨rfl, rfl, .inl rfl⟩, HpDone.stay H.out HH.out HB1.out⟩
  have e0 : ((k : Int) == 0) = false := by rw [beq_eq_false_iff_ne]; omega
  have H1 := hide (h.below HB1.out)
  have HF := hide (bFull_any H1.out)
  have Hk := hide hk
  clear h hh hk
  by_cases hf : k ≤ l.length
  · rw [decide_eq_true hf] at HF
    have Hf := hide hf
    clear hf
    have hl0 : 0 < l.length := by have := Hf.out; have := Hk.out; omega
    obtain ⟨x, hx⟩ : ∃ x, l[0]? = some x := ⟨_, List.getElem?_eq_getElem hl0⟩
    have hfx : fstS l = x := by unfold fstS; rw [hx]; rfl
    have Hx := hide hx
    have Hfx := hide hfx
    clear hx hl0 hfx
    go_enter Try.func30, Try.ntmps30
    go_upto_region 5 with (first
      | (go_at_call 43; refine HF.out.mono ?_; rintro e w2 ⟨rfl, hd⟩; have HB2 := hide (Below.step HB1.out hd.below); have HN2 := hide (HN.out.below hd.below HN.out.lt); clear hd)
      | (go_at_call 42; refine (bWorst_any (H.out.below HB2.out)).mono ?_; rintro e w3 ⟨he, hb⟩; have HB3 := hide (Below.step HB2.out hb); have HN3 := hide (HN2.out.below hb HN2.out.lt); rw [Hfx.out] at he; unfold aggS at he; subst he; clear hb))
    have HB4 := hide (HB3.out.alloc HB3.out.size (.cells #[.int .u64 x.1.1, .int .u64 x.1.2, .int .i64 x.2] 53))
    have HN4 := hide (HN3.out.alloc (.cells #[.int .u64 x.1.1, .int .u64 x.1.2, .int .i64 x.2] 53))
    have HP4 := hide (Blk.new w3 53 #[.int .u64 x.1.1, .int .u64 x.1.2, .int .i64 x.2])
    generalize World.alloc w3 _ = w4 at *
    generalize w3.heap.size = p at *
    have x0 := HN4.out.cell 0
    have x1 := HN4.out.cell 1
    have x2 := HN4.out.cell 2
    have y0 := HP4.out.cell 0
    have y1 := HP4.out.cell 1
    have y2 := HP4.out.cell 2
    simp at x0 x1 x2 y0 y1 y2
    obtain ⟨bb, hbb⟩ : ∃ bb, sptLt s x = bb := ⟨_, rfl⟩
    have HBB := hide hbb
    have HSp := hide (spot_any s x w4)
    rw [hbb] at HSp
    clear hbb
    rcases bb with _ | _
    · go_wp2_with (go_at_call 38; refine HSp.out.mono ?_; rintro e w5 ⟨rfl, hb⟩; have HB5 := hide (Below.step HB4.out hb); clear hb)
      go_ret
      exact ⟨false, l, rfl, .inl ⟨rfl, rfl, .inr ⟨Hf.out, by rw [Hfx.out]; exact HBB.out⟩⟩, HpDone.stay H.out HH.out HB5.out⟩
    · go_upto_region 7 with (go_at_call 38; refine HSp.out.mono ?_; rintro e w5 ⟨rfl, hb⟩; have HB5 := hide (Below.step HB4.out hb); have HN5 := hide (HN4.out.below hb HN4.out.lt); clear hb)
      clear x0 x1 x2 y0 y1 y2
      have HPop := hide (pop_any aheadBehind swoG (H.out.below HB5.out) HH.out Hx.out (by omega))
      go_upto_region 8 with (go_at_call 44; refine HPop.out.mono ?_; rintro e w6 ⟨rfl, m', hm, hd⟩; obtain ⟨l6, v6, r1, r2, r3, r4, r5⟩ := H.out.drawn HB5.out hd; have hT := hd.choose_spec.choose_spec.2.2.2.1; have hlow := H.out.low; have n6 : Blk w6 w.heap.size 53 _ := (hT.block _ HN5.out.lt (by have := hlow.1; omega) (fun e => by have := hlow.2 _ e.symm; omega)).trans HN5.out; have HN6 := hide n6; have R1 := hide r1; have R2 := hide r2; have R3 := hide r3; have R4 := hide r4; have R5 := hide r5; have HM := hide hm; have x0 := n6.cell 0; have x1 := n6.cell 1; have x2 := n6.cell 2; simp at x0 x1 x2; clear hm hd r1 r2 r3 r4 r5 hT hlow n6)
      have hl6 : l6.length ≤ 500000 := by
        have a := R2.out.length_eq
        have b := HM.out.length_eq
        simp at b
        omega
      have HC := hide (push_any aheadBehind swoG (R3.out.below (Below.refl _ _).drew) R1.out s hl6)
      have HD6 := hide (show Below w6.heap.size w6 w6.drew from (Below.refl _ _).drew)
      clear hl6
      go_region_law ((go_simp; go_at_call 48; refine HC.out.mono ?_; rintro e w7 ⟨rfl, hd⟩; have HR := hide (R3.out.drawn HD6.out hd); clear hd))
      all_goals
        go_wp2
        go_ret
        exact ⟨true, m' ++ [s], rfl, .inr ⟨rfl, by have := Hk.out; omega, .inr ⟨Hf.out, by rw [Hfx.out]; exact HBB.out, m', by rw [Hfx.out]; exact HM.out, List.Perm.refl _⟩⟩, (HpDone.then R4.out R5.out HR.out).perm (R2.out.append_right [s])⟩
  · rw [decide_eq_false hf] at HF
    have Hf := hide hf
    clear hf
    go_enter Try.func30, Try.ntmps30
    go_upto_region 8 with (go_at_call 43; refine HF.out.mono ?_; rintro e w2 ⟨rfl, hd⟩; have HB2 := hide (Below.step HB1.out hd.below); have HN2 := hide (HN.out.below hd.below HN.out.lt); clear hd)
    have x0 := HN2.out.cell 0
    have x1 := HN2.out.cell 1
    have x2 := HN2.out.cell 2
    simp at x0 x1 x2
    have HD2 := hide (show Below w.heap.size w w2.drew from HB2.out.drew)
    have HC := hide (push_any aheadBehind swoG (H.out.below HD2.out) HH.out s (by omega))
    go_region_law ((go_simp; go_at_call 48; refine HC.out.mono ?_; rintro e w7 ⟨rfl, hd⟩; have HR := hide (H.out.drawn HD2.out hd); clear hd))
    all_goals
      go_wp2
      go_ret
      exact ⟨true, l ++ [s], rfl, .inr ⟨rfl, by have := Hk.out; omega, .inl ⟨by have := Hf.out; omega, List.Perm.refl _⟩⟩, HR.out⟩
set_option maxHeartbeats 1000000 in
theorem bOffer_nil (s : Spt) (w : World) : Calls Try.prog 30 #[.pointer none, aggS s] w fun e w' => e = .returned (.bool false) ∧ Below w.heap.size w w' := by
  unfold aggS
  go_enter Try.func30, Try.ntmps30
  go_wp2
  go_ret
  exact ⟨rfl, below1 _ _⟩
set_option maxHeartbeats 1000000 in
theorem qPop_nil (w : World) : Calls Try.prog 24 #[.pointer none] w fun e w' => e = .returned (.tuple #[aggS sp0, .bool false]) ∧ Below w.heap.size w w' := by
  have HN := hide (Blk.new w 53 #[.int .u64 0, .int .u64 0, .int .i64 0])
  have HB := hide (below1 w (.cells #[.int .u64 0, .int .u64 0, .int .i64 0] 53))
  have HC := hide (fun W => qPeek_nil W)
  unfold aggS sp0 at *
  go_enter Try.func24, Try.ntmps24
  go_upto_region 2 with (go_at_call 41; refine (HC.out _).mono ?_; rintro e w1 ⟨rfl, hb⟩; have HN1 := hide (HN.out.below hb HN.out.lt); have HB1 := hide (Below.step HB.out hb); clear hb)
  have HN2 := hide (HN1.out.alloc (.cells #[.int .u64 0, .int .u64 0, .int .i64 0] 53))
  have HP2 := hide (Blk.new w1 53 #[.int .u64 0, .int .u64 0, .int .i64 0])
  have HB2 := hide (HB1.out.alloc HB1.out.size (.cells #[.int .u64 0, .int .u64 0, .int .i64 0] 53))
  generalize World.alloc w1 _ = w2 at *
  generalize w1.heap.size = p at *
  have x0 := HN2.out.cell 0
  have x1 := HN2.out.cell 1
  have x2 := HN2.out.cell 2
  have f0 := HN2.out.frozen 0
  have f1 := HN2.out.frozen 1
  have f2 := HN2.out.frozen 2
  have y0 := HP2.out.cell 0
  have y1 := HP2.out.cell 1
  have y2 := HP2.out.cell 2
  simp at x0 x1 x2 y0 y1 y2
  go_wp2
  obtain ⟨q, hb⟩ := spot_stored HN2.out rfl HB2.out (Nat.le_refl _) sp0
  have q0 := q.cell 0
  have q1 := q.cell 1
  have q2 := q.cell 2
  simp [sp0] at q0 q1 q2
  exact bodyPost_ret (v := .tuple #[.agg #[.int .u64 0, .int .u64 0, .int .i64 0], .bool false]) (by simp [results, Try.results24, go_sem, q0, q1, q2]) rfl ⟨rfl, hb⟩
end
end Go.Proofs.Ytphbdffgeeicaaa
