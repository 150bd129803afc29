/-
  The package queue: pop, first. Conditions: the heap's blocks lie as said, its order is told by a function.
-/
import Derived.Test.YtphbdffgeeicaaaQueC
namespace Go.Proofs.Ytphbdffgeeicaaa
set_option linter.unusedSimpArgs false
set_option linter.unusedVariables false
open Go.RowKit

theorem fcs_take (l : List Spt) (m : Nat) : (fcs encS l).take (m * 3) = fcs encS (l.take m) := by
  induction l generalizing m with
  | nil => simp [fcs]
  | cons x l ih =>
    rcases m with _ | m
    · simp [fcs]
    · rw [fcs_cons, List.take_succ_cons, fcs_cons, ← ih m, show (m + 1) * 3 = 3 + m * 3 by omega, show 3 = (encS x).length from rfl, List.take_length_add_append]
theorem own_take3 {w : World} {base n m c : Nat} {A : Option Addr} {l : List Spt} (h : w.ownsRow base 53 3 (.slice A n c) n (fcs encS l)) (hm : m ≤ n) : w.ownsRow base 53 3 (.slice A m c) m (fcs encS (l.take m)) := by
  have hl : l.length = n := by have := h.1; rw [flatS.clen] at this; exact Nat.eq_of_mul_eq_mul_right flatS.pos this
  refine ⟨by rw [flatS.clen, List.length_take, Nat.min_eq_left (by omega)]; rfl, ?_⟩
  rcases h.2 with ⟨h1, h2⟩ | ⟨g, cap, cur, h1, h2, h3, h4, h5, h6, h7⟩
  · injection h1 with h1 h1' h1''
    subst h1 h1' h1''
    have : m = 0 := by omega
    subst this
    exact .inl ⟨rfl, rfl⟩
  · injection h1 with h1 _ h1''
    subst h1 h1''
    refine .inr ⟨g, c, cur, rfl, h2, h3, by omega, h5, h6, ?_⟩
    rw [← fcs_take, ← h7, List.take_take, Nat.min_eq_left (by omega)]
/-- the slice is cut -/
theorem HpAt.cut {w : World} {B Q : Nat} {t : TypeId} {ex : Array Value} {f : FuncId} {A : Option Addr} {k cap : Nat} {l : List Spt} (h : HpAt w B Q t ex f (.slice A k cap) l) (hk : l.length = k) {n : Nat} (hn : n ≤ k) : HpAt (w.setCell ⟨Q, 0, none⟩ (.slice A n cap)) B Q t ex f (.slice A n cap) (l.take n) := by
  have ho := h.own
  rw [hk] at ho
  have hne : ∀ g, (Value.slice A k cap).ownBlock = some g → g ≠ Q := fun g hg e => h.neQ (e ▸ hg)
  refine ⟨?_, ?_, h.ne, h.hQ⟩
  · have := h.q.set_ 0 (.slice A n cap)
    rwa [set0_app] at this
  · rw [List.length_take, Nat.min_eq_left (by omega)]
    exact own_keep (own_take3 ho hn) fun g hg => Below.heap_setCell _ _ _ _ (hne g (by
      rcases A with _ | a
      · simp [Value.ownBlock] at hg
      · simpa [Value.ownBlock] using hg))
theorem setQ_turn {w : World} {Q : Nat} {v u : Value} : TurnH w (w.setCell ⟨Q, 0, none⟩ u) Q v := ⟨rfl, rfl, rfl, by simp, fun k _ hk _ => Below.heap_setCell _ _ _ _ hk⟩
set_option maxHeartbeats 4000000 in
theorem pop_any {f : FuncId} {lt : Spt → Spt → Bool} (ha : Ahead f lt) (hS : Go.Sort.SWO lt) {w : World} {B Q : Nat} {t : TypeId} {ex : Array Value} {v : Value} {l : List Spt} {x : Spt} (h : HpAt w B Q t ex f v l) (hh : Heap lt l) (hx : l[0]? = some x) (hsz : l.length ≤ 500000) :
    Calls Try.prog 44 #[.pointer (some ⟨Q, 0, none⟩)] w fun e w' => e = .returned (.tuple #[]) ∧ ∃ m, (x :: m).Perm l ∧ HpDone w w' B Q t ex f lt v m := by
  have hl0 : 0 < l.length := (List.getElem?_eq_some_iff.1 hx).1
  obtain ⟨g, cap, rfl, hrow, hc, hm⟩ := h.form hl0
  obtain ⟨n, hn⟩ : ∃ n, l.length = n + 1 := ⟨l.length - 1, by omega⟩
  obtain ⟨y, hy⟩ : ∃ y, l[n]? = some y := ⟨_, List.getElem?_eq_getElem (by omega)⟩
  obtain ⟨z0, _⟩ := h.cells
  obtain ⟨x0, x1, x2⟩ := RowS.cells hrow hx
  obtain ⟨y0, y1, y2⟩ := RowS.cells hrow hy
  have f0 := RowS.frozen hrow (0 * 3)
  have f1 := RowS.frozen hrow (0 * 3 + 1)
  have f2 := RowS.frozen hrow (0 * 3 + 2)
  have hQf := h.q.frozen 0
  simp only [Nat.zero_mul, Nat.zero_add] at x0 x1 x2 f0 f1 f2
  have k2 := h.put hl0 y
  have hgQ : g ≠ Q := fun e => h.neQ (by rw [e]; rfl)
  have H := hide h
  have HH := hide hh
  have Hx := hide hx
  have Hy := hide hy
  have Hn := hide hn
  have K2 := hide k2
  have HA := hide ha
  have HS := hide hS
  have HPm := hide (pop_perm hn hx hy)
  have HDn := hide (hh.pop (x := x) (y := y) hn)
  rw [hn] at z0 hc
  have hw : ((n + 1 : Nat) : Int) - 1 = n := by omega
  have g1 : (n : Int) < ((n + 1 : Nat) : Int) := by omega
  have g2 : (0 : Int) ≤ n := by omega
  have g3 : (0 : Int) < ((n + 1 : Nat) : Int) := by omega
  have hcap : n ≤ cap := by omega
  have hsn : n ≤ 499999 := by omega
  clear h hh hx hy k2 ha hS hrow hl0 hn hsz
  go_enter Try.func44, Try.ntmps44
  go_upto_region 1 with fail
  go_region
  have HP4 := hide (show HpAt (((w.setCell ⟨g, 0, none⟩ (.int .u64 y.1.1)).setCell ⟨g, 1, none⟩ (.int .u64 y.1.2)).setCell ⟨g, 2, none⟩ (.int .i64 y.2)).drew B Q t ex f (.slice (some ⟨g, 0, none⟩) (n + 1) cap) (l.set 0 y) from by
    have k := K2.out.below (Below.refl _ _).drew
    rw [List.length_set, Hn.out] at k
    simpa [put3] using k)
  have HT4 := hide (show TurnH w (((w.setCell ⟨g, 0, none⟩ (.int .u64 y.1.1)).setCell ⟨g, 1, none⟩ (.int .u64 y.1.2)).setCell ⟨g, 2, none⟩ (.int .i64 y.2)).drew Q (.slice (some ⟨g, 0, none⟩) (n + 1) cap) from by
    have k : TurnH w (put3 w g 0 y).drew Q (.slice (some ⟨g, 0, none⟩) (n + 1) cap) := put3_turn.trans (v' := .slice (some ⟨g, 0, none⟩) (n + 1) cap) (TurnH.of_below (Below.refl _ _).drew) fun d hd => .inl hd
    simpa [put3] using k)
  clear x0 x1 x2 y0 y1 y2 f0 f1 f2 z0 hQf K2
  generalize World.drew _ = w4 at *
  obtain ⟨z0, _⟩ := HP4.out.cells
  have hQf := HP4.out.q.frozen 0
  go_upto_region 3 with fail
  have HP5 := hide (HP4.out.cut (by rw [List.length_set, Hn.out]) (show n ≤ n + 1 by omega))
  have HT5 := hide (HT4.out.trans (v' := .slice (some ⟨g, 0, none⟩) (n + 1) cap) (setQ_turn (w := w4) (Q := Q) (u := .slice (some ⟨g, 0, none⟩) n cap)) fun d hd => .inl hd)
  clear z0 hQf HP4
  generalize World.setCell w4 ⟨Q, 0, none⟩ (.slice (some ⟨g, 0, none⟩) n cap) = w5 at *
  have HC := hide (down_any HA.out HS.out HP5.out (by rw [List.length_take, List.length_set, Hn.out]; omega) HDn.out hcap hm (by omega))
  go_wp2_with (go_at_call 55; refine HC.out.mono ?_; rintro e w6 ⟨rfl, l', r1, r2, r3, r4⟩; have HR := hide (show HpDone w w6 B Q t ex f lt (.slice (some ⟨g, 0, none⟩) l.length cap) ((l.set 0 y).take n) from ⟨l', _, r1, r2, r3, by have := HT5.out.trans r4 (fun d hd => .inl hd); rw [Hn.out]; exact this, fun d hd => .inl hd⟩); clear r1 r2 r3 r4)
  go_end0
  exact ⟨rfl, _, HPm.out, HR.out⟩
def sp0 : Spt := ((0, 0), 0)
def fstS (l : List Spt) : Spt := l[0]?.getD sp0
def aggS (s : Spt) : Value := .agg #[.int .u64 s.1.1, .int .u64 s.1.2, .int .i64 s.2]
set_option maxHeartbeats 2000000 in
theorem first_any {f : FuncId} {w : World} {B Q : Nat} {t : TypeId} {ex : Array Value} {v : Value} {l : List Spt} (h : HpAt w B Q t ex f v l) :
    Calls Try.prog 54 #[.pointer (some ⟨Q, 0, none⟩)] w fun e w' => e = .returned (.tuple #[aggS (fstS l), .bool (decide (0 < l.length))]) ∧ Below w.heap.size w w' := by
  obtain ⟨z0, _⟩ := h.cells
  have hQ := h.lt
  have HB := hide (below1 w (.cells #[.int .u64 0, .int .u64 0, .int .i64 0] 53))
  rcases Nat.eq_zero_or_pos l.length with h0 | h0
  · have e1 : fstS l = sp0 := by rw [List.eq_nil_of_length_eq_zero h0]; rfl
    have e2 : decide (0 < l.length) = false := by simp; exact List.eq_nil_of_length_eq_zero h0
    rw [e1, e2]
    obtain ⟨A, c, rfl, _, _⟩ := own_form h.own
    rw [h0] at z0
    clear h e1 e2 h0
    go_enter Try.func54, Try.ntmps54
    go_wp2
    exact bodyPost_ret (v := .tuple #[aggS sp0, .bool false]) (by simp [results, Try.results54, go_sem, aggS, sp0]) rfl ⟨rfl, below1 _ _⟩
  · obtain ⟨g, cap, rfl, hrow, hc, hm⟩ := h.form h0
    obtain ⟨x, hx⟩ : ∃ x, l[0]? = some x := ⟨_, List.getElem?_eq_getElem h0⟩
    have e1 : fstS l = x := by unfold fstS; rw [hx]; rfl
    have e2 : decide (0 < l.length) = true := by simp; omega
    rw [e1, e2]
    obtain ⟨x0, x1, x2⟩ := RowS.cells hrow hx
    simp only [Nat.zero_mul, Nat.zero_add] at x0 x1 x2
    have hg : g < w.heap.size := RowS.lt hrow
    have g0 : (0 : Int) < (l.length : Int) := by omega
    have g1 : ((l.length : Int) == 0) = false := by rw [beq_eq_false_iff_ne]; omega
    generalize l.length = n at *
    clear h e1 e2 hrow hx
    go_enter Try.func54, Try.ntmps54
    go_wp2
    exact bodyPost_ret (v := .tuple #[aggS x, .bool true]) (by simp [results, Try.results54, go_sem, aggS]) rfl ⟨rfl, below1 _ _⟩
end Go.Proofs.Ytphbdffgeeicaaa
