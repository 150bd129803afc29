/-
  Texts of one part, put together. No condition.
-/
import Derived.Test.YtgiplahhalgbdaaGreatMgT
import Derived.Deep.RegionLaw
/-
  The package queue: the two orders; push. Conditions: the heap's blocks lie as said, its order is told by a function.
-/
namespace Go.Proofs.YtgiplahhalgbdaaGreat
set_option linter.unusedSimpArgs false
set_option linter.unusedVariables false
open Go.RowKit

theorem aheadSpot : Ahead 91 sptLt := ⟨enters_of Tryz.func91 (by kernel_rfl) rfl, fun a b w => spot_any a b w⟩
def sptGt (a b : Spt) : Bool := sptLt b a
theorem swoG : Go.Sort.SWO sptGt where
  irrefl x := swoS.irrefl x
  trans x y z h1 h2 := swoS.trans z y x h2 h1
  ntrans x y z h1 h2 := swoS.ntrans z y x h2 h1
set_option maxHeartbeats 1000000 in
theorem behind_any (a b : Spt) (w : World) : Calls Tryz.prog 92 #[.agg #[.int .u64 a.1.1, .int .u64 a.1.2, .int .i64 a.2], .agg #[.int .u64 b.1.1, .int .u64 b.1.2, .int .i64 b.2]] w fun e w' => e = .returned (.bool (sptGt a b)) ∧ Below w.heap.size w w' := by
  have HC := hide (fun W => spot_any b a W)
  have HG := hide (show sptGt a b = sptLt b a from rfl)
  have HB := hide (below2 w (.cells #[.int .u64 a.1.1, .int .u64 a.1.2, .int .i64 a.2] 60) (.cells #[.int .u64 b.1.1, .int .u64 b.1.2, .int .i64 b.2] 60))
  go_enter Tryz.func92, Tryz.ntmps92
  go_wp2_with (go_at_call 91; refine (HC.out _).mono ?_; rintro e w' ⟨rfl, hb⟩; have HB1 := hide (Below.step HB.out hb); clear hb)
  go_ret
  exact ⟨by rw [HG.out]; rfl, HB1.out⟩
theorem aheadBehind : Ahead 92 sptGt := ⟨enters_of Tryz.func92 (by kernel_rfl) rfl, fun a b w => behind_any a b w⟩

/-- what a call that turns the heap leaves: its spots are m's, in some order that is a heap's -/
def HpDone (w w' : World) (B Q : Nat) (t : TypeId) (ex : Array Value) (f : FuncId) (lt : Spt → Spt → Bool) (v : Value) (m : List Spt) : Prop :=
  ∃ (l' : List Spt) (v' : Value), Heap lt l' ∧ l'.Perm m ∧ HpAt w' B Q t ex f v' l' ∧ TurnH w w' Q v ∧ ∀ d, v'.ownBlock = some d → v.ownBlock = some d ∨ w.heap.size ≤ d
theorem reads_new3 (w : World) (x : Spt) (e : TypeId) : Reads (w.alloc (.cells #[.int .u64 x.1.1, .int .u64 x.1.2, .int .i64 x.2] e)).drew (w.heap.size + 1) 3 (some ⟨w.heap.size, 0, none⟩) 1 (encS x) :=
  ⟨rfl, fun _ => ⟨_, rfl, Nat.lt_succ_self _, fun j u hv => by
    unfold encS at hv
    rcases j with _ | _ | _ | j
    · simp at hv; subst hv
      rw [add_mk, World.cell?_drew, cell_of_row _ _ _ _ _ _ (heap_alloc_new w _)]; rfl
    · simp at hv; subst hv
      rw [add_mk, World.cell?_drew, cell_of_row _ _ _ _ _ _ (heap_alloc_new w _)]; rfl
    · simp at hv; subst hv
      rw [add_mk, World.cell?_drew, cell_of_row _ _ _ _ _ _ (heap_alloc_new w _)]; rfl
    · simp at hv⟩⟩
theorem set0_app (a b x : Value) (ex : Array Value) : (#[a, b] ++ ex).setIfInBounds 0 x = #[x, b] ++ ex := by
  apply Array.ext'
  simp
theorem HpAt.low {w : World} {B Q : Nat} {t : TypeId} {ex : Array Value} {f : FuncId} {v : Value} {l : List Spt} (h : HpAt w B Q t ex f v l) : Q < w.heap.size ∧ ∀ d, v.ownBlock = some d → d < w.heap.size := ⟨h.q.lt, fun d hd => (h.own.lt d hd).2⟩
theorem push_mid {w w1 w9 : World} {B Q : Nat} {t : TypeId} {ex : Array Value} {f : FuncId} {v v9 : Value} {l : List Spt} {s : Spt} {bx : Nat} {o : Obj} (hbx : w.heap.size = bx) (h1 : HpAt w1 B Q t ex f v l) (hb1 : Below bx w w1)
    (hO9 : w9.ownsRow B 60 3 v9 (l.length + 1) (fcs encS l ++ encS s)) (hG : (w1.alloc o).drew.grownBy w9 v.ownBlock) (hA : v9.ownBlock = v.ownBlock ∨ v9.ownBlock = some (w1.alloc o).drew.heap.size) (hQ9 : Blk w9 Q t (#[v, .func (.func f) #[] #[]] ++ ex)) :
    HpAt (w9.setCell ⟨Q, 0, none⟩ v9) B Q t ex f v9 (l ++ [s]) ∧ TurnH w (w9.setCell ⟨Q, 0, none⟩ v9) Q v ∧ ∀ d, v9.ownBlock = some d → v.ownBlock = some d ∨ w.heap.size ≤ d := by
  subst hbx
  have hs : (w1.alloc o).drew.heap.size = w1.heap.size + 1 := by simp
  have hsz := hb1.size
  have hlt := h1.low
  have hne : ∀ d, v9.ownBlock = some d → d ≠ Q := fun d hd e => by
    subst e
    rcases hA with e | e
    · exact h1.neQ (e ▸ hd)
    · rw [hd, hs] at e; injection e with e; have := hlt.1; omega
  refine ⟨⟨?_, ?_, h1.ne, h1.hQ⟩, ⟨hG.os.trans hb1.os, hG.tape.trans hb1.tape, hG.output.trans hb1.output, by have := hG.size; rw [hs] at this; simp; omega, fun k hk a b => ?_⟩, fun d hd => ?_⟩
  · have := hQ9.set_ 0 v9
    rwa [set0_app] at this
  · rw [List.length_append, fcs_snoc]
    exact own_keep hO9 fun g hg => Below.heap_setCell _ _ _ _ (hne g hg)
  · rw [Below.heap_setCell _ _ _ _ a, hG.block k (by rw [hs]; omega) b, ← hb1.block k hk]
    exact Below.heap_alloc w1 o k (by omega)
  · rcases hA with e | e
    · exact .inl (e ▸ hd)
    · rw [hd, hs] at e; injection e with e; right; omega
set_option maxHeartbeats 4000000 in
theorem push_any {f : FuncId} {lt : Spt → Spt → Bool} (ha : Ahead f lt) (hS : Go.Sort.SWO lt) {w : World} {B Q : Nat} {t : TypeId} {ex : Array Value} {v : Value} {l : List Spt} (h : HpAt w B Q t ex f v l) (hh : Heap lt l) (s : Spt) (hsz : l.length ≤ 500000) :
    Calls Tryz.prog 106 #[.pointer (some ⟨Q, 0, none⟩), .agg #[.int .u64 s.1.1, .int .u64 s.1.2, .int .i64 s.2]] w fun e w' => e = .returned (.tuple #[]) ∧ HpDone w w' B Q t ex f lt v (l ++ [s]) := by
  have HA := hide ha
  have HS := hide hS
  have HH := hide hh
  have H := hide h
  clear ha hS hh h
  go_enter Tryz.func106, Tryz.ntmps106
  go_upto_region 1 with fail
  have HB1 := hide (below1 w (.cells #[.int .u64 s.1.1, .int .u64 s.1.2, .int .i64 s.2] 60))
  have HN := hide (Blk.new w 60 #[.int .u64 s.1.1, .int .u64 s.1.2, .int .i64 s.2])
  generalize World.alloc w _ = w1 at *
  generalize hbx : w.heap.size = bx at *
  have H1 := hide (show HpAt w1 B Q t ex f v l from H.out.below (by rw [hbx]; exact HB1.out))
  have Hbx := hide hbx
  clear hbx
  obtain ⟨A, c, rfl, o1, o2⟩ := own_form H1.out.own
  obtain ⟨z0, _⟩ := H1.out.cells
  have x0 : w1.cell? ⟨bx, 0, none⟩ = some (.int .u64 s.1.1) := HN.out.cell 0
  have x1 : w1.cell? ⟨bx, 1, none⟩ = some (.int .u64 s.1.2) := HN.out.cell 1
  have x2 : w1.cell? ⟨bx, 2, none⟩ = some (.int .i64 s.2) := HN.out.cell 2
  have hQ := H1.out.lt
  have hb := HN.out.lt
  have hBQ := H1.out.hQ
  obtain ⟨i0, hi0, hz0, hz1, hz2⟩ := info_parts info_spot
  have HO := hide H1.out.own
  go_region_law ((refine step_append_any _ rfl (.tmp 8) (.tmp 10) 57 rfl B 60 i0 _ 3 24 Tryz.underlying57 hi0 hz0 hz1 hz2 rfl (by decide) (.slice A l.length c) l.length _ rfl (own_keep (HO.out.alloc _) fun _ _ => rfl) _ _ 1 1 (encS s) rfl (reads_new3 w1 s _) (flatS.one s) (by simp only [maxLen]; omega) (by omega) (by simp; omega) ?_; intro v' w9 hown9 hgr9 hat9; obtain ⟨A9, c9, rfl, k1, k2⟩ := own_form hown9; have HO9 := hide hown9; have HG9 := hide hgr9; have HA9 := hide hat9; have q9 := ((H1.out.q.alloc (.cells #[.int .u64 s.1.1, .int .u64 s.1.2, .int .i64 s.2] 60)).drew).grown hgr9 (fun e => H1.out.neQ e.symm); have HQ9 := hide q9; have z9 : w9.cell? ⟨Q, 0, none⟩ = some (.slice A l.length c) := (by rw [q9.cell]; simp [Array.getElem?_append]); have f9 := q9.frozen 0; clear hown9 hgr9 hat9 q9))
  all_goals
    obtain ⟨hp, ht, hv⟩ := push_mid (s := s) Hbx.out H1.out HB1.out HO9.out HG9.out HA9.out HQ9.out
    generalize World.setCell w9 ⟨Q, 0, none⟩ (.slice A9 (l.length + 1) c9) = w10 at hp ht ⊢
    have hl1 : (l ++ [s]).length = l.length + 1 := by simp
    obtain ⟨g, cap, e, _, k3, k4⟩ := hp.form (by omega)
    injection e with e1 e2 e3
    subst e1 e3
    rw [hl1] at k3
    have HUP := hide (up_any HA.out HS.out hp hl1 (HH.out.up s) k3 k4 (by omega))
    have HT := hide ht
    have HV := hide hv
    have HP := hide hp
    obtain ⟨y0, _⟩ := hp.cells
    clear z0 x0 x1 x2 z9 f9 hp ht hv e2 hl1
    go_wp2_with (go_at_call 112; refine HUP.out.mono ?_; rintro e w11 ⟨rfl, l', r1, r2, r3, r4⟩; have HR := hide (show HpDone w w11 B Q t ex f lt (.slice A l.length c) (l ++ [s]) from ⟨l', _, r1, r2, r3, HT.out.trans r4 HV.out, HV.out⟩); clear r1 r2 r3 r4)
    go_end0
    exact ⟨rfl, HR.out⟩
end Go.Proofs.YtgiplahhalgbdaaGreat

/-
  The package queue: pop, first. Conditions: the heap's blocks lie as said, its order is told by a function.
-/
namespace Go.Proofs.YtgiplahhalgbdaaGreat
set_option linter.unusedSimpArgs false
set_option linter.unusedVariables false
open Go.RowKit

theorem fcs_take (l : List Spt) (m : Nat) : (fcs encS l).take (m * 3) = fcs encS (l.take m) := by
  induction l generalizing m with
  | nil => simp [fcs]
  | cons x l ih =>
    rcases m with _ | m
    · simp [fcs]
    · rw [fcs_cons, List.take_succ_cons, fcs_cons, ← ih m, show (m + 1) * 3 = 3 + m * 3 by omega, show 3 = (encS x).length from rfl, List.take_length_add_append]
theorem own_take3 {w : World} {base n m c : Nat} {A : Option Addr} {l : List Spt} (h : w.ownsRow base 60 3 (.slice A n c) n (fcs encS l)) (hm : m ≤ n) : w.ownsRow base 60 3 (.slice A m c) m (fcs encS (l.take m)) := by
  have hl : l.length = n := by have := h.1; rw [flatS.clen] at this; exact Nat.eq_of_mul_eq_mul_right flatS.pos this
  refine ⟨by rw [flatS.clen, List.length_take, Nat.min_eq_left (by omega)]; rfl, ?_⟩
  rcases h.2 with ⟨h1, h2⟩ | ⟨g, cap, cur, h1, h2, h3, h4, h5, h6, h7⟩
  · injection h1 with h1 h1' h1''
    subst h1 h1' h1''
    have : m = 0 := by omega
    subst this
    exact .inl ⟨rfl, rfl⟩
  · injection h1 with h1 _ h1''
    subst h1 h1''
    refine .inr ⟨g, c, cur, rfl, h2, h3, by omega, h5, h6, ?_⟩
    rw [← fcs_take, ← h7, List.take_take, Nat.min_eq_left (by omega)]
/-- the slice is cut -/
theorem HpAt.cut {w : World} {B Q : Nat} {t : TypeId} {ex : Array Value} {f : FuncId} {A : Option Addr} {k cap : Nat} {l : List Spt} (h : HpAt w B Q t ex f (.slice A k cap) l) (hk : l.length = k) {n : Nat} (hn : n ≤ k) : HpAt (w.setCell ⟨Q, 0, none⟩ (.slice A n cap)) B Q t ex f (.slice A n cap) (l.take n) := by
  have ho := h.own
  rw [hk] at ho
  have hne : ∀ g, (Value.slice A k cap).ownBlock = some g → g ≠ Q := fun g hg e => h.neQ (e ▸ hg)
  refine ⟨?_, ?_, h.ne, h.hQ⟩
  · have := h.q.set_ 0 (.slice A n cap)
    rwa [set0_app] at this
  · rw [List.length_take, Nat.min_eq_left (by omega)]
    exact own_keep (own_take3 ho hn) fun g hg => Below.heap_setCell _ _ _ _ (hne g (by
      rcases A with _ | a
      · simp [Value.ownBlock] at hg
      · simpa [Value.ownBlock] using hg))
theorem setQ_turn {w : World} {Q : Nat} {v u : Value} : TurnH w (w.setCell ⟨Q, 0, none⟩ u) Q v := ⟨rfl, rfl, rfl, by simp, fun k _ hk _ => Below.heap_setCell _ _ _ _ hk⟩
set_option maxHeartbeats 4000000 in
theorem pop_any {f : FuncId} {lt : Spt → Spt → Bool} (ha : Ahead f lt) (hS : Go.Sort.SWO lt) {w : World} {B Q : Nat} {t : TypeId} {ex : Array Value} {v : Value} {l : List Spt} {x : Spt} (h : HpAt w B Q t ex f v l) (hh : Heap lt l) (hx : l[0]? = some x) (hsz : l.length ≤ 500000) :
    Calls Tryz.prog 109 #[.pointer (some ⟨Q, 0, none⟩)] w fun e w' => e = .returned (.tuple #[]) ∧ ∃ m, (x :: m).Perm l ∧ HpDone w w' B Q t ex f lt v m := by
  have hl0 : 0 < l.length := (List.getElem?_eq_some_iff.1 hx).1
  obtain ⟨g, cap, rfl, hrow, hc, hm⟩ := h.form hl0
  obtain ⟨n, hn⟩ : ∃ n, l.length = n + 1 := ⟨l.length - 1, by omega⟩
  obtain ⟨y, hy⟩ : ∃ y, l[n]? = some y := ⟨_, List.getElem?_eq_getElem (by omega)⟩
  obtain ⟨z0, _⟩ := h.cells
  obtain ⟨x0, x1, x2⟩ := RowS.cells hrow hx
  obtain ⟨y0, y1, y2⟩ := RowS.cells hrow hy
  have f0 := RowS.frozen hrow (0 * 3)
  have f1 := RowS.frozen hrow (0 * 3 + 1)
  have f2 := RowS.frozen hrow (0 * 3 + 2)
  have hQf := h.q.frozen 0
  simp only [Nat.zero_mul, Nat.zero_add] at x0 x1 x2 f0 f1 f2
  have k2 := h.put hl0 y
  have hgQ : g ≠ Q := fun e => h.neQ (by rw [e]; rfl)
  have H := hide h
  have HH := hide hh
  have Hx := hide hx
  have Hy := hide hy
  have Hn := hide hn
  have K2 := hide k2
  have HA := hide ha
  have HS := hide hS
  have HPm := hide (pop_perm hn hx hy)
  have HDn := hide (hh.pop (x := x) (y := y) hn)
  rw [hn] at z0 hc
  have hw : ((n + 1 : Nat) : Int) - 1 = n := by omega
  have g1 : (n : Int) < ((n + 1 : Nat) : Int) := by omega
  have g2 : (0 : Int) ≤ n := by omega
  have g3 : (0 : Int) < ((n + 1 : Nat) : Int) := by omega
  have hcap : n ≤ cap := by omega
  have hsn : n ≤ 499999 := by omega
  clear h hh hx hy k2 ha hS hrow hl0 hn hsz
  go_enter Tryz.func109, Tryz.ntmps109
  go_upto_region 1 with fail
  go_region
  have HP4 := hide (show HpAt (((w.setCell ⟨g, 0, none⟩ (.int .u64 y.1.1)).setCell ⟨g, 1, none⟩ (.int .u64 y.1.2)).setCell ⟨g, 2, none⟩ (.int .i64 y.2)).drew B Q t ex f (.slice (some ⟨g, 0, none⟩) (n + 1) cap) (l.set 0 y) from by
    have k := K2.out.below (Below.refl _ _).drew
    rw [List.length_set, Hn.out] at k
    simpa [put3] using k)
  have HT4 := hide (show TurnH w (((w.setCell ⟨g, 0, none⟩ (.int .u64 y.1.1)).setCell ⟨g, 1, none⟩ (.int .u64 y.1.2)).setCell ⟨g, 2, none⟩ (.int .i64 y.2)).drew Q (.slice (some ⟨g, 0, none⟩) (n + 1) cap) from by
    have k : TurnH w (put3 w g 0 y).drew Q (.slice (some ⟨g, 0, none⟩) (n + 1) cap) := put3_turn.trans (v' := .slice (some ⟨g, 0, none⟩) (n + 1) cap) (TurnH.of_below (Below.refl _ _).drew) fun d hd => .inl hd
    simpa [put3] using k)
  clear x0 x1 x2 y0 y1 y2 f0 f1 f2 z0 hQf K2
  generalize World.drew _ = w4 at *
  obtain ⟨z0, _⟩ := HP4.out.cells
  have hQf := HP4.out.q.frozen 0
  go_upto_region 3 with fail
  have HP5 := hide (HP4.out.cut (by rw [List.length_set, Hn.out]) (show n ≤ n + 1 by omega))
  have HT5 := hide (HT4.out.trans (v' := .slice (some ⟨g, 0, none⟩) (n + 1) cap) (setQ_turn (w := w4) (Q := Q) (u := .slice (some ⟨g, 0, none⟩) n cap)) fun d hd => .inl hd)
  clear z0 hQf HP4
  generalize World.setCell w4 ⟨Q, 0, none⟩ (.slice (some ⟨g, 0, none⟩) n cap) = w5 at *
  have HC := hide (down_any HA.out HS.out HP5.out (by rw [List.length_take, List.length_set, Hn.out]; omega) HDn.out hcap hm (by omega))
  go_wp2_with (go_at_call 114; refine HC.out.mono ?_; rintro e w6 ⟨rfl, l', r1, r2, r3, r4⟩; have HR := hide (show HpDone w w6 B Q t ex f lt (.slice (some ⟨g, 0, none⟩) l.length cap) ((l.set 0 y).take n) from ⟨l', _, r1, r2, r3, by have := HT5.out.trans r4 (fun d hd => .inl hd); rw [Hn.out]; exact this, fun d hd => .inl hd⟩); clear r1 r2 r3 r4)
  go_end0
  exact ⟨rfl, _, HPm.out, HR.out⟩
def sp0 : Spt := ((0, 0), 0)
def fstS (l : List Spt) : Spt := l[0]?.getD sp0
def aggS (s : Spt) : Value := .agg #[.int .u64 s.1.1, .int .u64 s.1.2, .int .i64 s.2]
set_option maxHeartbeats 2000000 in
theorem first_any {f : FuncId} {w : World} {B Q : Nat} {t : TypeId} {ex : Array Value} {v : Value} {l : List Spt} (h : HpAt w B Q t ex f v l) :
    Calls Tryz.prog 113 #[.pointer (some ⟨Q, 0, none⟩)] w fun e w' => e = .returned (.tuple #[aggS (fstS l), .bool (decide (0 < l.length))]) ∧ Below w.heap.size w w' := by
  obtain ⟨z0, _⟩ := h.cells
  have hQ := h.lt
  have HB := hide (below1 w (.cells #[.int .u64 0, .int .u64 0, .int .i64 0] 60))
  rcases Nat.eq_zero_or_pos l.length with h0 | h0
  · have e1 : fstS l = sp0 := by rw [List.eq_nil_of_length_eq_zero h0]; rfl
    have e2 : decide (0 < l.length) = false := by simp; exact List.eq_nil_of_length_eq_zero h0
    rw [e1, e2]
    obtain ⟨A, c, rfl, _, _⟩ := own_form h.own
    rw [h0] at z0
    clear h e1 e2 h0
    go_enter Tryz.func113, Tryz.ntmps113
    go_wp2
    exact bodyPost_ret (v := .tuple #[aggS sp0, .bool false]) (by simp [results, Tryz.results113, go_sem, aggS, sp0]) rfl ⟨rfl, below1 _ _⟩
  · obtain ⟨g, cap, rfl, hrow, hc, hm⟩ := h.form h0
    obtain ⟨x, hx⟩ : ∃ x, l[0]? = some x := ⟨_, List.getElem?_eq_getElem h0⟩
    have e1 : fstS l = x := by unfold fstS; rw [hx]; rfl
    have e2 : decide (0 < l.length) = true := by simp; omega
    rw [e1, e2]
    obtain ⟨x0, x1, x2⟩ := RowS.cells hrow hx
    simp only [Nat.zero_mul, Nat.zero_add] at x0 x1 x2
    have hg : g < w.heap.size := RowS.lt hrow
    have g0 : (0 : Int) < (l.length : Int) := by omega
    have g1 : ((l.length : Int) == 0) = false := by rw [beq_eq_false_iff_ne]; omega
    generalize l.length = n at *
    clear h e1 e2 hrow hx
    go_enter Tryz.func113, Tryz.ntmps113
    go_wp2
    exact bodyPost_ret (v := .tuple #[aggS x, .bool true]) (by simp [results, Tryz.results113, go_sem, aggS]) rfl ⟨rfl, below1 _ _⟩
end Go.Proofs.YtgiplahhalgbdaaGreat

/-
  The package queue: New, Push, Peek, Pop, Len. Conditions: the queue's blocks lie as said.
-/
namespace Go.Proofs.YtgiplahhalgbdaaGreat
set_option linter.unusedSimpArgs false
set_option linter.unusedVariables false
open Go.RowKit

/-- a queue: a heap of spots, the one ahead first -/
abbrev QAt (w : World) (B Q : Nat) (v : Value) (l : List Spt) : Prop := HpAt w B Q 140 #[] 91 v l
abbrev QDone (w w' : World) (B Q : Nat) (v : Value) (m : List Spt) : Prop := HpDone w w' B Q 140 #[] 91 sptLt v m
set_option maxHeartbeats 1000000 in
theorem newQ_any (w : World) : Calls Tryz.prog 71 #[] w fun e w' => ∃ Q, e = .returned (.pointer (some ⟨Q, 0, none⟩)) ∧ QAt w' w.heap.size Q (.slice none 0 0) [] ∧ Below w.heap.size w w' := by
  go_enter Tryz.func71, Tryz.ntmps71
  go_wp2
  go_ret
  exact ⟨_, rfl, ⟨Blk.new _ _ _, World.ownsRow_nil _ _ _ _, by decide, Nat.le_refl _⟩, below1 _ _⟩
section
variable {w : World} {B Q : Nat} {v : Value} {l : List Spt}
theorem HpAt.drawn {w' : World} {t : TypeId} {ex : Array Value} {f : FuncId} (h : HpAt w B Q t ex f v l) (hb : Below w.heap.size w w') {m : List Spt} {lt : Spt → Spt → Bool} {w'' : World} (hd : HpDone w' w'' B Q t ex f lt v m) : HpDone w w'' B Q t ex f lt v m := by
  obtain ⟨l', v', r1, r2, r3, r4, r5⟩ := hd
  have r5' : ∀ d, v'.ownBlock = some d → v.ownBlock = some d ∨ w.heap.size ≤ d := fun d hd => (r5 d hd).imp id fun h => Nat.le_trans hb.size h
  exact ⟨l', v', r1, r2, r3, (TurnH.of_below (Q := Q) (v := v) hb).trans r4 fun d hd => .inl hd, r5'⟩
set_option maxHeartbeats 2000000 in
theorem qPush_any (h : QAt w B Q v l) (hh : Heap sptLt l) (s : Spt) (hsz : l.length ≤ 500000) :
    Calls Tryz.prog 94 #[.pointer (some ⟨Q, 0, none⟩), aggS s] w fun e w' => e = .returned (.tuple #[]) ∧ QDone w w' B Q v (l ++ [s]) := by
  unfold aggS
  have HB1 := hide (below1 w (.cells #[.int .u64 s.1.1, .int .u64 s.1.2, .int .i64 s.2] 60))
  have HN := hide (Blk.new w 60 #[.int .u64 s.1.1, .int .u64 s.1.2, .int .i64 s.2])
  have H := hide h
  have HH := hide hh
  clear h hh
  go_enter Tryz.func94, Tryz.ntmps94
  go_upto_region 2 with fail
  generalize World.alloc w _ = w1 at *
  generalize hbx : w.heap.size = bx at *
  have Hbx := hide hbx
  clear hbx
  have x0 : w1.cell? ⟨bx, 0, none⟩ = some (.int .u64 s.1.1) := HN.out.cell 0
  have x1 : w1.cell? ⟨bx, 1, none⟩ = some (.int .u64 s.1.2) := HN.out.cell 1
  have x2 : w1.cell? ⟨bx, 2, none⟩ = some (.int .i64 s.2) := HN.out.cell 2
  have HD1 := hide (show Below w.heap.size w w1.drew from by rw [Hbx.out]; exact HB1.out.drew)
  have HC := hide (push_any aheadSpot swoS (H.out.below HD1.out) HH.out s hsz)
  go_region_law ((go_simp; go_at_call 106; refine HC.out.mono ?_; rintro e w6 ⟨rfl, hd⟩; have HR := hide (H.out.drawn HD1.out hd); clear hd))
  all_goals
    go_wp2
    go_end0
    exact ⟨rfl, HR.out⟩
set_option maxHeartbeats 1000000 in
theorem qPush_nil (s : Spt) (w : World) : Calls Tryz.prog 94 #[.pointer none, aggS s] w fun e w' => e = .returned (.tuple #[]) ∧ Below w.heap.size w w' := by
  unfold aggS
  go_enter Tryz.func94, Tryz.ntmps94
  go_wp2
  go_end0
  exact ⟨rfl, below1 _ _⟩
end
end Go.Proofs.YtgiplahhalgbdaaGreat

/-
  The package queue: Peek, Pop; the best list: NewBest, Full, Worst. Conditions: the blocks lie as said.
-/
namespace Go.Proofs.YtgiplahhalgbdaaGreat
set_option linter.unusedSimpArgs false
set_option linter.unusedVariables false
open Go.RowKit

/-- three cells of a spot stored into a block -/
theorem spot_stored {w0 w1 : World} {R : Nat} {cs : Array Value} (h : Blk w1 R 60 cs) (hc : cs.size = 3) (hb : Below w0.heap.size w0 w1) (hR : w0.heap.size ≤ R) (s : Spt) :
    Blk (((w1.setCell ⟨R, 0, none⟩ (.int .u64 s.1.1)).setCell ⟨R, 1, none⟩ (.int .u64 s.1.2)).setCell ⟨R, 2, none⟩ (.int .i64 s.2)) R 60 #[.int .u64 s.1.1, .int .u64 s.1.2, .int .i64 s.2] ∧
    Below w0.heap.size w0 (((w1.setCell ⟨R, 0, none⟩ (.int .u64 s.1.1)).setCell ⟨R, 1, none⟩ (.int .u64 s.1.2)).setCell ⟨R, 2, none⟩ (.int .i64 s.2)) := by
  refine ⟨?_, ((hb.setCell hR _).setCell hR _).setCell hR _⟩
  have k := ((h.set_ 0 (.int .u64 s.1.1)).set_ 1 (.int .u64 s.1.2)).set_ 2 (.int .i64 s.2)
  have e : ((cs.setIfInBounds 0 (.int .u64 s.1.1)).setIfInBounds 1 (.int .u64 s.1.2)).setIfInBounds 2 (.int .i64 s.2) = #[.int .u64 s.1.1, .int .u64 s.1.2, .int .i64 s.2] := by
    obtain ⟨l⟩ := cs
    rcases l with _ | ⟨a, _ | ⟨b, _ | ⟨c, _ | ⟨d, l⟩⟩⟩⟩ <;> simp at hc <;> rfl
  rwa [e] at k
theorem HpDone.finish {w w2 w3 w4 : World} {B Q R : Nat} {t : TypeId} {ex : Array Value} {f : FuncId} {lt : Spt → Spt → Bool} {v : Value} {l m : List Spt} (h : HpAt w B Q t ex f v l) (hb : Below w.heap.size w w2) (hd : HpDone w2 w3 B Q t ex f lt v m) (hR : w.heap.size ≤ R) (hR2 : R < w2.heap.size)
    (hk : ∀ k, k ≠ R → w4.heap[k]? = w3.heap[k]?) (e1 : w4.os = w3.os) (e2 : w4.tape = w3.tape) (e3 : w4.output = w3.output) (e4 : w4.heap.size = w3.heap.size) : HpDone w w4 B Q t ex f lt v m := by
  obtain ⟨l', v', r1, r2, r3, r4, r5⟩ := hd
  have hlow := h.low
  have hz := hb.size
  refine ⟨l', v', r1, r2, ⟨(hk Q (by omega)).trans r3.q, own_keep r3.own fun g hg => hk g (by
      rcases r5 g hg with e | e
      · have := hlow.2 g e; omega
      · omega), r3.ne, r3.hQ⟩, ⟨e1.trans (r4.os.trans hb.os), e2.trans (r4.tape.trans hb.tape), e3.trans (r4.output.trans hb.output), by rw [e4]; have := r4.size; omega, fun k hk' a b => ?_⟩, fun d hd => (r5 d hd).imp id fun h => Nat.le_trans hz h⟩
  rw [hk k (by omega), r4.block k (by omega) a b]
  exact hb.block k hk'
theorem set3_facts (w1 : World) (R : Nat) (s : Spt) : let w4 := ((w1.setCell ⟨R, 0, none⟩ (.int .u64 s.1.1)).setCell ⟨R, 1, none⟩ (.int .u64 s.1.2)).setCell ⟨R, 2, none⟩ (.int .i64 s.2)
    (∀ k, k ≠ R → w4.heap[k]? = w1.heap[k]?) ∧ w4.os = w1.os ∧ w4.tape = w1.tape ∧ w4.output = w1.output ∧ w4.heap.size = w1.heap.size :=
  ⟨fun k hk => by rw [Below.heap_setCell _ _ _ _ hk, Below.heap_setCell _ _ _ _ hk, Below.heap_setCell _ _ _ _ hk], rfl, rfl, rfl, by simp⟩
section
variable {w : World} {B Q : Nat} {v : Value} {l : List Spt}
set_option maxHeartbeats 2000000 in
theorem qPeek_any (h : QAt w B Q v l) : Calls Tryz.prog 110 #[.pointer (some ⟨Q, 0, none⟩)] w fun e w' => e = .returned (.tuple #[aggS (fstS l), .bool (decide (0 < l.length))]) ∧ Below w.heap.size w w' := by
  have HN := hide (Blk.new w 60 #[.int .u64 0, .int .u64 0, .int .i64 0])
  have HB := hide (below1 w (.cells #[.int .u64 0, .int .u64 0, .int .i64 0] 60))
  have HC := hide (first_any (h.below HB.out))
  unfold aggS at *
  generalize fstS l = s at *
  generalize decide (0 < l.length) = b at *
  clear h
  go_enter Tryz.func110, Tryz.ntmps110
  go_wp2_with (go_at_call 113; refine HC.out.mono ?_; rintro e w1 ⟨rfl, hb⟩; have HN1 := hide (HN.out.below hb HN.out.lt); have HB1 := hide (Below.step HB.out hb); have x0 := HN1.out.cell 0; have x1 := HN1.out.cell 1; have x2 := HN1.out.cell 2; have f0 := HN1.out.frozen 0; have f1 := HN1.out.frozen 1; have f2 := HN1.out.frozen 2; simp at x0 x1 x2; clear hb)
  obtain ⟨q, hb⟩ := spot_stored HN1.out rfl HB1.out (Nat.le_refl _) s
  have q0 := q.cell 0
  have q1 := q.cell 1
  have q2 := q.cell 2
  simp at q0 q1 q2
  exact bodyPost_ret (v := .tuple #[.agg #[.int .u64 s.1.1, .int .u64 s.1.2, .int .i64 s.2], .bool b]) (by simp [results, Tryz.results110, go_sem, q0, q1, q2]) rfl ⟨rfl, hb⟩
set_option maxHeartbeats 2000000 in
theorem qPeek_nil (w : World) : Calls Tryz.prog 110 #[.pointer none] w fun e w' => e = .returned (.tuple #[aggS sp0, .bool false]) ∧ Below w.heap.size w w' := by
  go_enter Tryz.func110, Tryz.ntmps110
  go_wp2
  exact bodyPost_ret (v := .tuple #[aggS sp0, .bool false]) (by simp [results, Tryz.results110, go_sem, aggS, sp0]) rfl ⟨rfl, below1 _ _⟩
/-- what a Pop leaves -/
def PopDone (w w' : World) (B Q : Nat) (v : Value) (l : List Spt) : Prop := ∃ m, (l = [] ∧ m = [] ∨ (fstS l :: m).Perm l) ∧ QDone w w' B Q v m
set_option maxHeartbeats 4000000 in
theorem qPop_any (h : QAt w B Q v l) (hh : Heap sptLt l) (hsz : l.length ≤ 500000) : Calls Tryz.prog 97 #[.pointer (some ⟨Q, 0, none⟩)] w fun e w' => e = .returned (.tuple #[aggS (fstS l), .bool (decide (0 < l.length))]) ∧ PopDone w w' B Q v l := by
  have HN := hide (Blk.new w 60 #[.int .u64 0, .int .u64 0, .int .i64 0])
  have HB := hide (below1 w (.cells #[.int .u64 0, .int .u64 0, .int .i64 0] 60))
  have HC := hide (qPeek_any (h.below HB.out))
  have H := hide h
  have HH := hide hh
  obtain ⟨s, hs⟩ : ∃ s, fstS l = s := ⟨_, rfl⟩
  obtain ⟨b, hb⟩ : ∃ b, decide (0 < l.length) = b := ⟨_, rfl⟩
  have HS := hide hs
  have HBB := hide hb
  rw [hs, hb] at HC ⊢
  unfold aggS at *
  clear h hh hs hb
  rcases b with _ | _
  · have hl0 : l = [] := by have := HBB.out; simpa using this
    have HL0 := hide hl0
    clear hl0
    go_enter Tryz.func97, Tryz.ntmps97
    go_upto_region 2 with (go_at_call 110; refine HC.out.mono ?_; rintro e w1 ⟨rfl, hb⟩; have HN1 := hide (HN.out.below hb HN.out.lt); have HB1 := hide (Below.step HB.out hb); clear hb)
    have HN2 := hide (HN1.out.alloc (.cells #[.int .u64 s.1.1, .int .u64 s.1.2, .int .i64 s.2] 60))
    have HP2 := hide (Blk.new w1 60 #[.int .u64 s.1.1, .int .u64 s.1.2, .int .i64 s.2])
    have HB2 := hide (HB1.out.alloc HB1.out.size (.cells #[.int .u64 s.1.1, .int .u64 s.1.2, .int .i64 s.2] 60))
    generalize World.alloc w1 _ = w2 at *
    generalize w1.heap.size = p at *
    have x0 := HN2.out.cell 0
    have x1 := HN2.out.cell 1
    have x2 := HN2.out.cell 2
    have f0 := HN2.out.frozen 0
    have f1 := HN2.out.frozen 1
    have f2 := HN2.out.frozen 2
    have y0 := HP2.out.cell 0
    have y1 := HP2.out.cell 1
    have y2 := HP2.out.cell 2
    simp at x0 x1 x2 y0 y1 y2
    go_wp2
    obtain ⟨q, hb⟩ := spot_stored HN2.out rfl HB2.out (Nat.le_refl _) s
    have q0 := q.cell 0
    have q1 := q.cell 1
    have q2 := q.cell 2
    simp at q0 q1 q2
    exact bodyPost_ret (v := .tuple #[.agg #[.int .u64 s.1.1, .int .u64 s.1.2, .int .i64 s.2], .bool false]) (by simp [results, Tryz.results97, go_sem, q0, q1, q2]) rfl ⟨rfl, [], .inl ⟨HL0.out, rfl⟩, l, v, HH.out, by rw [HL0.out], H.out.below hb, TurnH.of_below hb, fun d hd => .inl hd⟩
  · have hl0 : 0 < l.length := by simpa using HBB.out
    obtain ⟨x, hx⟩ : ∃ x, l[0]? = some x := ⟨_, List.getElem?_eq_getElem hl0⟩
    obtain rfl : s = x := by rw [← HS.out]; unfold fstS; rw [hx]; rfl
    have Hx := hide hx
    clear hx hl0
    go_enter Tryz.func97, Tryz.ntmps97
    go_upto_region 2 with (go_at_call 110; refine HC.out.mono ?_; rintro e w1 ⟨rfl, hb⟩; have HN1 := hide (HN.out.below hb HN.out.lt); have HB1 := hide (Below.step HB.out hb); have HZ := hide (show w.heap.size < w1.heap.size by have := hb.size; simp at this; omega); clear hb)
    have HN2 := hide (HN1.out.alloc (.cells #[.int .u64 s.1.1, .int .u64 s.1.2, .int .i64 s.2] 60))
    have HP2 := hide (Blk.new w1 60 #[.int .u64 s.1.1, .int .u64 s.1.2, .int .i64 s.2])
    have HB2 := hide (HB1.out.alloc HB1.out.size (.cells #[.int .u64 s.1.1, .int .u64 s.1.2, .int .i64 s.2] 60))
    generalize World.alloc w1 _ = w2 at *
    generalize w1.heap.size = p at *
    have HPop := hide (pop_any aheadSpot swoS (H.out.below HB2.out) HH.out Hx.out hsz)
    go_wp2_with (go_at_call 109; refine HPop.out.mono ?_; rintro e w3 ⟨rfl, m, hm, hd⟩; have HM := hide hm; have HD := hide hd; have hT := hd.choose_spec.choose_spec.2.2.2.1; have hlow := H.out.low; have hne : ∀ d, w.heap.size ≤ d → d ≠ Q ∧ some d ≠ v.ownBlock := (fun d hd => ⟨by have := hlow.1; omega, fun e => by have := hlow.2 d e.symm; omega⟩); have n3 : Blk w3 w.heap.size 60 _ := (hT.block _ HN2.out.lt (hne _ (Nat.le_refl _)).1 (hne _ (Nat.le_refl _)).2).trans HN2.out; have p3 : Blk w3 p 60 _ := (hT.block _ HP2.out.lt (hne _ (by have := HZ.out; omega)).1 (hne _ (by have := HZ.out; omega)).2).trans HP2.out; have HN3 := hide n3; have x0 := n3.cell 0; have x1 := n3.cell 1; have x2 := n3.cell 2; have f0 := n3.frozen 0; have f1 := n3.frozen 1; have f2 := n3.frozen 2; have y0 := p3.cell 0; have y1 := p3.cell 1; have y2 := p3.cell 2; simp at x0 x1 x2 y0 y1 y2; clear hm hd hT hne hlow n3 p3)
    obtain ⟨k0, k1, k2, k3, k4⟩ := set3_facts w3 w.heap.size s
    have hfin := HpDone.finish H.out HB2.out HD.out (Nat.le_refl _) (by have := HN2.out.lt; exact this) k0 k1 k2 k3 k4
    have q := ((HN3.out.set_ 0 (.int .u64 s.1.1)).set_ 1 (.int .u64 s.1.2)).set_ 2 (.int .i64 s.2)
    have q0 := q.cell 0
    have q1 := q.cell 1
    have q2 := q.cell 2
    simp at q0 q1 q2
    exact bodyPost_ret (v := .tuple #[.agg #[.int .u64 s.1.1, .int .u64 s.1.2, .int .i64 s.2], .bool true]) (by simp [results, Tryz.results97, go_sem, q0, q1, q2]) rfl ⟨rfl, m, .inr (by rw [HS.out]; exact HM.out), hfin⟩
end
end Go.Proofs.YtgiplahhalgbdaaGreat

/-
  The package queue: the best list: NewBest, Full, Worst, List. Conditions: the blocks lie as said.
-/
namespace Go.Proofs.YtgiplahhalgbdaaGreat
set_option linter.unusedSimpArgs false
set_option linter.unusedVariables false
open Go.RowKit

/-- how many a best list may have -/
def mostB (n : Int) : Nat := min n.toNat 4096
/-- a best list: a heap of spots, the worst first, and how many there may be -/
abbrev BAt (w : World) (B Q : Nat) (k : Nat) (v : Value) (l : List Spt) : Prop := HpAt w B Q 128 #[.int .i64 k] 92 v l
abbrev BDone (w w' : World) (B Q : Nat) (k : Nat) (v : Value) (m : List Spt) : Prop := HpDone w w' B Q 128 #[.int .i64 k] 92 sptGt v m
theorem mostB_eq (n : Int) : min (max n 0) 4096 = (mostB n : Int) := by unfold mostB; omega
theorem BAt.most {w : World} {B Q k : Nat} {v : Value} {l : List Spt} (h : BAt w B Q k v l) : w.cell? ⟨Q, 2, none⟩ = some (.int .i64 k) := by rw [h.q.cell]; simp [Array.getElem?_append]
set_option maxHeartbeats 1000000 in
theorem newB_any (n : Int) (w : World) : Calls Tryz.prog 72 #[.int .i64 n] w fun e w' => ∃ Q, e = .returned (.pointer (some ⟨Q, 0, none⟩)) ∧ BAt w' w.heap.size Q (mostB n) (.slice none 0 0) [] ∧ Below w.heap.size w w' := by
  have HE := hide (mostB_eq n)
  go_enter Tryz.func72, Tryz.ntmps72
  go_wp2
  go_ret
  refine ⟨_, rfl, ⟨?_, World.ownsRow_nil _ _ _ _, by decide, Nat.le_refl _⟩, below1 _ _⟩
  rw [← HE.out]
  exact Blk.new _ _ _
section
variable {w : World} {B Q k : Nat} {v : Value} {l : List Spt}
set_option maxHeartbeats 2000000 in
theorem bFull_any (h : BAt w B Q k v l) : Calls Tryz.prog 107 #[.pointer (some ⟨Q, 0, none⟩)] w fun e w' => e = .returned (.bool (decide (k ≤ l.length))) ∧ Drew w w' := by
  obtain ⟨z0, _⟩ := h.cells
  have z2 := h.most
  obtain ⟨A, c, rfl, _, _⟩ := own_form h.own
  clear h
  generalize l.length = n at *
  go_enter Tryz.func107, Tryz.ntmps107
  go_wp2
  go_quiet (fail)
  go_wp2
  go_ret
  exact ⟨by simp, by first | exact ⟨_, rfl⟩ | exact drewN_drewN' _ _ _⟩
set_option maxHeartbeats 1000000 in
theorem bFull_nil (w : World) : Calls Tryz.prog 107 #[.pointer none] w fun e w' => e = .returned (.bool true) ∧ Drew w w' := by
  go_enter Tryz.func107, Tryz.ntmps107
  go_wp2
  go_quiet (fail)
  go_wp2
  go_ret
  exact ⟨rfl, by first | exact ⟨_, rfl⟩ | exact drewN_drewN' _ _ _⟩
set_option maxHeartbeats 2000000 in
theorem bWorst_any (h : BAt w B Q k v l) : Calls Tryz.prog 108 #[.pointer (some ⟨Q, 0, none⟩)] w fun e w' => e = .returned (.tuple #[aggS (fstS l), .bool (decide (0 < l.length))]) ∧ Below w.heap.size w w' := by
  have HN := hide (Blk.new w 60 #[.int .u64 0, .int .u64 0, .int .i64 0])
  have HB := hide (below1 w (.cells #[.int .u64 0, .int .u64 0, .int .i64 0] 60))
  have HC := hide (first_any (h.below HB.out))
  unfold aggS at *
  generalize fstS l = s at *
  generalize decide (0 < l.length) = b at *
  clear h
  go_enter Tryz.func108, Tryz.ntmps108
  go_wp2_with (go_at_call 113; refine HC.out.mono ?_; rintro e w1 ⟨rfl, hb⟩; have HN1 := hide (HN.out.below hb HN.out.lt); have HB1 := hide (Below.step HB.out hb); have x0 := HN1.out.cell 0; have x1 := HN1.out.cell 1; have x2 := HN1.out.cell 2; have f0 := HN1.out.frozen 0; have f1 := HN1.out.frozen 1; have f2 := HN1.out.frozen 2; simp at x0 x1 x2; clear hb)
  obtain ⟨q, hb⟩ := spot_stored HN1.out rfl HB1.out (Nat.le_refl _) s
  have q0 := q.cell 0
  have q1 := q.cell 1
  have q2 := q.cell 2
  simp at q0 q1 q2
  exact bodyPost_ret (v := .tuple #[.agg #[.int .u64 s.1.1, .int .u64 s.1.2, .int .i64 s.2], .bool b]) (by simp [results, Tryz.results108, go_sem, q0, q1, q2]) rfl ⟨rfl, hb⟩
set_option maxHeartbeats 2000000 in
theorem bList_any (h : BAt w B Q k v l) (hsz : l.length ≤ 500000) : Calls Tryz.prog 61 #[.pointer (some ⟨Q, 0, none⟩)] w fun e w' => ∃ v', e = .returned v' ∧ w'.ownsRow w.heap.size 60 3 v' l.length (fcs encS (srtS l)) ∧ Below w.heap.size w w' := by
  obtain ⟨z0, _⟩ := h.cells
  obtain ⟨A, c, rfl, o1, o2⟩ := own_form h.own
  have HC := hide (sort_any A l.length c l w ((flatS.own h.own).rd fun b hb => hb.2) rfl o1 o2 (by omega))
  clear h
  go_enter Tryz.func61, Tryz.ntmps61
  go_wp2_with (go_at_call 40; refine HC.out.mono ?_; rintro e w1 ⟨v', rfl, ho, hb⟩; have HO := hide ho; have HB := hide hb; clear ho hb)
  go_ret
  exact ⟨_, rfl, HO.out, HB.out⟩
set_option maxHeartbeats 1000000 in
theorem bList_nil (w : World) : Calls Tryz.prog 61 #[.pointer none] w fun e w' => e = .returned (.slice none 0 0) ∧ w = w' := by
  go_enter Tryz.func61, Tryz.ntmps61
  go_wp2
  go_ret
  exact ⟨rfl, rfl⟩
end
end Go.Proofs.YtgiplahhalgbdaaGreat

/-
  The package queue: Offer. Conditions: the blocks lie as said.
-/
namespace Go.Proofs.YtgiplahhalgbdaaGreat
set_option linter.unusedSimpArgs false
set_option linter.unusedVariables false
open Go.RowKit

/-- what an offer answers, and the spots behind it -/
def Off (k : Nat) (l : List Spt) (s : Spt) (r : Bool) (m : List Spt) : Prop :=
  (r = false ∧ m = l ∧ (k = 0 ∨ (k ≤ l.length ∧ sptLt s (fstS l) = false))) ∨
  (r = true ∧ k ≠ 0 ∧ ((l.length < k ∧ m.Perm (l ++ [s])) ∨ (k ≤ l.length ∧ sptLt s (fstS l) = true ∧ ∃ m', (fstS l :: m').Perm l ∧ m.Perm (m' ++ [s]))))
def OfferDone (w : World) (B Q k : Nat) (v : Value) (l : List Spt) (s : Spt) (e : Ending) (w' : World) : Prop := ∃ (r : Bool) (m : List Spt), e = .returned (.bool r) ∧ Off k l s r m ∧ BDone w w' B Q k v m
section
variable {w w1 w2 : World} {B Q : Nat} {t : TypeId} {ex : Array Value} {f : FuncId} {lt : Spt → Spt → Bool} {v v1 : Value} {l l1 m m2 : List Spt}
theorem HpDone.stay (h : HpAt w B Q t ex f v l) (hh : Heap lt l) (hb : Below w.heap.size w w1) : HpDone w w1 B Q t ex f lt v l := ⟨l, v, hh, List.Perm.refl _, h.below hb, TurnH.of_below hb, fun d hd => .inl hd⟩
theorem HpDone.then (ht : TurnH w w1 Q v) (h5 : ∀ d, v1.ownBlock = some d → v.ownBlock = some d ∨ w.heap.size ≤ d) (h2 : HpDone w1 w2 B Q t ex f lt v1 m2) : HpDone w w2 B Q t ex f lt v m2 := by
  obtain ⟨l', v', r1, r2, r3, r4, r5⟩ := h2
  exact ⟨l', v', r1, r2, r3, ht.trans r4 h5, fun d hd => (r5 d hd).elim (h5 d) fun h => .inr (Nat.le_trans ht.size h)⟩
theorem HpDone.perm (h : HpDone w w1 B Q t ex f lt v m) (hp : m.Perm m2) : HpDone w w1 B Q t ex f lt v m2 := by
  obtain ⟨l', v', r1, r2, r⟩ := h
  exact ⟨l', v', r1, r2.trans hp, r⟩
end
section
variable {w : World} {B Q k : Nat} {v : Value} {l : List Spt}
set_option maxHeartbeats 4000000 in
theorem bOffer_any (h : BAt w B Q k v l) (hh : Heap sptGt l) (s : Spt) (hsz : l.length ≤ 400000) :
    Calls Tryz.prog 95 #[.pointer (some ⟨Q, 0, none⟩), aggS s] w (OfferDone w B Q k v l s) := by
  have z2 := h.most
  have hQ := h.lt
  have HB1 := hide (below1 w (.cells #[.int .u64 s.1.1, .int .u64 s.1.2, .int .i64 s.2] 60))
  have HN := hide (Blk.new w 60 #[.int .u64 s.1.1, .int .u64 s.1.2, .int .i64 s.2])
  have H := hide h
  have HH := hide hh
  unfold aggS
  rcases Nat.eq_zero_or_pos k with hk | hk
  · subst hk
    clear h hh
    go_enter Tryz.func95, Tryz.ntmps95
    go_wp2
    go_ret
    exact ⟨false, l, rfl, .inl ⟨rfl, rfl, .inl rfl⟩, HpDone.stay H.out HH.out HB1.out⟩
  have e0 : ((k : Int) == 0) = false := by rw [beq_eq_false_iff_ne]; omega
  have H1 := hide (h.below HB1.out)
  have HF := hide (bFull_any H1.out)
  have Hk := hide hk
  clear h hh hk
  by_cases hf : k ≤ l.length
  · rw [decide_eq_true hf] at HF
    have Hf := hide hf
    clear hf
    have hl0 : 0 < l.length := by have := Hf.out; have := Hk.out; omega
    obtain ⟨x, hx⟩ : ∃ x, l[0]? = some x := ⟨_, List.getElem?_eq_getElem hl0⟩
    have hfx : fstS l = x := by unfold fstS; rw [hx]; rfl
    have Hx := hide hx
    have Hfx := hide hfx
    clear hx hl0 hfx
    go_enter Tryz.func95, Tryz.ntmps95
    go_upto_region 5 with (first
      | (go_at_call 107; refine HF.out.mono ?_; rintro e w2 ⟨rfl, hd⟩; have HB2 := hide (Below.step HB1.out hd.below); have HN2 := hide (HN.out.below hd.below HN.out.lt); clear hd)
      | (go_at_call 108; refine (bWorst_any (H.out.below HB2.out)).mono ?_; rintro e w3 ⟨he, hb⟩; have HB3 := hide (Below.step HB2.out hb); have HN3 := hide (HN2.out.below hb HN2.out.lt); rw [Hfx.out] at he; unfold aggS at he; subst he; clear hb))
    have HB4 := hide (HB3.out.alloc HB3.out.size (.cells #[.int .u64 x.1.1, .int .u64 x.1.2, .int .i64 x.2] 60))
    have HN4 := hide (HN3.out.alloc (.cells #[.int .u64 x.1.1, .int .u64 x.1.2, .int .i64 x.2] 60))
    have HP4 := hide (Blk.new w3 60 #[.int .u64 x.1.1, .int .u64 x.1.2, .int .i64 x.2])
    generalize World.alloc w3 _ = w4 at *
    generalize w3.heap.size = p at *
    have x0 := HN4.out.cell 0
    have x1 := HN4.out.cell 1
    have x2 := HN4.out.cell 2
    have y0 := HP4.out.cell 0
    have y1 := HP4.out.cell 1
    have y2 := HP4.out.cell 2
    simp at x0 x1 x2 y0 y1 y2
    obtain ⟨bb, hbb⟩ : ∃ bb, sptLt s x = bb := ⟨_, rfl⟩
    have HBB := hide hbb
    have HSp := hide (spot_any s x w4)
    rw [hbb] at HSp
    clear hbb
    rcases bb with _ | _
    · go_wp2_with (go_at_call 91; refine HSp.out.mono ?_; rintro e w5 ⟨rfl, hb⟩; have HB5 := hide (Below.step HB4.out hb); clear hb)
      go_ret
      exact ⟨false, l, rfl, .inl ⟨rfl, rfl, .inr ⟨Hf.out, by rw [Hfx.out]; exact HBB.out⟩⟩, HpDone.stay H.out HH.out HB5.out⟩
    · go_upto_region 7 with (go_at_call 91; refine HSp.out.mono ?_; rintro e w5 ⟨rfl, hb⟩; have HB5 := hide (Below.step HB4.out hb); have HN5 := hide (HN4.out.below hb HN4.out.lt); clear hb)
      clear x0 x1 x2 y0 y1 y2
      have HPop := hide (pop_any aheadBehind swoG (H.out.below HB5.out) HH.out Hx.out (by omega))
      go_upto_region 8 with (go_at_call 109; refine HPop.out.mono ?_; rintro e w6 ⟨rfl, m', hm, hd⟩; obtain ⟨l6, v6, r1, r2, r3, r4, r5⟩ := H.out.drawn HB5.out hd; have hT := hd.choose_spec.choose_spec.2.2.2.1; have hlow := H.out.low; have n6 : Blk w6 w.heap.size 60 _ := (hT.block _ HN5.out.lt (by have := hlow.1; omega) (fun e => by have := hlow.2 _ e.symm; omega)).trans HN5.out; have HN6 := hide n6; have R1 := hide r1; have R2 := hide r2; have R3 := hide r3; have R4 := hide r4; have R5 := hide r5; have HM := hide hm; have x0 := n6.cell 0; have x1 := n6.cell 1; have x2 := n6.cell 2; simp at x0 x1 x2; clear hm hd r1 r2 r3 r4 r5 hT hlow n6)
      have hl6 : l6.length ≤ 500000 := by
        have a := R2.out.length_eq
        have b := HM.out.length_eq
        simp at b
        omega
      have HC := hide (push_any aheadBehind swoG (R3.out.below (Below.refl _ _).drew) R1.out s hl6)
      have HD6 := hide (show Below w6.heap.size w6 w6.drew from (Below.refl _ _).drew)
      clear hl6
      go_region_law ((go_simp; go_at_call 106; refine HC.out.mono ?_; rintro e w7 ⟨rfl, hd⟩; have HR := hide (R3.out.drawn HD6.out hd); clear hd))
      all_goals
        go_wp2
        go_ret
        exact ⟨true, m' ++ [s], rfl, .inr ⟨rfl, by have := Hk.out; omega, .inr ⟨Hf.out, by rw [Hfx.out]; exact HBB.out, m', by rw [Hfx.out]; exact HM.out, List.Perm.refl _⟩⟩, (HpDone.then R4.out R5.out HR.out).perm (R2.out.append_right [s])⟩
  · rw [decide_eq_false hf] at HF
    have Hf := hide hf
    clear hf
    go_enter Tryz.func95, Tryz.ntmps95
    go_upto_region 8 with (go_at_call 107; refine HF.out.mono ?_; rintro e w2 ⟨rfl, hd⟩; have HB2 := hide (Below.step HB1.out hd.below); have HN2 := hide (HN.out.below hd.below HN.out.lt); clear hd)
    have x0 := HN2.out.cell 0
    have x1 := HN2.out.cell 1
    have x2 := HN2.out.cell 2
    simp at x0 x1 x2
    have HD2 := hide (show Below w.heap.size w w2.drew from HB2.out.drew)
    have HC := hide (push_any aheadBehind swoG (H.out.below HD2.out) HH.out s (by omega))
    go_region_law ((go_simp; go_at_call 106; refine HC.out.mono ?_; rintro e w7 ⟨rfl, hd⟩; have HR := hide (H.out.drawn HD2.out hd); clear hd))
    all_goals
      go_wp2
      go_ret
      exact ⟨true, l ++ [s], rfl, .inr ⟨rfl, by have := Hk.out; omega, .inl ⟨by have := Hf.out; omega, List.Perm.refl _⟩⟩, HR.out⟩
set_option maxHeartbeats 1000000 in
theorem bOffer_nil (s : Spt) (w : World) : Calls Tryz.prog 95 #[.pointer none, aggS s] w fun e w' => e = .returned (.bool false) ∧ Below w.heap.size w w' := by
  unfold aggS
  go_enter Tryz.func95, Tryz.ntmps95
  go_wp2
  go_ret
  exact ⟨rfl, below1 _ _⟩
set_option maxHeartbeats 1000000 in
theorem qPop_nil (w : World) : Calls Tryz.prog 97 #[.pointer none] w fun e w' => e = .returned (.tuple #[aggS sp0, .bool false]) ∧ Below w.heap.size w w' := by
  have HN := hide (Blk.new w 60 #[.int .u64 0, .int .u64 0, .int .i64 0])
  have HB := hide (below1 w (.cells #[.int .u64 0, .int .u64 0, .int .i64 0] 60))
  have HC := hide (fun W => qPeek_nil W)
  unfold aggS sp0 at *
  go_enter Tryz.func97, Tryz.ntmps97
  go_upto_region 2 with (go_at_call 110; refine (HC.out _).mono ?_; rintro e w1 ⟨rfl, hb⟩; have HN1 := hide (HN.out.below hb HN.out.lt); have HB1 := hide (Below.step HB.out hb); clear hb)
  have HN2 := hide (HN1.out.alloc (.cells #[.int .u64 0, .int .u64 0, .int .i64 0] 60))
  have HP2 := hide (Blk.new w1 60 #[.int .u64 0, .int .u64 0, .int .i64 0])
  have HB2 := hide (HB1.out.alloc HB1.out.size (.cells #[.int .u64 0, .int .u64 0, .int .i64 0] 60))
  generalize World.alloc w1 _ = w2 at *
  generalize w1.heap.size = p at *
  have x0 := HN2.out.cell 0
  have x1 := HN2.out.cell 1
  have x2 := HN2.out.cell 2
  have f0 := HN2.out.frozen 0
  have f1 := HN2.out.frozen 1
  have f2 := HN2.out.frozen 2
  have y0 := HP2.out.cell 0
  have y1 := HP2.out.cell 1
  have y2 := HP2.out.cell 2
  simp at x0 x1 x2 y0 y1 y2
  go_wp2
  obtain ⟨q, hb⟩ := spot_stored HN2.out rfl HB2.out (Nat.le_refl _) sp0
  have q0 := q.cell 0
  have q1 := q.cell 1
  have q2 := q.cell 2
  simp [sp0] at q0 q1 q2
  exact bodyPost_ret (v := .tuple #[.agg #[.int .u64 0, .int .u64 0, .int .i64 0], .bool false]) (by simp [results, Tryz.results97, go_sem, q0, q1, q2]) rfl ⟨rfl, hb⟩
end
end Go.Proofs.YtgiplahhalgbdaaGreat

/-
  The reference's queues: Most, Push. Conditions: the list reads as said.
-/
namespace Go.Proofs.YtgiplahhalgbdaaGreat
set_option linter.unusedSimpArgs false
set_option linter.unusedVariables false
open Go.RowKit

theorem own_lowQ {w : World} {base base' : Nat} {e : TypeId} {k n : Nat} {v : Value} {xs : List Value} (h : w.ownsRow base e k v n xs) (hb : base' ≤ base) : w.ownsRow base' e k v n xs :=
  ⟨h.1, h.2.imp id fun ⟨g, cap, cur, e1, a, b⟩ => ⟨g, cap, cur, e1, Nat.le_trans hb a, b⟩⟩
theorem blk_reads3 {W : World} {g : Nat} {x : Spt} (h : Blk W g 60 #[.int .u64 x.1.1, .int .u64 x.1.2, .int .i64 x.2]) : Reads W W.heap.size 3 (some ⟨g, 0, none⟩) 1 (encS x) :=
  ⟨rfl, fun _ => ⟨_, rfl, h.lt, fun j u hv => by
    unfold encS at hv
    rw [add_mk, Nat.zero_add, h.cell j]
    rcases j with _ | _ | _ | j <;> simp at hv ⊢ <;> exact hv⟩⟩
/-- while the reference's Push is under way -/
structure RP (w : World) (A : Option Addr) (l : List Spt) (W : World) : Prop where
  bel : Below w.heap.size w W
  rd : Rd SP W W.heap.size A l
theorem RP.step {w W W' : World} {A : Option Addr} {l : List Spt} (h : RP w A l W) (hb : Below W.heap.size W W') : RP w A l W' := ⟨Below.step h.bel hb, h.rd.at_world hb⟩
theorem RP.alloc {w W : World} {A : Option Addr} {l : List Spt} (h : RP w A l W) (o : Obj) : RP w A l (W.alloc o) := h.step (below1 W o)
theorem RP.grown {w W W' : World} {A : Option Addr} {l : List Spt} {v : Value} {e : TypeId} {k n : Nat} {xs : List Value} (h : RP w A l W) (ho : W.ownsRow w.heap.size e k v n xs) (hr : Rd SP W w.heap.size A l) (hG : W.grownBy W' v.ownBlock) : RP w A l W' ∧ Rd SP W' w.heap.size A l :=
  have hr' : Rd SP W' w.heap.size A l := hr.grown hG h.bel.size fun g hg => (ho.lt g hg).1
  ⟨⟨below_own h.bel ho h.bel.size hG, hr'.more (Nat.le_trans h.bel.size hG.size)⟩, hr'⟩
end Go.Proofs.YtgiplahhalgbdaaGreat

/-
  The reference's queues: Offer. Conditions: the list reads as said.
-/
namespace Go.Proofs.YtgiplahhalgbdaaGreat
set_option linter.unusedSimpArgs false
set_option linter.unusedVariables false
open Go.RowKit

/-- the last one -/
def lstS (l : List Spt) : Spt := l[l.length - 1]?.getD sp0
/-- the document's best list behind an offer -/
def offR (k : Nat) (l : List Spt) (s : Spt) : List Spt × Bool :=
  if k ≤ l.length ∧ (k = 0 ∨ sptLt s (lstS l) = false) then (l, false) else ((srtS (l ++ [s])).take (lstN k (l.length + 1)), true)
/-- a slice and an answer -/
def GivesO (w : World) (R : Nat → Prop) (r : List Spt × Bool) (e : Ending) (w' : World) : Prop := ∃ A n c, e = .returned (.tuple #[.slice A n c, .bool r.2]) ∧ r.1.length = n ∧ n ≤ c ∧ c ≤ 9223372036854775807 ∧ RdR SP w' (Grow R w w') A r.1 ∧ Below w.heap.size w w'
theorem srtS_idem (l : List Spt) : srtS (srtS l) = srtS l := srt_congr swoS totS srt_perm
theorem grow_new {w w' w'' : World} {R : Nat → Prop} {b : Nat} (hb : Below w.heap.size w w') (h : Btw w'.heap.size w''.heap.size b) : Grow R w w'' b := .inr ⟨Nat.le_trans hb.size h.1, h.2⟩
/-- while the reference's Offer looks at the last one -/
structure RO (w : World) (R : Nat → Prop) (ad : Addr) (l : List Spt) (s : Spt) (W : World) : Prop where
  bel : Below w.heap.size w W
  box : Blk W w.heap.size 60 #[.int .u64 s.1.1, .int .u64 s.1.2, .int .i64 s.2]
  rd : RdR SP W R (some ad) l
theorem RO.step {w W W' : World} {R : Nat → Prop} {ad : Addr} {l : List Spt} {s : Spt} (h : RO w R ad l s W) (hR : ∀ b, R b → b < w.heap.size) (hb : Below W.heap.size W W') : RO w R ad l s W' :=
  ⟨Below.step h.bel hb, h.box.below hb h.box.lt, h.rd.below hb fun b hb' => Nat.lt_of_lt_of_le (hR b hb') h.bel.size⟩
end Go.Proofs.YtgiplahhalgbdaaGreat

/-
  Queues and best lists: plain laws. No condition.
-/
namespace Go.Proofs.YtgiplahhalgbdaaGreat
set_option linter.unusedSimpArgs false
set_option linter.unusedVariables false

theorem srtS_eq {l m : List Spt} (h : m.Perm l) (hp : m.Pairwise fun a b => sptLt b a = false) : m = srtS l := srt_eq swoS totS h hp
theorem srtS_pw (l : List Spt) : (srtS l).Pairwise fun a b => sptLt b a = false := srt_pw swoS l
theorem srtS_perm (l : List Spt) : (srtS l).Perm l := srt_perm
theorem srtS_congr {l m : List Spt} (h : m.Perm l) : srtS m = srtS l := srt_congr swoS totS h
/-- what was put in behind what is in order -/
theorem srtS_push {l m : List Spt} {s : Spt} (h : m.Perm (l ++ [s])) : srtS m = srtS (srtS l ++ [s]) := srtS_congr (h.trans ((srtS_perm l).symm.append_right [s]))
theorem fstS_mem {l : List Spt} {lt : Spt → Spt → Bool} (hS : Go.Sort.SWO lt) (hh : Heap lt l) (a : Spt) (ha : a ∈ l) : lt a (fstS l) = false := by
  obtain ⟨j, hj⟩ := List.getElem?_of_mem ha
  have h0 : 0 < l.length := List.length_pos_of_mem ha
  have hx : l[0]? = some (fstS l) := by unfold fstS; rw [List.getElem?_eq_getElem h0]; rfl
  exact hh.first hS hx j a hj
/-- the first of a queue, and the rest of it -/
theorem srtS_pop {l m : List Spt} (hh : Heap sptLt l) (h : (fstS l :: m).Perm l) : srtS l = fstS l :: srtS m := by
  refine (srtS_eq ((List.Perm.cons _ (srtS_perm m)).trans h) (List.pairwise_cons.2 ⟨fun b hb => ?_, srtS_pw m⟩)).symm
  exact fstS_mem swoS hh b (h.mem_iff.1 (List.mem_cons_of_mem _ ((srtS_perm m).mem_iff.1 hb)))
/-- the last of a best list in order is the worst of its heap -/
theorem srtS_worst {l m : List Spt} (hh : Heap sptGt l) (h : (fstS l :: m).Perm l) : srtS l = srtS m ++ [fstS l] := by
  refine (srtS_eq ((List.perm_append_comm.trans (List.Perm.cons _ (srtS_perm m))).trans h) (List.pairwise_append.2 ⟨srtS_pw m, by simp, fun a ha b hb => ?_⟩)).symm
  rw [List.mem_singleton.1 hb]
  exact fstS_mem swoG hh a (h.mem_iff.1 (List.mem_cons_of_mem _ ((srtS_perm m).mem_iff.1 ha)))
theorem fst_split {l : List Spt} (h : 0 < l.length) : ∃ m, l = fstS l :: m := by
  rcases l with _ | ⟨a, l⟩
  · simp at h
  · exact ⟨l, rfl⟩
theorem lstS_app (l : List Spt) (x : Spt) : lstS (l ++ [x]) = x := by unfold lstS; simp
theorem lstS_worst {l : List Spt} (hh : Heap sptGt l) (h : 0 < l.length) : lstS (srtS l) = fstS l := by
  obtain ⟨m, hm⟩ := fst_split h
  rw [srtS_worst hh (m := m) (by rw [← hm]), lstS_app]
/-- an offer, told from the lists in order -/
theorem off_eq {k : Nat} {l m : List Spt} {s : Spt} {r : Bool} (hh : Heap sptGt l) (hk : l.length ≤ k) (ho : Off k l s r m) : offR k (srtS l) s = (srtS m, r) ∧ m.length ≤ k := by
  unfold offR
  rcases ho with ⟨rfl, rfl, h⟩ | ⟨rfl, hk0, ⟨hl, hp⟩ | ⟨hl, hs, m', hp', hp⟩⟩
  · refine ⟨?_, hk⟩
    rw [if_pos]
    rw [srtS_len]
    rcases h with h | ⟨h1, h2⟩
    · exact ⟨by omega, .inl h⟩
    · refine ⟨h1, ?_⟩
      rcases Nat.eq_zero_or_pos k with e | e
      · exact .inl e
      · exact .inr (by rw [lstS_worst hh (by omega)]; exact h2)
  · have hml := hp.length_eq
    simp only [List.length_append, List.length_cons, List.length_nil] at hml
    refine ⟨?_, by omega⟩
    rw [if_neg (by rw [srtS_len]; omega), srtS_len, List.take_of_length_le (by rw [srtS_len, List.length_append, srtS_len]; unfold lstN; simp; omega), srtS_push hp]
  · have hml := hp.length_eq
    have hml' := hp'.length_eq
    simp only [List.length_append, List.length_cons, List.length_nil] at hml hml'
    refine ⟨?_, by omega⟩
    have hno : ¬ (k ≤ (srtS l).length ∧ (k = 0 ∨ sptLt s (lstS (srtS l)) = false)) := by
      rintro ⟨_, h | h⟩
      · exact hk0 h
      · rw [lstS_worst hh (by omega), hs] at h; cases h
    rw [if_neg hno, srtS_len]
    have e : srtS (srtS l ++ [s]) = srtS m ++ [fstS l] := by
      refine (srtS_eq ?_ (List.pairwise_append.2 ⟨srtS_pw m, by simp, fun a ha b hb => ?_⟩)).symm
      · refine (List.perm_append_comm.trans (List.Perm.cons _ ((srtS_perm m).trans hp))).trans ?_
        exact (hp'.append_right [s]).trans ((srtS_perm l).symm.append_right [s])
      · rw [List.mem_singleton.1 hb]
        rcases List.mem_append.1 (hp.mem_iff.1 ((srtS_perm m).mem_iff.1 ha)) with h | h
        · exact fstS_mem swoG hh a (hp'.mem_iff.1 (List.mem_cons_of_mem _ h))
        · rw [List.mem_singleton.1 h]; exact lt_asymm swoS hs
    rw [e, List.take_append_of_le_length (by rw [srtS_len]; unfold lstN; omega), List.take_of_length_le (by rw [srtS_len]; unfold lstN; omega)]
end Go.Proofs.YtgiplahhalgbdaaGreat

/-
  Several heaps side by side: what one turns leaves the others. No condition.
-/
namespace Go.Proofs.YtgiplahhalgbdaaGreat
set_option linter.unusedSimpArgs false
set_option linter.unusedVariables false
open Go.RowKit

/-- two slices have no block of their own in common -/
def Apart (v v2 : Value) : Prop := ∀ d, v.ownBlock = some d → v2.ownBlock ≠ some d
theorem Apart.symm {v v2 : Value} (h : Apart v v2) : Apart v2 v := fun d h2 h1 => h d h1 h2
theorem Apart.nil (v : Value) : Apart (.slice none 0 0) v := fun d h => by simp [Value.ownBlock] at h
section
variable {w w' : World} {B B2 Q Q2 : Nat} {t t2 : TypeId} {ex ex2 : Array Value} {f f2 : FuncId} {lt : Spt → Spt → Bool} {v v2 : Value} {l l2 m : List Spt}
theorem HpAt.other (h : HpAt w B Q t ex f v l) (h2 : HpAt w B2 Q2 t2 ex2 f2 v2 l2) (ap : Apart v v2) (hQ : Q ≠ Q2) (ht : TurnH w w' Q v) : HpAt w' B2 Q2 t2 ex2 f2 v2 l2 := by
  have n1 := own_blk_ne h.own h2.q h2.ne
  have n2 := own_blk_ne h2.own h.q h.ne
  refine ⟨(ht.block Q2 h2.q.lt (Ne.symm hQ) (fun e => n1 e.symm)).trans h2.q, own_keep h2.own fun g hg => ht.block g (h2.own.lt g hg).2 (fun e => n2 (e ▸ hg)) (fun e => ap g e.symm hg), h2.ne, h2.hQ⟩
/-- a block of another type than a spot's and the heap's stays, and one that neither is -/
theorem HpAt.blk {g : Nat} {u : TypeId} {cs : Array Value} (ht : TurnH w w' Q v) (hg : Blk w g u cs) (h1 : g ≠ Q) (h2 : v.ownBlock ≠ some g) : Blk w' g u cs :=
  (ht.block g hg.lt h1 (fun e => h2 e.symm)).trans hg
theorem Apart.turned {v' : Value} (h2 : HpAt w B2 Q2 t2 ex2 f2 v2 l2) (ap : Apart v v2) (h5 : ∀ d, v'.ownBlock = some d → v.ownBlock = some d ∨ w.heap.size ≤ d) : Apart v' v2 := fun d hd h => by
  rcases h5 d hd with e | e
  · exact ap d e h
  · have := (h2.own.lt d h).2; omega
/-- a heap has turned: the heap, and another one beside it -/
theorem HpDone.beside (h : HpAt w B Q t ex f v l) (h2 : HpAt w B2 Q2 t2 ex2 f2 v2 l2) (ap : Apart v v2) (hQ : Q ≠ Q2) (hd : HpDone w w' B Q t ex f lt v m) :
    ∃ (l' : List Spt) (v' : Value), Heap lt l' ∧ l'.Perm m ∧ HpAt w' B Q t ex f v' l' ∧ HpAt w' B2 Q2 t2 ex2 f2 v2 l2 ∧ Apart v' v2 ∧ TurnH w w' Q v ∧ ∀ d, v'.ownBlock = some d → v.ownBlock = some d ∨ w.heap.size ≤ d := by
  obtain ⟨l', v', r1, r2, r3, r4, r5⟩ := hd
  exact ⟨l', v', r1, r2, r3, h.other h2 ap hQ r4, ap.turned h2 r5, r4, r5⟩
end
/-- three heaps side by side: a queue and two best lists, all from block B on, and what lies in memory beside them -/
structure Tri (w0 w : World) (Q Q2 Q3 k2 k3 : Nat) (v v2 v3 : Value) (l l2 l3 : List Spt) : Prop where
  q : QAt w w0.heap.size Q v l
  b : BAt w w0.heap.size Q2 k2 v2 l2
  c : BAt w w0.heap.size Q3 k3 v3 l3
  hq : Heap sptLt l
  hb : Heap sptGt l2
  hc : Heap sptGt l3
  n12 : Q ≠ Q2
  n13 : Q ≠ Q3
  n23 : Q2 ≠ Q3
  a12 : Apart v v2
  a13 : Apart v v3
  a23 : Apart v2 v3
  bel : Below w0.heap.size w0 w
section
variable {w0 w w' : World} {Q Q2 Q3 k2 k3 : Nat} {v v2 v3 : Value} {l l2 l3 m : List Spt}
theorem Tri.below (h : Tri w0 w Q Q2 Q3 k2 k3 v v2 v3 l l2 l3) (hb : Below w.heap.size w w') : Tri w0 w' Q Q2 Q3 k2 k3 v v2 v3 l l2 l3 :=
  ⟨h.q.below hb, h.b.below hb, h.c.below hb, h.hq, h.hb, h.hc, h.n12, h.n13, h.n23, h.a12, h.a13, h.a23, Below.step h.bel hb⟩
/-- the queue has turned -/
theorem Tri.q_ (h : Tri w0 w Q Q2 Q3 k2 k3 v v2 v3 l l2 l3) (hd : QDone w w' w0.heap.size Q v m) : ∃ l' v', l'.Perm m ∧ Tri w0 w' Q Q2 Q3 k2 k3 v' v2 v3 l' l2 l3 ∧ TurnH w w' Q v ∧ ∀ d, v'.ownBlock = some d → v.ownBlock = some d ∨ w.heap.size ≤ d := by
  obtain ⟨l', v', r1, r2, r3, r4, r5⟩ := hd
  exact ⟨l', v', r2, ⟨r3, h.q.other h.b h.a12 h.n12 r4, h.q.other h.c h.a13 h.n13 r4, r1, h.hb, h.hc, h.n12, h.n13, h.n23, h.a12.turned h.b r5, h.a13.turned h.c r5, h.a23, h.q.turn h.bel r4 h.bel.size⟩, r4, r5⟩
/-- the first best list has turned -/
theorem Tri.b_ (h : Tri w0 w Q Q2 Q3 k2 k3 v v2 v3 l l2 l3) (hd : BDone w w' w0.heap.size Q2 k2 v2 m) : ∃ l' v', l'.Perm m ∧ Tri w0 w' Q Q2 Q3 k2 k3 v v' v3 l l' l3 ∧ TurnH w w' Q2 v2 ∧ ∀ d, v'.ownBlock = some d → v2.ownBlock = some d ∨ w.heap.size ≤ d := by
  obtain ⟨l', v', r1, r2, r3, r4, r5⟩ := hd
  exact ⟨l', v', r2, ⟨h.b.other h.q h.a12.symm h.n12.symm r4, r3, h.b.other h.c h.a23 h.n23 r4, h.hq, r1, h.hc, h.n12, h.n13, h.n23, (h.a12.symm.turned h.q r5).symm, h.a13, h.a23.turned h.c r5, h.b.turn h.bel r4 h.bel.size⟩, r4, r5⟩
/-- the second best list has turned -/
theorem Tri.c_ (h : Tri w0 w Q Q2 Q3 k2 k3 v v2 v3 l l2 l3) (hd : BDone w w' w0.heap.size Q3 k3 v3 m) : ∃ l' v', l'.Perm m ∧ Tri w0 w' Q Q2 Q3 k2 k3 v v2 v' l l2 l' ∧ TurnH w w' Q3 v3 ∧ ∀ d, v'.ownBlock = some d → v3.ownBlock = some d ∨ w.heap.size ≤ d := by
  obtain ⟨l', v', r1, r2, r3, r4, r5⟩ := hd
  exact ⟨l', v', r2, ⟨h.c.other h.q h.a13.symm h.n13.symm r4, h.c.other h.b h.a23.symm h.n23.symm r4, r3, h.hq, h.hb, r1, h.n12, h.n13, h.n23, h.a12, (h.a13.symm.turned h.q r5).symm, (h.a23.symm.turned h.b r5).symm, h.c.turn h.bel r4 h.bel.size⟩, r4, r5⟩
end
end Go.Proofs.YtgiplahhalgbdaaGreat

/-
  The law QueuePlays: a queue and a best list, and the document's lists beside them. No condition.
-/
namespace Go.Proofs.YtgiplahhalgbdaaGreat
set_option linter.unusedSimpArgs false
set_option linter.unusedVariables false
open Go.RowKit

/-- blocks in which the document's lists may lie -/
def FreeQ (W : World) (Q P : Nat) (v v2 : Value) (d : Nat) : Prop := d < W.heap.size ∧ d ≠ Q ∧ d ≠ P ∧ v.ownBlock ≠ some d ∧ v2.ownBlock ≠ some d
/-- the queue (at Q), the best list (at P), the document's lists lx, ly -/
structure PlQ (w wr : World) (Q P k : Nat) (v v2 : Value) (l l2 : List Spt) (Ax Ay : Option Addr) (lx ly : List Spt) : Prop where
  q : QAt wr w.heap.size Q v l
  b : BAt wr w.heap.size P k v2 l2
  hq : Heap sptLt l
  hb : Heap sptGt l2
  ne : Q ≠ P
  ap : Apart v v2
  bel : Below w.heap.size w wr
  x : RdR SP wr (FreeQ wr Q P v v2) Ax lx
  y : RdR SP wr (FreeQ wr Q P v v2) Ay ly
section
variable {w wr wr' : World} {Q P k : Nat} {v v2 : Value} {l l2 lx ly m : List Spt} {Ax Ay A : Option Addr}
theorem FreeQ.size (hs : wr.heap.size ≤ wr'.heap.size) {d : Nat} (h : FreeQ wr Q P v v2 d) : FreeQ wr' Q P v v2 d := ⟨Nat.lt_of_lt_of_le h.1 hs, h.2⟩
theorem PlQ.step (h : PlQ w wr Q P k v v2 l l2 Ax Ay lx ly) (hbl : Below wr.heap.size wr wr') : PlQ w wr' Q P k v v2 l l2 Ax Ay lx ly :=
  ⟨h.q.below hbl, h.b.below hbl, h.hq, h.hb, h.ne, h.ap, Below.step h.bel hbl, (h.x.below hbl fun _ hd => hd.1).more fun _ hd => hd.size hbl.size, (h.y.below hbl fun _ hd => hd.1).more fun _ hd => hd.size hbl.size⟩
/-- a block that came later than the two -/
theorem PlQ.new (h : PlQ w wr Q P k v v2 l l2 Ax Ay lx ly) {d : Nat} (h1 : wr.heap.size ≤ d) (h2 : d < wr'.heap.size) : FreeQ wr' Q P v v2 d := by
  obtain ⟨a1, a2⟩ := h.q.low
  obtain ⟨a3, a4⟩ := h.b.low
  exact ⟨h2, by omega, by omega, fun e => by have := a2 d e; omega, fun e => by have := a4 d e; omega⟩
theorem PlQ.setX (h : PlQ w wr Q P k v v2 l l2 Ax Ay lx ly) (hx : RdR SP wr (FreeQ wr Q P v v2) A m) : PlQ w wr Q P k v v2 l l2 A Ay m ly := ⟨h.q, h.b, h.hq, h.hb, h.ne, h.ap, h.bel, hx, h.y⟩
theorem PlQ.setY (h : PlQ w wr Q P k v v2 l l2 Ax Ay lx ly) (hy : RdR SP wr (FreeQ wr Q P v v2) A m) : PlQ w wr Q P k v v2 l l2 Ax A lx m := ⟨h.q, h.b, h.hq, h.hb, h.ne, h.ap, h.bel, h.x, hy⟩
/-- a call that makes a list -/
theorem PlQ.made (h : PlQ w wr Q P k v v2 l l2 Ax Ay lx ly) (hr : RdR SP wr' (Btw wr.heap.size wr'.heap.size) A m) : RdR SP wr' (FreeQ wr' Q P v v2) A m := hr.more fun _ hd => h.new hd.1 hd.2
theorem PlQ.grow (h : PlQ w wr Q P k v v2 l l2 Ax Ay lx ly) (hs : wr.heap.size ≤ wr'.heap.size) (hr : RdR SP wr' (Grow (FreeQ wr Q P v v2) wr wr') A m) : RdR SP wr' (FreeQ wr' Q P v v2) A m := hr.more fun _ hd => hd.elim (fun e => e.size hs) fun e => h.new e.1 e.2
/-- the queue has turned -/
theorem PlQ.q_ (h : PlQ w wr Q P k v v2 l l2 Ax Ay lx ly) (hd : QDone wr wr' w.heap.size Q v m) : ∃ l' v', l'.Perm m ∧ PlQ w wr' Q P k v' v2 l' l2 Ax Ay lx ly ∧ TurnH wr wr' Q v := by
  obtain ⟨l', v', r1, r2, r3, r4, r5⟩ := hd
  have hk : ∀ A m, RdR SP wr (FreeQ wr Q P v v2) A m → RdR SP wr' (FreeQ wr' Q P v' v2) A m := fun A m hx =>
    (hx.keepBlocks fun d hd => r4.block d hd.1 hd.2.1 fun e => hd.2.2.2.1 e.symm).more fun d hd => ⟨Nat.lt_of_lt_of_le hd.1 r4.size, hd.2.1, hd.2.2.1, fun e => by
      rcases r5 d e with e | e
      · exact hd.2.2.2.1 e
      · have := hd.1; omega, hd.2.2.2.2⟩
  exact ⟨l', v', r2, ⟨r3, h.q.other h.b h.ap h.ne r4, r1, h.hb, h.ne, h.ap.turned h.b r5, h.q.turn h.bel r4 h.bel.size, hk _ _ h.x, hk _ _ h.y⟩, r4⟩
/-- the best list has turned -/
theorem PlQ.b_ (h : PlQ w wr Q P k v v2 l l2 Ax Ay lx ly) (hd : BDone wr wr' w.heap.size P k v2 m) : ∃ l' v', l'.Perm m ∧ PlQ w wr' Q P k v v' l l' Ax Ay lx ly ∧ TurnH wr wr' P v2 := by
  obtain ⟨l', v', r1, r2, r3, r4, r5⟩ := hd
  have hk : ∀ A m, RdR SP wr (FreeQ wr Q P v v2) A m → RdR SP wr' (FreeQ wr' Q P v v') A m := fun A m hx =>
    (hx.keepBlocks fun d hd => r4.block d hd.1 hd.2.2.1 fun e => hd.2.2.2.2 e.symm).more fun d hd => ⟨Nat.lt_of_lt_of_le hd.1 r4.size, hd.2.1, hd.2.2.1, hd.2.2.2.1, fun e => by
      rcases r5 d e with e | e
      · exact hd.2.2.2.2 e
      · have := hd.1; omega⟩
  exact ⟨l', v', r2, ⟨h.b.other h.q h.ap.symm h.ne.symm r4, r3, h.hq, r1, h.ne, (h.ap.symm.turned h.q r5).symm, h.b.turn h.bel r4 h.bel.size, hk _ _ h.x, hk _ _ h.y⟩, r4⟩
end
/-- a deed: its kind, its spot -/
abbrev DeedQ := Int × Spt
def SDQ : Sh DeedQ := Sh.pair (Sh.int .i64) SP
theorem Rd.deedq {w : World} {B : Nat} {A : Option Addr} {l : List DeedQ} (h : Rd SDQ w B A l) {k : Nat} (hk : k < l.length) : ∃ ad d, A = some ad ∧ ad.block < B ∧ l[k]? = some d ∧ w.cell? (ad.add (k * 4)) = some (.int .i64 d.1) ∧ w.cell? ⟨(ad.add (k * 4)).block, (ad.add (k * 4)).off + 1, none⟩ = some (.int .u64 d.2.1.1) ∧ w.cell? ⟨(ad.add (k * 4)).block, (ad.add (k * 4)).off + 2, none⟩ = some (.int .u64 d.2.1.2) ∧ w.cell? ⟨(ad.add (k * 4)).block, (ad.add (k * 4)).off + 3, none⟩ = some (.int .i64 d.2.2) := by
  obtain ⟨ad, x, cs, e, hb, hx, hr, hc⟩ := h.at_ hk
  obtain ⟨c, d, rfl, hr1, hr2⟩ := hr
  obtain ⟨c', d', rfl, hr3, hr4⟩ := hr2
  obtain ⟨c2, d2, rfl, hr5, hr6⟩ := hr3
  have h1 : c = [.int .i64 x.1] := hr1
  have h2 : c2 = [.int .u64 x.2.1.1] := hr5
  have h3 : d2 = [.int .u64 x.2.1.2] := hr6
  have h4 : d' = [.int .i64 x.2.2] := hr4
  subst h1 h2 h3 h4
  have c0 := hc 0 _ rfl
  have c1 := hc 1 _ rfl
  have c2 := hc 2 _ rfl
  have c3 := hc 3 _ rfl
  rw [show SDQ.size = 4 from rfl, ← add_of_add] at c1 c2 c3
  refine ⟨ad, x, e, hb, hx, ?_, c1, c2, c3⟩
  simpa [SDQ, SP, SH, Sh.pair, Sh.int] using c0
end Go.Proofs.YtgiplahhalgbdaaGreat
