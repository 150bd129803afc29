/-
  Texts of one part, put together. No condition.
-/
import Derived.Test.YtlnbeeflifmnjadGreatMgN
import Derived.Test.YtlnbeeflifmnjadGreatRowX
import Derived.Test.YtlnbeeflifmnjadGreatMgK
import Derived.Test.YtlnbeeflifmnjadGreatMgJ
import Derived.Test.YtlnbeeflifmnjadGreatMgM
/-
  The package plane: own. Conditions: the slice of nodes reads as a list, its numbers are small.
-/
namespace Go.Proofs.YtlnbeeflifmnjadGreat
set_option linter.unusedSimpArgs false
set_option linter.unusedVariables false
open Go.RowKit

theorem node_cells {w : World} {R : Nat → Prop} {x : NodeP} {c : List Value} (h : SNode.rd w R x c) : ∃ V cV L cL, c = [.int .u64 x.1.1, .slice V x.1.2.1.length cV, .int .u64 x.1.2.2, .int .i64 x.2.1, .slice L x.2.2.1.length cL, .int .i64 x.2.2.2.1, .int .i64 x.2.2.2.2] ∧ x.1.2.1.length ≤ cV ∧ cV ≤ 9223372036854775807 ∧ RdR (Sh.int .i32) w R V x.1.2.1 ∧ x.2.2.1.length ≤ cL ∧ cL ≤ 9223372036854775807 ∧ RdR (Sh.list (Sh.int .i64)) w R L x.2.2.1 := by
  obtain ⟨b, d, rfl, ⟨b1, d1, rfl, hr1, b2, d2, rfl, ⟨V, cV, hr2, v1, v2, v3⟩, hr3⟩, b4, d4, rfl, hr4, b5, d5, rfl, ⟨L, cL, hr5, l1, l2, l3⟩, b6, d6, rfl, hr6, hr7⟩ := h
  have h1 : b1 = [.int .u64 x.1.1] := hr1
  have h3 : d2 = [.int .u64 x.1.2.2] := hr3
  have h4 : b4 = [.int .i64 x.2.1] := hr4
  have h6 : b6 = [.int .i64 x.2.2.2.1] := hr6
  have h7 : d6 = [.int .i64 x.2.2.2.2] := hr7
  subst h1 hr2 h3 h4 hr5 h6 h7
  exact ⟨V, cV, L, cL, rfl, v1, v2, v3, l1, l2, l3⟩
theorem node_of {w : World} {R : Nat → Prop} (x : NodeP) {V L : Option Addr} {cV cL : Nat} (h1 : x.1.2.1.length ≤ cV) (h2 : cV ≤ 9223372036854775807) (h3 : RdR (Sh.int .i32) w R V x.1.2.1) (h4 : x.2.2.1.length ≤ cL) (h5 : cL ≤ 9223372036854775807) (h6 : RdR (Sh.list (Sh.int .i64)) w R L x.2.2.1) :
    SNode.rd w R x [.int .u64 x.1.1, .slice V x.1.2.1.length cV, .int .u64 x.1.2.2, .int .i64 x.2.1, .slice L x.2.2.1.length cL, .int .i64 x.2.2.2.1, .int .i64 x.2.2.2.2] :=
  ⟨[.int .u64 x.1.1, .slice V x.1.2.1.length cV, .int .u64 x.1.2.2], [.int .i64 x.2.1, .slice L x.2.2.1.length cL, .int .i64 x.2.2.2.1, .int .i64 x.2.2.2.2], rfl, ⟨[.int .u64 x.1.1], [.slice V x.1.2.1.length cV, .int .u64 x.1.2.2], rfl, rfl, [.slice V x.1.2.1.length cV], [.int .u64 x.1.2.2], rfl, ⟨V, cV, rfl, h1, h2, h3⟩, rfl⟩,
    [.int .i64 x.2.1], [.slice L x.2.2.1.length cL, .int .i64 x.2.2.2.1, .int .i64 x.2.2.2.2], rfl, rfl, [.slice L x.2.2.1.length cL], [.int .i64 x.2.2.2.1, .int .i64 x.2.2.2.2], rfl, ⟨L, cL, rfl, h4, h5, h6⟩, [.int .i64 x.2.2.2.1], [.int .i64 x.2.2.2.2], rfl, rfl, rfl⟩
theorem node_ones {w : World} {R : Nat → Prop} (x : NodeP) (c : List Value) (h : SNode.rd w R x c) : ∀ v ∈ c, v.oneCell' = true := by
  obtain ⟨V, cV, L, cL, rfl, _⟩ := node_cells h
  intro v hv
  simp only [List.mem_cons, List.not_mem_nil, or_false] at hv
  rcases hv with rfl | rfl | rfl | rfl | rfl | rfl | rfl <;> rfl
theorem list_cells {w : World} {R : Nat → Prop} {x : List Int} {c : List Value} (h : (Sh.list (Sh.int .i64)).rd w R x c) : ∃ L cL, c = [.slice L x.length cL] ∧ x.length ≤ cL ∧ cL ≤ 9223372036854775807 ∧ RdR (Sh.int .i64) w R L x := by
  obtain ⟨L, cL, h1, h2, h3, h4⟩ := h
  exact ⟨L, cL, h1, h2, h3, h4⟩
theorem list_ones {w : World} {R : Nat → Prop} (x : List Int) (c : List Value) (h : (Sh.list (Sh.int .i64)).rd w R x c) : ∀ v ∈ c, v.oneCell' = true := by
  obtain ⟨L, cL, rfl, _⟩ := list_cells h
  intro v hv
  rw [List.mem_singleton.1 hv]; rfl
theorem info_node : (Tryz.prog.info? 38).map (fun i => (i.zero, i.size, i.bytes)) = some (some (.agg #[.int .u64 0, .slice none 0 0, .int .u64 0, .int .i64 0, .slice none 0 0, .int .i64 0, .int .i64 0]), 7, 88) := by kernel_rfl
theorem info_listI : (Tryz.prog.info? 44).map (fun i => (i.zero, i.size, i.bytes)) = some (some (.slice none 0 0), 1, 24) := by kernel_rfl
set_option maxHeartbeats 1000000 in
theorem cloneNd_any (A : Option Addr) (n c : Nat) (l : List NodeP) (w : World) {R : Nat → Prop} (hx : RdR SNode w R A l) (hR : ∀ d, R d → d < w.heap.size) (hn : l.length = n) (h6 : n ≤ 2000000) :
    Calls Tryz.prog 39 #[.slice A n c] w fun e w' => ∃ v, e = .returned v ∧ (∃ cs, w'.ownsRow w.heap.size 38 7 v n cs ∧ RowX SNode w' R l cs) ∧ Below w.heap.size w w' := by
  have he := fun (W : World) (a : Option Addr) (n c : Nat) => Lib.run_eql_slice_nil (P := Tryz.prog) W 22 38 a n c 0 0 Tryz.underlying22
  rcases A with _ | ad
  · have hl : l = [] := by
      rcases l with _ | ⟨x, l⟩
      · rfl
      · obtain ⟨_, h, _⟩ := hx (by simp)
        cases h
    subst hl
    obtain rfl : n = 0 := by simpa using hn.symm
    go_enter Tryz.func39, Tryz.ntmps39
    go_wp2
    go_ret
    exact ⟨_, rfl, ⟨[], ⟨rfl, .inl ⟨rfl, rfl⟩⟩, RowX.nil⟩, Below.refl _ _⟩
  · have HB := hide (below1 w (.cells #[] 38))
    obtain ⟨cs, hrow, hrd⟩ := RdR.readsX (hx.below (below1 w (.cells #[] 38)) hR) hn hR
    have HR := hide hrd
    have HRow := hide hrow
    have HRr := hide hR
    have HOn := hide (hrow.ones node_ones)
    have HO := hide (own_start w 38 7)
    obtain ⟨i1, hi1, hz1⟩ := Option.map_eq_some_iff.1 info_node
    simp only [Prod.mk.injEq] at hz1
    have HI := hide hi1
    have HZ := hide hz1.1
    have HS := hide hz1.2.1
    have HY := hide hz1.2.2
    clear hx hn hi1 hz1 hrow hrd hR
    go_enter Tryz.func39, Tryz.ntmps39
    go_wp2_with (at_builtin; go_loud (refine wpList_append_any _ rfl _ _ 22 rfl w.heap.size 38 i1 _ 7 88 Tryz.underlying22 HI.out HZ.out HS.out HY.out rfl (by decide) _ 0 [] rfl HO.out _ (some ad) n c cs rfl HR.out HOn.out (by simp only [maxLen]; omega) (by omega) HB.out.size ?_; intro v' w9 hown9 hgr9 _; have HO9 := hide hown9; have HB9 := hide (below_own HB.out HO.out HB.out.size hgr9); have HRw9 := hide (show RowX SNode w9 R l cs from HRow.out.keepBlocks fun d hd => hgr9.block d (by have := HRr.out d hd; simp; omega) (by simp only [Value.ownBlock]; intro e; injection e with e; have h := HRr.out d hd; rw [e] at h; exact Nat.lt_irrefl _ h)); clear hown9 hgr9))
    all_goals go_ret
    all_goals exact ⟨_, rfl, ⟨cs, by have h := HO9.out; rwa [Nat.zero_add] at h, HRw9.out⟩, HB9.out⟩
set_option maxHeartbeats 1000000 in
theorem cloneLs_any (A : Option Addr) (n c : Nat) (l : List (List Int)) (w : World) {R : Nat → Prop} (hx : RdR (Sh.list (Sh.int .i64)) w R A l) (hR : ∀ d, R d → d < w.heap.size) (hn : l.length = n) (h6 : n ≤ 2000000) :
    Calls Tryz.prog 40 #[.slice A n c] w fun e w' => ∃ v, e = .returned v ∧ (∃ cs, w'.ownsRow w.heap.size 44 1 v n cs ∧ RowX (Sh.list (Sh.int .i64)) w' R l cs) ∧ Below w.heap.size w w' := by
  have he := fun (W : World) (a : Option Addr) (n c : Nat) => Lib.run_eql_slice_nil (P := Tryz.prog) W 36 44 a n c 0 0 Tryz.underlying36
  rcases A with _ | ad
  · have hl : l = [] := by
      rcases l with _ | ⟨x, l⟩
      · rfl
      · obtain ⟨_, h, _⟩ := hx (by simp)
        cases h
    subst hl
    obtain rfl : n = 0 := by simpa using hn.symm
    go_enter Tryz.func40, Tryz.ntmps40
    go_wp2
    go_ret
    exact ⟨_, rfl, ⟨[], ⟨rfl, .inl ⟨rfl, rfl⟩⟩, RowX.nil⟩, Below.refl _ _⟩
  · have HB := hide (below1 w (.cells #[] 44))
    obtain ⟨cs, hrow, hrd⟩ := RdR.readsX (hx.below (below1 w (.cells #[] 44)) hR) hn hR
    have HR := hide hrd
    have HRow := hide hrow
    have HRr := hide hR
    have HOn := hide (hrow.ones list_ones)
    have HO := hide (own_start w 44 1)
    obtain ⟨i1, hi1, hz1⟩ := Option.map_eq_some_iff.1 info_listI
    simp only [Prod.mk.injEq] at hz1
    have HI := hide hi1
    have HZ := hide hz1.1
    have HS := hide hz1.2.1
    have HY := hide hz1.2.2
    clear hx hn hi1 hz1 hrow hrd hR
    go_enter Tryz.func40, Tryz.ntmps40
    go_wp2_with (at_builtin; go_loud (refine wpList_append_any _ rfl _ _ 36 rfl w.heap.size 44 i1 _ 1 24 Tryz.underlying36 HI.out HZ.out HS.out HY.out rfl (by decide) _ 0 [] rfl HO.out _ (some ad) n c cs rfl HR.out HOn.out (by simp only [maxLen]; omega) (by omega) HB.out.size ?_; intro v' w9 hown9 hgr9 _; have HO9 := hide hown9; have HB9 := hide (below_own HB.out HO.out HB.out.size hgr9); have HRw9 := hide (show RowX (Sh.list (Sh.int .i64)) w9 R l cs from HRow.out.keepBlocks fun d hd => hgr9.block d (by have := HRr.out d hd; simp; omega) (by simp only [Value.ownBlock]; intro e; injection e with e; have h := HRr.out d hd; rw [e] at h; exact Nat.lt_irrefl _ h)); clear hown9 hgr9))
    all_goals go_ret
    all_goals exact ⟨_, rfl, ⟨cs, by have h := HO9.out; rwa [Nat.zero_add] at h, HRw9.out⟩, HB9.out⟩
theorem set_same {α : Type} {l : List α} {k : Nat} {x : α} (h : l[k]? = some x) : l.set k x = l := by
  refine List.ext_getElem? fun i => ?_
  by_cases e : i = k
  · subst e
    rw [List.getElem?_set_self (List.getElem?_eq_some_iff.1 h).1, h]
  · rw [List.getElem?_set_ne (by omega)]
/-- while own goes: the plane's variable, its nodes in a row of the call's own; what they hold lies below H -/
structure OwW (w : World) (Z : Nat → Prop) (b1 b2 : Nat) (A : Option Addr) (n c : Nat) (en top : Int) (ns : List NodeP) (H : Nat) (W : World) : Prop where
  bel : Below w.heap.size w W
  p : Blk W b1 24 #[.slice A n c, .int .i64 en, .int .i64 top]
  q : ∃ ds, Blk W b2 24 ds ∧ ds.size = 3
  own : ∃ cs, W.ownsRow w.heap.size 38 7 (.slice A n c) n cs ∧ RowX SNode W (fun d => d < H ∧ (Value.slice A n c).ownBlock ≠ some d ∧ d ≠ b1 ∧ d ≠ b2 ∧ ¬ Z d) ns cs
  h1 : w.heap.size ≤ b1
  h2 : w.heap.size ≤ b2
  b12 : b1 ≠ b2
  l1 : b1 < H
  l2 : b2 < H
  lg : ∀ g, (Value.slice A n c).ownBlock = some g → g < H
  hH : H ≤ W.heap.size
  hZ : ∀ d, Z d → d < w.heap.size
section
variable {w W W' : World} {Z : Nat → Prop} {b1 b2 : Nat} {A : Option Addr} {n c : Nat} {en top : Int} {ns : List NodeP} {H H' : Nat}
theorem OwW.raise (h : OwW w Z b1 b2 A n c en top ns H W) (hH : H ≤ H') (hl : H' ≤ W.heap.size) : OwW w Z b1 b2 A n c en top ns H' W := by
  obtain ⟨cs, h1, h2⟩ := h.own
  exact ⟨h.bel, h.p, h.q, ⟨cs, h1, h2.more fun d hd => ⟨by omega, hd.2⟩⟩, h.h1, h.h2, h.b12, by have := h.l1; omega, by have := h.l2; omega, fun g hg => by have := h.lg g hg; omega, hl, h.hZ⟩
/-- what touches nothing below H, but old things -/
theorem OwW.keep (h : OwW w Z b1 b2 A n c en top ns H W) (hb : Below w.heap.size w W') (hs : W.heap.size ≤ W'.heap.size) (hk : ∀ d, d < H → W'.heap[d]? = W.heap[d]?) : OwW w Z b1 b2 A n c en top ns H W' := by
  obtain ⟨cs, h1, h2⟩ := h.own
  obtain ⟨ds, h3, h4⟩ := h.q
  exact ⟨hb, (hk b1 h.l1).trans h.p, ⟨ds, (hk b2 h.l2).trans h3, h4⟩, ⟨cs, own_keep h1 fun g hg => hk g (h.lg g hg), h2.keepBlocks fun d hd => hk d hd.1⟩, h.h1, h.h2, h.b12, h.l1, h.l2, h.lg, Nat.le_trans h.hH hs, h.hZ⟩
theorem OwW.step (h : OwW w Z b1 b2 A n c en top ns H W) (hb : Below W.heap.size W W') : OwW w Z b1 b2 A n c en top ns H W' :=
  h.keep (Below.step h.bel hb) hb.size fun d hd => hb.block d (Nat.lt_of_lt_of_le hd h.hH)
theorem OwW.far (h : OwW w Z b1 b2 A n c en top ns H W) {p : Addr} (hp : H ≤ p.block) (hw : w.heap.size ≤ p.block) (v : Value) : OwW w Z b1 b2 A n c en top ns H (W.setCell p v) :=
  h.keep (h.bel.setCell hw v) (by simp) fun d hd => Below.heap_setCell W p v d (by omega)
theorem OwW.cells (h : OwW w Z b1 b2 A n c en top ns H W) : W.cell? ⟨b1, 0, none⟩ = some (.slice A n c) ∧ W.cell? ⟨b1, 1, none⟩ = some (.int .i64 en) ∧ W.cell? ⟨b1, 2, none⟩ = some (.int .i64 top) := by
  have p0 := h.p.cell 0
  have p1 := h.p.cell 1
  have p2 := h.p.cell 2
  simp at p0 p1 p2
  exact ⟨p0, p1, p2⟩
theorem OwW.nd (h : OwW w Z b1 b2 A n c en top ns H W) : Rd SNode W W.heap.size A ns := by
  obtain ⟨cs, h1, h2⟩ := h.own
  have hH := h.hH
  exact RowX.rd (by decide) h2 h1 (fun d hd => by omega) fun g hg => by have := h.lg g hg; omega
/-- a node's lists, its vector are put anew -/
theorem OwW.setN {g : Nat} (h : OwW w Z b1 b2 (some ⟨g, 0, none⟩) n c en top ns H W) {k : Nat} {x : NodeP} (hx : ns[k]? = some x) (i : Nat) (v : Value) (hi : i < 7)
    (hv : ∀ V cV L cL, x.1.2.1.length ≤ cV → cV ≤ 9223372036854775807 → RdR (Sh.int .i32) W (fun d => d < H ∧ (Value.slice (some ⟨g, 0, none⟩) n c).ownBlock ≠ some d ∧ d ≠ b1 ∧ d ≠ b2 ∧ ¬ Z d) V x.1.2.1 → x.2.2.1.length ≤ cL → cL ≤ 9223372036854775807 → RdR (Sh.list (Sh.int .i64)) W (fun d => d < H ∧ (Value.slice (some ⟨g, 0, none⟩) n c).ownBlock ≠ some d ∧ d ≠ b1 ∧ d ≠ b2 ∧ ¬ Z d) L x.2.2.1 →
      ∃ y : NodeP, y = x ∧ SNode.rd W (fun d => d < H ∧ (Value.slice (some ⟨g, 0, none⟩) n c).ownBlock ≠ some d ∧ d ≠ b1 ∧ d ≠ b2 ∧ ¬ Z d) y (([.int .u64 x.1.1, .slice V x.1.2.1.length cV, .int .u64 x.1.2.2, .int .i64 x.2.1, .slice L x.2.2.1.length cL, .int .i64 x.2.2.2.1, .int .i64 x.2.2.2.2] : List Value).set i v)) : OwW w Z b1 b2 (some ⟨g, 0, none⟩) n c en top ns H (W.setCell ⟨g, k * 7 + i, none⟩ v) := by
  obtain ⟨cs, h1, h2⟩ := h.own
  obtain ⟨ds, h3, h4⟩ := h.q
  have hwg : w.heap.size ≤ g := (h1.lt g rfl).1
  have hg1 : b1 ≠ g := fun e => own_blk_ne h1 h.p (by decide) (by rw [e]; rfl)
  have hg2 : b2 ≠ g := fun e => own_blk_ne h1 h3 (by decide) (by rw [e]; rfl)
  refine ⟨h.bel.setCell hwg v, Blk.far h.p hg1 v, ⟨ds, Blk.far h3 hg2 v, h4⟩, ⟨cs.set (k * 7 + i) v, own_setCell h1 _ v, ?_⟩, h.h1, h.h2, h.b12, h.l1, h.l2, h.lg, by simpa using h.hH, h.hZ⟩
  have h5 : RowX SNode (W.setCell ⟨g, k * 7 + i, none⟩ v) (fun d => d < H ∧ (Value.slice (some ⟨g, 0, none⟩) n c).ownBlock ≠ some d ∧ d ≠ b1 ∧ d ≠ b2 ∧ ¬ Z d) ns cs := h2.keepBlocks fun d hd => Below.heap_setCell W _ v d fun e => hd.2.1 (by rw [e]; rfl)
  have h6 := RowX.set (S := SNode) (k := k) (i := i) (y := x) (v := v) h2 hx hi fun c hc _ => by
    obtain ⟨V, cV, L, cL, rfl, v1, v2, v3, l1, l2, l3⟩ := node_cells hc
    obtain ⟨y, rfl, hy⟩ := hv V cV L cL v1 v2 v3 l1 l2 l3
    exact hy
  rw [set_same hx] at h6
  exact h6.keepBlocks fun d hd => Below.heap_setCell W _ v d fun e => hd.2.1 (by rw [e]; rfl)
end
end Go.Proofs.YtlnbeeflifmnjadGreat

/-
  The package plane: own. Conditions: the slice of nodes reads as a list, its numbers are small.
-/
namespace Go.Proofs.YtlnbeeflifmnjadGreat
set_option linter.unusedSimpArgs false
set_option linter.unusedVariables false
open Go.RowKit

/-- while own clones a node's lists -/
structure InW (w : World) (Z : Nat → Prop) (b1 b2 : Nat) (A : Option Addr) (n c : Nat) (en top : Int) (ns : List NodeP) (H : Nat) (A4 : Option Addr) (n4 c4 : Nat) (ls : List (List Int)) (W : World) : Prop where
  ow : OwW w Z b1 b2 A n c en top ns H W
  ls : ∃ cs, W.ownsRow H 44 1 (.slice A4 n4 c4) n4 cs ∧ RowX (Sh.list (Sh.int .i64)) W (fun d => d < W.heap.size ∧ (Value.slice A4 n4 c4).ownBlock ≠ some d ∧ (Value.slice A n c).ownBlock ≠ some d ∧ d ≠ b1 ∧ d ≠ b2 ∧ ¬ Z d) ls cs
section
variable {w W W' : World} {Z : Nat → Prop} {b1 b2 : Nat} {A A4 : Option Addr} {n c n4 c4 : Nat} {en top : Int} {ns : List NodeP} {ls : List (List Int)} {H H' : Nat}
theorem RowX.lists {R : Nat → Prop} {cs : List Value} (h : RowX (Sh.list (Sh.int .i64)) W R ls cs) {k : Nat} {li : List Int} (hk : ls[k]? = some li) : ∃ L cL, cs[k]? = some (.slice L li.length cL) ∧ li.length ≤ cL ∧ cL ≤ 9223372036854775807 ∧ RdR (Sh.int .i64) W R L li := by
  obtain ⟨c, h1, h2⟩ := h.2 k li hk
  obtain ⟨L, cL, rfl, h3, h4, h5⟩ := list_cells h1
  exact ⟨L, cL, by have := h2 0 (by decide); simpa [Sh.list] using this, h3, h4, h5⟩
theorem InW.start (h : OwW w Z b1 b2 A n c en top ns H W) (hH : H = W.heap.size) (hb : Below W.heap.size W W') {cs : List Value} (ho : W'.ownsRow W.heap.size 44 1 (.slice A4 n4 c4) n4 cs)
    (hr : RowX (Sh.list (Sh.int .i64)) W' (fun d => d < H ∧ (Value.slice A n c).ownBlock ≠ some d ∧ d ≠ b1 ∧ d ≠ b2 ∧ ¬ Z d) ls cs) : InW w Z b1 b2 A n c en top ns H A4 n4 c4 ls W' := by
  subst hH
  refine ⟨h.step hb, cs, ho, hr.more fun d hd => ⟨Nat.lt_of_lt_of_le hd.1 hb.size, fun e => ?_, hd.2⟩⟩
  have := (ho.lt d e).1
  have := hd.1
  omega
theorem InW.step (h : InW w Z b1 b2 A n c en top ns H A4 n4 c4 ls W) (hb : Below W.heap.size W W') : InW w Z b1 b2 A n c en top ns H A4 n4 c4 ls W' := by
  obtain ⟨cs, h1, h2⟩ := h.ls
  exact ⟨h.ow.step hb, cs, own_keep h1 fun g hg => hb.block g (h1.lt g hg).2, (h2.keepBlocks fun d hd => hb.block d hd.1).more fun d hd => ⟨Nat.lt_of_lt_of_le hd.1 hb.size, hd.2⟩⟩
theorem InW.put {g4 : Nat} (h : InW w Z b1 b2 A n c en top ns H (some ⟨g4, 0, none⟩) n4 c4 ls W) {j : Nat} {li : List Int} (hj : ls[j]? = some li) (hb : Below W.heap.size W W') {v : Value} (ho : W'.ownsRow W.heap.size 3 1 v li.length (fcs encI li)) :
    InW w Z b1 b2 A n c en top ns H (some ⟨g4, 0, none⟩) n4 c4 ls (W'.setCell ⟨g4, j, none⟩ v) := by
  obtain ⟨V, cV, rfl, hv1, hv2⟩ := own_form ho
  have hb0 := h.ow.bel
  have h0 := h.step hb
  obtain ⟨cs, h1, h2⟩ := h0.ls
  have hgH := (h1.lt g4 rfl).1
  have hw : w.heap.size ≤ g4 := by have := h.ow.h1; have := h.ow.l1; omega
  have hold : g4 < W.heap.size := by obtain ⟨cs', h1', _⟩ := h.ls; exact (h1'.lt g4 rfl).2
  have hrd : RdR (Sh.int .i64) W' (Btw W.heap.size W'.heap.size) V li := flatI.own ho
  refine ⟨h0.ow.far hgH hw _, cs.set j _, own_setCell h1 _ _, ?_⟩
  have hset := RowX.set (S := Sh.list (Sh.int .i64)) (k := j) (i := 0) (y := li) (v := .slice V li.length cV) h2 hj (by decide) fun c hc _ => by
    obtain ⟨L, cL, rfl, _⟩ := list_cells hc
    refine ⟨V, cV, rfl, hv1, hv2, hrd.more fun d hd => ⟨hd.2, ?_, ?_, ?_, ?_, ?_⟩⟩
    · intro e
      simp only [Value.ownBlock] at e
      injection e with e
      have := hd.1
      omega
    · intro e
      have := h.ow.lg d e
      have := h.ow.hH
      have := hd.1
      omega
    · have := h.ow.l1; have := h.ow.hH; have := hd.1; omega
    · have := h.ow.l2; have := h.ow.hH; have := hd.1; omega
    · intro hz; have := h.ow.hZ d hz; have := hb0.size; have := hd.1; omega
  rw [set_same hj, show j * (Sh.list (Sh.int .i64)).size + 0 = j by simp [Sh.list]] at hset
  refine (hset.keepBlocks fun d hd => Below.heap_setCell W' _ _ d fun e => hd.2.1 (by rw [e]; rfl)).more fun d hd => ⟨by simpa using hd.1, hd.2⟩
/-- the lists are cloned: the node gets them -/
theorem InW.done {g : Nat} (h : InW w Z b1 b2 (some ⟨g, 0, none⟩) n c en top ns H A4 n4 c4 ls W) {k : Nat} {x : NodeP} (hx : ns[k]? = some x) (hls : x.2.2.1 = ls) (hn : ls.length = n4) : OwW w Z b1 b2 (some ⟨g, 0, none⟩) n c en top ns W.heap.size (W.setCell ⟨g, k * 7 + 4, none⟩ (.slice A4 n4 c4)) := by
  obtain ⟨cs, h1, h2⟩ := h.ls
  obtain ⟨A5, c5, he, k1, k2⟩ := own_form h1
  injection he with e1 _ e3
  subst e1 e3 hls hn
  have hrd : RdR (Sh.list (Sh.int .i64)) W (fun d => d < W.heap.size ∧ (Value.slice (some ⟨g, 0, none⟩) n c).ownBlock ≠ some d ∧ d ≠ b1 ∧ d ≠ b2 ∧ ¬ Z d) A4 x.2.2.1 := RowX.rd (by decide) h2 h1 (fun d hd => ⟨hd.1, hd.2.2⟩) fun d hd => by
    have := h1.lt d hd
    refine ⟨this.2, fun e => ?_, ?_, ?_, fun hz => ?_⟩
    · have := h.ow.lg d e; omega
    · have := h.ow.l1; omega
    · have := h.ow.l2; omega
    · have := h.ow.hZ d hz; have := h.ow.h1; have := h.ow.l1; omega
  refine OwW.setN (h.ow.raise h.ow.hH (Nat.le_refl _)) hx 4 _ (by omega) fun V cV L cL v1 v2 v3 l1 l2 l3 => ⟨x, rfl, ?_⟩
  exact node_of x v1 v2 v3 k1 k2 hrd
/-- .. and its vector -/
theorem OwW.vec {g : Nat} (h : OwW w Z b1 b2 (some ⟨g, 0, none⟩) n c en top ns H W) {k : Nat} {x : NodeP} (hx : ns[k]? = some x) (hb : Below W.heap.size W W') {V : Option Addr} {cV : Nat} (ho : RdR (Sh.int .i32) W' (Btw W.heap.size W'.heap.size) V x.1.2.1) (h1 : x.1.2.1.length ≤ cV) (h2 : cV ≤ 9223372036854775807) : OwW w Z b1 b2 (some ⟨g, 0, none⟩) n c en top ns W'.heap.size (W'.setCell ⟨g, k * 7 + 1, none⟩ (.slice V x.1.2.1.length cV)) := by
  have h0 := h.step hb
  refine OwW.setN (h0.raise h0.hH (Nat.le_refl _)) hx 1 _ (by omega) fun V0 cV0 L cL v1 v2 v3 l1 l2 l3 => ⟨x, rfl, ?_⟩
  refine node_of x h1 h2 (ho.more fun d hd => ⟨hd.2, fun e => ?_, ?_, ?_, fun hz => ?_⟩) l1 l2 l3
  · have := h.lg d e; have := h.hH; have := hd.1; omega
  · have := h.l1; have := h.hH; have := hd.1; omega
  · have := h.l2; have := h.hH; have := hd.1; omega
  · have := h.hZ d hz; have := h.bel.size; have := hd.1; omega
/-- what own gives -/
structure OwnR (w : World) (Z : Nat → Prop) (A : Option Addr) (n c : Nat) (ns : List NodeP) (W : World) : Prop where
  bel : Below w.heap.size w W
  own : ∃ cs, W.ownsRow w.heap.size 38 7 (.slice A n c) n cs ∧ RowX SNode W (fun d => d < W.heap.size ∧ (Value.slice A n c).ownBlock ≠ some d ∧ ¬ Z d) ns cs
theorem OwW.node {g : Nat} (h : OwW w Z b1 b2 (some ⟨g, 0, none⟩) n c en top ns H W) {k : Nat} {x : NodeP} (hx : ns[k]? = some x) : ∃ V cV L cL, W.cell? ⟨g, k * 7 + 1, none⟩ = some (.slice V x.1.2.1.length cV) ∧ W.cell? ⟨g, k * 7 + 4, none⟩ = some (.slice L x.2.2.1.length cL) ∧
    RdR (Sh.int .i32) W (fun d => d < H ∧ (Value.slice (some ⟨g, 0, none⟩) n c).ownBlock ≠ some d ∧ d ≠ b1 ∧ d ≠ b2 ∧ ¬ Z d) V x.1.2.1 ∧ RdR (Sh.list (Sh.int .i64)) W (fun d => d < H ∧ (Value.slice (some ⟨g, 0, none⟩) n c).ownBlock ≠ some d ∧ d ≠ b1 ∧ d ≠ b2 ∧ ¬ Z d) L x.2.2.1 := by
  obtain ⟨cs, h1, h2⟩ := h.own
  obtain ⟨c0, h3, h4⟩ := h2.2 k x hx
  obtain ⟨V, cV, L, cL, rfl, v1, v2, v3, l1, l2, l3⟩ := node_cells h3
  refine ⟨V, cV, L, cL, ?_, ?_, v3, l3⟩
  · have := h1.cells (g := g) rfl _ _ (h4 1 (by decide))
    rw [add_mk, Nat.zero_add] at this
    exact this
  · have := h1.cells (g := g) rfl _ _ (h4 4 (by decide))
    rw [add_mk, Nat.zero_add] at this
    exact this
theorem OwW.start {n0 cN : Nat} {N : Option Addr} (hb : Below ((w.alloc (.cells #[.slice N n0 cN, .int .i64 en, .int .i64 top] 24)).alloc (.cells #[.slice none 0 0, .int .i64 0, .int .i64 0] 24)).heap.size ((w.alloc (.cells #[.slice N n0 cN, .int .i64 en, .int .i64 top] 24)).alloc (.cells #[.slice none 0 0, .int .i64 0, .int .i64 0] 24)) W) {cs : List Value}
    (ho : W.ownsRow ((w.alloc (.cells #[.slice N n0 cN, .int .i64 en, .int .i64 top] 24)).alloc (.cells #[.slice none 0 0, .int .i64 0, .int .i64 0] 24)).heap.size 38 7 (.slice A n c) n cs) (hr : RowX SNode W (fun d => d < w.heap.size ∧ ¬ Z d) ns cs) (hZ : ∀ d, Z d → d < w.heap.size) :
    OwW w Z w.heap.size (w.heap.size + 1) A n c en top ns W.heap.size (W.setCell ⟨w.heap.size, 0, none⟩ (.slice A n c)) := by
  have hb0 : Below w.heap.size w W := Below.step (Below.step (below1 _ _) (below1 _ _)) hb
  have hs := hb.size
  simp at hs
  have h1 : Blk W w.heap.size 24 #[.slice N n0 cN, .int .i64 en, .int .i64 top] := ((Blk.new w _ _).alloc _).below hb (by simp; omega)
  have h2 : Blk W (w.heap.size + 1) 24 #[.slice none 0 0, .int .i64 0, .int .i64 0] := by
    have h := Blk.new (w.alloc (.cells #[.slice N n0 cN, .int .i64 en, .int .i64 top] 24)) 24 #[.slice none 0 0, .int .i64 0, .int .i64 0]
    simp at h
    exact h.below hb (by simp)
  have hg : ∀ g, (Value.slice A n c).ownBlock = some g → w.heap.size + 1 < g ∧ g < W.heap.size := fun g hg => by have := ho.lt g hg; simp at this; omega
  refine ⟨hb0.setCell (Nat.le_refl _) _, ?_, ⟨_, Blk.far h2 (by simp) _, rfl⟩, ⟨cs, own_lowW (own_far ho _ (fun e => by have := hg _ e; simp at this; omega) _) (by simp; omega), (hr.keepBlocks fun d hd => Below.heap_setCell W _ _ d (by simp; omega)).more fun d hd => ⟨by omega, fun e => by have := hg _ e; omega, by omega, by omega, hd.2⟩⟩, Nat.le_refl _, by omega, by omega, by omega, by omega, fun g hg2 => (hg g hg2).2, by simp, hZ⟩
  have := h1.set_ 0 (.slice A n c)
  simpa using this
end
end Go.Proofs.YtlnbeeflifmnjadGreat

/-
  The package plane: own. Conditions: the slice of nodes reads as a list, its numbers are small.
-/
namespace Go.Proofs.YtlnbeeflifmnjadGreat
set_option linter.unusedSimpArgs false
set_option linter.unusedVariables false
open Go.RowKit

theorem OwW.setB {w W : World} {Z : Nat → Prop} {b1 b2 : Nat} {A : Option Addr} {n c : Nat} {en top : Int} {ns : List NodeP} {H : Nat} (h : OwW w Z b1 b2 A n c en top ns H W) (i : Nat) (v : Value) : OwW w Z b1 b2 A n c en top ns H (W.setCell ⟨b2, i, none⟩ v) := by
  obtain ⟨cs, h1, h2⟩ := h.own
  obtain ⟨ds, h3, h4⟩ := h.q
  exact ⟨h.bel.setCell h.h2 v, Blk.far h.p h.b12 v, ⟨_, h3.set_ i v, by simpa using h4⟩, ⟨cs, own_far h1 _ (own_blk_ne h1 h3 (by decide)) v, h2.keepBlocks fun d hd => Below.heap_setCell W _ v d fun e => hd.2.2.2.1 (by rw [e])⟩, h.h1, h.h2, h.b12, h.l1, h.l2, h.lg, by simpa using h.hH, h.hZ⟩
theorem OwW.give {w W : World} {Z : Nat → Prop} {b1 b2 : Nat} {A : Option Addr} {n c : Nat} {en top : Int} {ns : List NodeP} {H : Nat} (h : OwW w Z b1 b2 A n c en top ns H W) : OwnR w Z A n c ns W := by
  obtain ⟨cs, h1, h2⟩ := h.own
  have hH := h.hH
  exact ⟨h.bel, cs, h1, h2.more fun d hd => ⟨by omega, hd.2.1, hd.2.2.2.2⟩⟩
/-- the lists of the first k nodes lie each in a block of its own -/
def HdW (B : Nat) (W : World) (A : Option Addr) (H k : Nat) : Prop := ∀ ga, A = some ga → (∀ (j : Nat) (a : Addr) (n c : Nat), j < k → W.cell? (ga.add (j * 7 + 4)) = some (.slice (some a) n c) → B ≤ a.block ∧ a.block < H ∧ ∀ i, W.frozen? (a.add i) = false) ∧
  ∀ (j1 j2 : Nat) (a1 a2 : Addr) (n1 n2 c1 c2 : Nat), j1 < j2 → j2 < k → W.cell? (ga.add (j1 * 7 + 4)) = some (.slice (some a1) n1 c1) → W.cell? (ga.add (j2 * 7 + 4)) = some (.slice (some a2) n2 c2) → a1.block < a2.block
/-- a row of the call's own may be written -/
theorem own_free {W : World} {base size n c : Nat} {e : TypeId} {a : Addr} {cs : List Value} (h : W.ownsRow base e size (.slice (some a) n c) n cs) (i : Nat) : W.frozen? (a.add i) = false := by
  rcases h.2 with ⟨hv, _⟩ | ⟨g, cap, cur, hv, _⟩
  · cases hv
  · injection hv with hA _ _
    injection hA with hA
    subst hA
    rw [add_mk, Nat.zero_add]
    exact World.ownsRow.frozenAt h i
section
variable {W W' : World} {A A4 : Option Addr} {B H H' k g : Nat}
theorem HdW.start : HdW B W A H 0 := fun ga _ => ⟨fun j a n c h => absurd h (Nat.not_lt_zero _), fun j1 j2 a1 a2 n1 n2 c1 c2 _ h => absurd h (Nat.not_lt_zero _)⟩
theorem HdW.cells (h : HdW B W A H k) (hc : ∀ ga j, A = some ga → W'.cell? (ga.add (j * 7 + 4)) = W.cell? (ga.add (j * 7 + 4))) (hf : ∀ p : Addr, p.block < H → W.frozen? p = false → W'.frozen? p = false) : HdW B W' A H k := fun ga e => by
  have h2 := h ga e
  refine ⟨fun j a n c hj k => ?_, fun j1 j2 a1 a2 n1 n2 c1 c2 p1 p2 p3 p4 => h2.2 j1 j2 a1 a2 n1 n2 c1 c2 p1 p2 (by rw [← hc ga j1 e]; exact p3) (by rw [← hc ga j2 e]; exact p4)⟩
  obtain ⟨q1, q2, q3⟩ := h2.1 j a n c hj (by rw [← hc ga j e]; exact k)
  exact ⟨q1, q2, fun i => hf _ (by rw [block_of_add]; exact q2) (q3 i)⟩
theorem frozen_of_blockH {p : Addr} (h : W'.heap[p.block]? = W.heap[p.block]?) : W'.frozen? p = W.frozen? p := by
  unfold World.frozen?
  rw [h]
theorem HdW.keep (h : HdW B W A H k) (hg : ∀ ga, A = some ga → ga.block < H') (hk : ∀ d, d < H' → W'.heap[d]? = W.heap[d]?) (hHH : H ≤ H' := by exact Nat.le_refl _) : HdW B W' A H k :=
  h.cells (fun ga j e => World.cell?_of_block (by rw [block_of_add]; exact hk _ (hg ga e))) fun p hd hf => (frozen_of_blockH (p := p) (hk p.block (Nat.lt_of_lt_of_le hd hHH))).trans hf
theorem HdW.raise (h : HdW B W A H k) (hH : H ≤ H') : HdW B W A H' k := fun ga e => ⟨fun j a n c hj k => ⟨((h ga e).1 j a n c hj k).1, Nat.lt_of_lt_of_le ((h ga e).1 j a n c hj k).2.1 hH, ((h ga e).1 j a n c hj k).2.2⟩, (h ga e).2⟩
theorem HdW.set1 (h : HdW B W (some ⟨g, 0, none⟩) H k) (i : Nat) (v : Value) : HdW B (W.setCell ⟨g, i * 7 + 1, none⟩ v) (some ⟨g, 0, none⟩) H k :=
  h.cells (fun ga j e => by
    injection e with e
    subst e
    exact World.cell?_setCell_other _ _ _ _ (fun e => by rw [add_mk] at e; injection e with _ e _; omega)) fun p _ hf => by rw [World.frozen?_setCell]; exact hf
theorem HdW.next (h : HdW B W (some ⟨g, 0, none⟩) H k) {n4 c4 : Nat} {v : Value} (hv : W.cell? ⟨g, k * 7 + 4, none⟩ = some v) (h4 : ∀ a, A4 = some a → H ≤ a.block ∧ a.block < H' ∧ ∀ i, W.frozen? (a.add i) = false) (hH : H ≤ H') (hB : B ≤ H) : HdW B (W.setCell ⟨g, k * 7 + 4, none⟩ (.slice A4 n4 c4)) (some ⟨g, 0, none⟩) H' (k + 1) := fun ga e => by
  injection e with e
  subst e
  have h2 := h _ rfl
  have hk : (W.setCell ⟨g, k * 7 + 4, none⟩ (.slice A4 n4 c4)).cell? ((⟨g, 0, none⟩ : Addr).add (k * 7 + 4)) = some (.slice A4 n4 c4) := by
    rw [add_mk, Nat.zero_add]
    exact World.cell?_setCell_same' _ _ _ (by rw [hv]; rfl)
  have ho : ∀ j, j ≠ k → (W.setCell ⟨g, k * 7 + 4, none⟩ (.slice A4 n4 c4)).cell? ((⟨g, 0, none⟩ : Addr).add (j * 7 + 4)) = W.cell? ((⟨g, 0, none⟩ : Addr).add (j * 7 + 4)) := fun j hj => World.cell?_setCell_other _ _ _ _ (fun e => by rw [add_mk] at e; injection e with _ e _; omega)
  constructor
  · intro j a n c hj q
    by_cases e : j = k
    · subst e
      rw [hk] at q
      injection q with q
      injection q with q _ _
      exact ⟨Nat.le_trans hB (h4 a q).1, (h4 a q).2.1, fun i => by rw [World.frozen?_setCell]; exact (h4 a q).2.2 i⟩
    · rw [ho j e] at q
      exact ⟨(h2.1 j a n c (by omega) q).1, Nat.lt_of_lt_of_le (h2.1 j a n c (by omega) q).2.1 hH, fun i => by rw [World.frozen?_setCell]; exact (h2.1 j a n c (by omega) q).2.2 i⟩
  · intro j1 j2 a1 a2 n1 n2 c1 c2 p1 p2 q1 q2
    rw [ho j1 (by omega)] at q1
    by_cases e : j2 = k
    · subst e
      rw [hk] at q2
      injection q2 with q2
      injection q2 with q2 _ _
      exact Nat.lt_of_lt_of_le (h2.1 j1 a1 n1 c1 p1 q1).2.1 (h4 a2 q2).1
    · rw [ho j2 e] at q2
      exact h2.2 j1 j2 a1 a2 n1 n2 c1 c2 p1 (by omega) q1 q2
end
section
variable {w : World} {N : Option Addr} {nn cN : Nat} {ns : List NodeP} {en top : Int}
set_option maxHeartbeats 16000000 in
set_option maxRecDepth 100000 in
theorem ownH_any {Z : Nat → Prop} (hp : PlN w N nn ns) (hr : RdR SNode w (fun d => d < w.heap.size ∧ ¬ Z d) N ns) (hZ : ∀ d, Z d → d < w.heap.size) : Calls Tryz.prog 20 #[.agg #[.slice N nn cN, .int .i64 en, .int .i64 top]] w fun e w' => ∃ A c, e = .returned (.agg #[.slice A nn c, .int .i64 en, .int .i64 top]) ∧ OwnR w Z A nn c ns w' ∧ HdW w.heap.size w' A w'.heap.size nn := by
  have HP := hide hp
  have h20 := hp.n20
  have Hl := hide hp.len
  have HNd := hide hr
  have HZ := hide hZ
  clear hp hr hZ
  have hb2 : Below w.heap.size w ((w.alloc (.cells #[.slice N nn cN, .int .i64 en, .int .i64 top] 24)).alloc (.cells #[.slice none 0 0, .int .i64 0, .int .i64 0] 24)) := Below.step (below1 _ _) (below1 _ _)
  have CC := hide (cloneNd_any N nn cN ns ((w.alloc (.cells #[.slice N nn cN, .int .i64 en, .int .i64 top] 24)).alloc (.cells #[.slice none 0 0, .int .i64 0, .int .i64 0] 24)) (R := fun d => d < w.heap.size ∧ ¬ Z d) (HNd.out.keepBlocks fun d hd => hb2.block d hd.1) (fun d hd => Nat.lt_of_lt_of_le hd.1 hb2.size) Hl.out (by omega))
  clear hb2
  go_enter Tryz.func20, Tryz.ntmps20
  go_upto_region 2 with (go_at_call 39; refine CC.out.mono ?_; rintro e w3 ⟨v, rfl, ⟨cs, ho, hr⟩, hb⟩; obtain ⟨A, c, rfl, hc1, hc2⟩ := own_form ho; have HO := hide (OwW.start (en := en) (top := top) (n0 := nn) (cN := cN) (N := N) hb ho hr HZ.out); have HSz := hide (show w.heap.size + 1 < w3.heap.size from (by have h := hb.size; simp at h; omega)); have hB3 : Blk w3 w.heap.size 24 #[.slice N nn cN, .int .i64 en, .int .i64 top] := ((Blk.new w 24 #[.slice N nn cN, .int .i64 en, .int .i64 top]).alloc _).below hb (by simp; omega); have f0 := hB3.frozen 0; have p0 := hB3.cell 0; simp at p0; clear ho hr hb hB3)
  clear f0 p0 CC
  generalize World.setCell w3 _ _ = w4 at *
  obtain ⟨H, hH⟩ : ∃ H, w3.heap.size = H := ⟨_, rfl⟩
  rw [hH] at HO HSz
  clear hH
  obtain ⟨b2, hb2⟩ : ∃ b, w.heap.size + 1 = b := ⟨_, rfl⟩
  rw [hb2] at HO
  rw [hb2]
  clear hb2 HSz
  obtain ⟨b1, hb1⟩ : ∃ b, w.heap.size = b := ⟨_, rfl⟩
  have HO1 := hide (show OwW w Z b1 b2 A nn c en top ns H w4 from hb1 ▸ HO.out)
  clear HO
  rw [hb1]
  clear hb1
  obtain ⟨p0, p1, p2⟩ := HO1.out.cells
  go_wp2
  clear p0 p1 p2
  go_loopw [13] (fun i wr => ∃ (k H : Nat), k ≤ nn ∧ i = .int .i64 k ∧ Hid (OwW w Z b1 b2 A nn c en top ns H wr) ∧ Hid (HdW w.heap.size wr A H k)) (fun i _ => nn - (intOf i).toNat)
  case atStart => exact ⟨0, H, by omega, rfl, HO1, hide HdW.start⟩
  case round =>
    obtain ⟨k, H1, hk, rfl, HW, HD⟩ := hrel
    clear HO1
    by_cases hlt : k < nn
    · have g0 : (0 : Int) ≤ k := by omega
      have g1 : (k : Int) < nn := by omega
      obtain ⟨g, cap, hv, hwg, hgl⟩ : ∃ g cap, (Value.slice A nn c) = .slice (some ⟨g, 0, none⟩) nn cap ∧ w.heap.size ≤ g ∧ g < wr.heap.size := by
        obtain ⟨cs, ho, _⟩ := HW.out.own
        exact ho.form (by omega)
      injection hv with hA _ hcc
      subst hA
      clear hcc
      obtain ⟨x, hx⟩ : ∃ x, ns[k]? = some x := ⟨_, List.getElem?_eq_getElem (by have := Hl.out; omega)⟩
      have HX := hide hx
      have HD1 := hide (HD.out.raise HW.out.hH)
      have HW1 := hide (HW.out.raise HW.out.hH (Nat.le_refl _))
      obtain ⟨V, cV, L, cL, q1, q4, hrv, hrl⟩ := HW1.out.node hx
      have h10 : x.2.2.1.length ≤ 1048576 := (HP.out.sm x (List.mem_of_getElem? hx)).1
      have CL := hide (cloneLs_any L x.2.2.1.length cL x.2.2.1 wr hrl (fun d hd => hd.1) rfl (by omega))
      obtain ⟨p0, p1, p2⟩ := HW1.out.cells
      clear hx hrv hrl q1 HW
      go_upto_region 6 with (go_at_call 40; refine CL.out.mono ?_; rintro e w5 ⟨v4, rfl, ⟨cs4, ho4, hr4⟩, hb4⟩; obtain ⟨A4, c4, rfl, hd1, hd2⟩ := own_form ho4; have HIn := hide (InW.start (ls := x.2.2.1) HW1.out rfl hb4 ho4 hr4); have HDn := hide (HD1.out.keep (fun ga e => by injection e with e; subst e; exact hgl) hb4.block); clear ho4 hr4 hb4)
      clear q4 p0 p1 p2 CL HW1
      obtain ⟨H2, hH2⟩ : ∃ H, wr.heap.size = H := ⟨_, rfl⟩
      rw [hH2] at HIn HDn
      have HgH := hide (show g < H2 from by rw [← hH2]; exact hgl)
      clear hH2 HD HD1
      have HLsm := hide (show ∀ l ∈ x.2.2.1, l.length ≤ 1048576 from (HP.out.sm x (List.mem_of_getElem? HX.out)).2.2)
      have HVsm := hide (show x.1.2.1.length ≤ 1048576 from (HP.out.sm x (List.mem_of_getElem? HX.out)).2.1)
      have HVi := hide (show I32 x.1.2.1 from (HP.out.ok x (List.mem_of_getElem? HX.out)).v)
      obtain ⟨ls, hls⟩ : ∃ ls, x.2.2.1 = ls := ⟨_, rfl⟩
      have HLs := hide hls
      rw [hls] at HIn HLsm h10 hd1
      rw [hls]
      clear hls
      obtain ⟨nl, hnl⟩ : ∃ n, ls.length = n := ⟨_, rfl⟩
      have HNl := hide hnl
      rw [hnl] at HIn h10 hd1
      rw [hnl]
      clear hnl
      go_wp2
      go_loopw [25] (fun i wr => ∃ j : Nat, j ≤ nl ∧ i = .int .i64 j ∧ Hid (InW w Z b1 b2 (some ⟨g, 0, none⟩) nn c en top ns H2 A4 nl c4 ls wr) ∧ Hid (HdW w.heap.size wr (some ⟨g, 0, none⟩) H2 k)) (fun i _ => nl - (intOf i).toNat)
      case atStart => exact ⟨0, by omega, rfl, HIn, HDn⟩
      case round =>
        obtain ⟨j, hj, rfl, HI, HDj⟩ := hrel
        clear HIn HDn
        by_cases hjl : j < nl
        · have j0 : (0 : Int) ≤ j := by omega
          have j1 : (j : Int) < nl := by omega
          obtain ⟨li, hli⟩ : ∃ li, ls[j]? = some li := ⟨_, List.getElem?_eq_getElem (by have := HNl.out; omega)⟩
          have HLi := hide hli
          have hl80 : li.length ≤ 1048576 := HLsm.out li (List.mem_of_getElem? hli)
          obtain ⟨g4, cap4, hv4, cs4, h1, hrow⟩ : ∃ g4 cap4, (Value.slice A4 nl c4) = .slice (some ⟨g4, 0, none⟩) nl cap4 ∧ ∃ cs, wr.ownsRow H2 44 1 (.slice (some ⟨g4, 0, none⟩) nl cap4) nl cs ∧ RowX (Sh.list (Sh.int .i64)) wr (fun d => d < wr.heap.size ∧ (Value.slice A4 nl c4).ownBlock ≠ some d ∧ (Value.slice (some ⟨g, 0, none⟩) nn c).ownBlock ≠ some d ∧ d ≠ b1 ∧ d ≠ b2 ∧ ¬ Z d) ls cs := by
            obtain ⟨cs, ho, hr⟩ := HI.out.ls
            obtain ⟨g4, cap4, e, _⟩ := ho.form (by omega)
            exact ⟨g4, cap4, e, cs, e ▸ ho, hr⟩
          injection hv4 with hA4 _ hc4
          subst hA4 hc4
          obtain ⟨L5, c5, hcs, k1, k2, hrd⟩ := hrow.lists hli
          have q0 := h1.cells (g := g4) rfl _ _ hcs
          have f0 := h1.frozenAt j
          rw [add_mk, Nat.zero_add] at q0
          have CC := hide (cloneW_any L5 li.length c5 li wr (hrd.rd fun d hd => hd.1) rfl k1 k2 (by omega))
          clear hli h1 hrow hcs hrd
          go_wp2_with (go_at_call 41; refine CC.out.mono ?_; rintro e w6 ⟨v6, rfl, ho6, hb6⟩; obtain ⟨V6, c6, rfl, _, _⟩ := own_form ho6; have HI6 := hide (HI.out.put HLi.out hb6 ho6); have HD6 := hide ((HDj.out.keep (fun ga e => by injection e with e; subst e; exact HgH.out) (fun d hd => hb6.block d (Nat.lt_of_lt_of_le hd HI.out.ow.hH))).keep (H' := H2) (W' := w6.setCell ⟨g4, j, none⟩ (.slice V6 li.length c6)) (fun ga e => by injection e with e; subst e; exact HgH.out) (fun d hd => Below.heap_setCell _ _ _ d (by have h9 : H2 ≤ g4 := (by obtain ⟨_, hq, _⟩ := HI.out.ls; exact (hq.lt g4 rfl).1); show d ≠ g4; omega))); have f1 : w6.frozen? ⟨g4, j, none⟩ = false := (hb6.frozen (p := ⟨g4, j, none⟩) (by obtain ⟨_, hq, _⟩ := HI.out.ls; exact (hq.lt g4 rfl).2)).trans f0; have q1 := (hb6.cell (p := ⟨g4, j, none⟩) (by obtain ⟨_, hq, _⟩ := HI.out.ls; exact (hq.lt g4 rfl).2)).trans q0; clear ho6 hb6 q0 f0 CC)
          go_roundw
          case rel => exact ⟨j + 1, by omega, by go_num, HI6, HD6⟩
          case measure => simp [intOf]; omega
        · obtain rfl : nl = j := by omega
          have HO5 := hide (HI.out.done HX.out HLs.out HNl.out)
          have HD5 := hide (show HdW w.heap.size (wr.setCell ⟨g, k * 7 + 4, none⟩ (.slice A4 nl c4)) (some ⟨g, 0, none⟩) wr.heap.size (k + 1) from by
            obtain ⟨V, cV, L, cL, q1, q4, _⟩ := HI.out.ow.node HX.out
            refine HDj.out.next q4 (fun a e => ?_) HI.out.ow.hH (by have := HI.out.ow.h1; have := HI.out.ow.l1; omega)
            obtain ⟨cs4, hq, _⟩ := HI.out.ls
            subst e
            exact ⟨(hq.lt a.block rfl).1, (hq.lt a.block rfl).2, own_free hq⟩)
          have f4 : wr.frozen? ⟨g, k * 7 + 4, none⟩ = false := by obtain ⟨cs, h1, _⟩ := HI.out.ow.own; exact h1.frozenAt _
          have q4 : ∃ v, wr.cell? ⟨g, k * 7 + 4, none⟩ = some v := by obtain ⟨V, cV, L, cL, q1, q4, _⟩ := HI.out.ow.node HX.out; exact ⟨_, q4⟩
          obtain ⟨v4, q4⟩ := q4
          obtain ⟨p0, p1, p2⟩ := HI.out.ow.cells
          go_upto_region 12 with fail
          clear p0 p1 p2 q4 f4 HI
          generalize World.setCell wr _ _ = w7 at *
          obtain ⟨H7, hH7⟩ : ∃ H, wr.heap.size = H := ⟨_, rfl⟩
          rw [hH7] at HO5 HD5
          clear hH7
          have HO7 := hide (HO5.out.raise (H' := w7.heap.size) HO5.out.hH (Nat.le_refl _))
          have HD7 := hide (HD5.out.raise (H' := w7.heap.size) HO5.out.hH)
          clear HO5 HD5 HDj
          obtain ⟨V, cV, L, cL, q1, q4, hrv, hrl⟩ := HO7.out.node HX.out
          have HO7d := hide (HO7.out.step (Below.refl _ _).drew)
          have CV := hide (cloneV_any V x.1.2.1.length cV x.1.2.1 w7.drew ((hrv.rd (B := w7.heap.size) fun d hd => Nat.lt_of_lt_of_le hd.1 (Nat.le_refl _)).drew) rfl (by have := HVsm.out; omega))
          obtain ⟨p0, p1, p2⟩ := HO7.out.cells
          have f1 : w7.frozen? ⟨g, k * 7 + 1, none⟩ = false := by obtain ⟨cs, h1, _⟩ := HO7.out.own; exact h1.frozenAt _
          have HGl := hide (show g < w7.heap.size from by have := HO7.out.lg g rfl; exact this)
          have HBl := hide (show b1 < w7.heap.size from HO7.out.l1)
          clear hrv hrl q4 HO7
          go_region_law ((go_simp; go_at_call 32; refine CV.out.mono ?_; rintro e w8 ⟨v8, rfl, A8, n8, c8, rfl, p1, p2, p3, hr8, hb8⟩; subst p1; have HO8 := hide (HO7d.out.vec HX.out hb8 hr8 p2 p3); have HD8 := hide (((HD7.out.keep (W' := w8) (H' := w7.heap.size) (fun ga e => by injection e with e; subst e; exact HGl.out) (fun d hd => hb8.block d hd)).raise (H' := w8.heap.size) hb8.size).set1 k (.slice A8 x.1.2.1.length c8)); have f8 : w8.frozen? ⟨g, k * 7 + 1, none⟩ = false := (hb8.frozen (p := ⟨g, k * 7 + 1, none⟩) HGl.out).trans f1; have q8 := (hb8.cell (p := ⟨g, k * 7 + 1, none⟩) HGl.out).trans q1; have z8 := (hb8.cell (p := ⟨b1, 0, none⟩) HBl.out).trans p0; clear hr8 hb8 p2 p3 CV HO7d))
          all_goals
            go_wp2
            go_roundw
            case rel => exact ⟨k + 1, _, by omega, by go_num, HO8, HD8⟩
            case measure => simp [intOf]; omega
    · obtain rfl : nn = k := by omega
      obtain ⟨p0, p1, p2⟩ := HW.out.cells
      obtain ⟨ds, hq, hds⟩ := HW.out.q
      have y0 := hq.frozen 0
      have y1 := hq.frozen 1
      have y2 := hq.frozen 2
      have x0 := hq.cell 0
      have x1 := hq.cell 1
      have x2 := hq.cell 2
      have e0 : ∃ a b c, ds = #[a, b, c] := ⟨ds[0], ds[1], ds[2], by
        apply Array.ext
        · simp [hds]
        · intro i h1 h2
          have : i = 0 ∨ i = 1 ∨ i = 2 := by omega
          rcases this with rfl | rfl | rfl <;> rfl⟩
      obtain ⟨a0, a1, a2, rfl⟩ := e0
      simp at x0 x1 x2
      have HQ := hide hq
      clear hq hds
      go_wp2
      have hq3 := ((HQ.out.set_ 0 (.slice A nn c)).set_ 1 (.int .i64 en)).set_ 2 (.int .i64 top)
      simp at hq3
      have q0 := hq3.cell 0
      have q1 := hq3.cell 1
      have q2 := hq3.cell 2
      simp at q0 q1 q2
      have HF := hide (((HW.out.setB 0 (.slice A nn c)).setB 1 (.int .i64 en)).setB 2 (.int .i64 top)).give
      have HDf := hide (show HdW w.heap.size (((wr.setCell ⟨b2, 0, none⟩ (.slice A nn c)).setCell ⟨b2, 1, none⟩ (.int .i64 en)).setCell ⟨b2, 2, none⟩ (.int .i64 top)) A (((wr.setCell ⟨b2, 0, none⟩ (.slice A nn c)).setCell ⟨b2, 1, none⟩ (.int .i64 en)).setCell ⟨b2, 2, none⟩ (.int .i64 top)).heap.size nn from by
        refine HdW.cells (HD.out.raise (by simpa using HW.out.hH)) (fun ga j e => ?_) fun p _ hf => by rw [World.frozen?_setCell, World.frozen?_setCell, World.frozen?_setCell]; exact hf
        obtain ⟨cs, h1, _⟩ := HW.out.own
        have hne : (ga.add (j * 7 + 4)).block ≠ b2 := fun k => own_blk_ne h1 HQ.out (by decide) (by rw [e]; simp only [Value.ownBlock]; rw [← k, block_of_add])
        rw [World.cell?_setCell_other _ _ _ _ (fun e => hne (by first | rw [e] | rw [← e])), World.cell?_setCell_other _ _ _ _ (fun e => hne (by first | rw [e] | rw [← e])), World.cell?_setCell_other _ _ _ _ (fun e => hne (by first | rw [e] | rw [← e]))])
      clear hq3 HQ
      exact bodyPost_ret (v := .agg #[.slice A nn c, .int .i64 en, .int .i64 top]) (by simp [results, Tryz.results20, go_sem, q0, q1, q2]) rfl ⟨A, c, rfl, HF.out, HDf.out⟩
theorem own_any {Z : Nat → Prop} (hp : PlN w N nn ns) (hr : RdR SNode w (fun d => d < w.heap.size ∧ ¬ Z d) N ns) (hZ : ∀ d, Z d → d < w.heap.size) : Calls Tryz.prog 20 #[.agg #[.slice N nn cN, .int .i64 en, .int .i64 top]] w fun e w' => ∃ A c, e = .returned (.agg #[.slice A nn c, .int .i64 en, .int .i64 top]) ∧ OwnR w Z A nn c ns w' :=
  (ownH_any hp hr hZ).mono fun e w' ⟨A, c, h1, h2, _⟩ => ⟨A, c, h1, h2⟩
end
end Go.Proofs.YtlnbeeflifmnjadGreat

/-
  The package plane: New; the closure of Put. Conditions: the slice of nodes reads as a list, its numbers are small.
-/
namespace Go.Proofs.YtlnbeeflifmnjadGreat
set_option linter.unusedSimpArgs false
set_option linter.unusedVariables false
open Go.RowKit

set_option maxHeartbeats 4000000 in
theorem idx_put {w : World} {A : Option Addr} {n c : Nat} {l : List Int} {b4 b5 : Nat} (p : Int → Bool) (C : ∀ (W : World) (x : Int), x ∈ l → Below w.heap.size w W → Calls Tryz.prog 31 #[.int .i64 x, .pointer (some ⟨b4, 0, none⟩), .pointer (some ⟨b5, 0, none⟩)] W fun e w' => e = .returned (.bool (p x)) ∧ Below W.heap.size W w')
    (hx : Rd (Sh.int .i64) w w.heap.size A l) (hn : l.length = n) (h6 : n ≤ 2000000) : Calls Tryz.prog 55 #[.slice A n c, .func (.func 31) #[] #[.pointer (some ⟨b4, 0, none⟩), .pointer (some ⟨b5, 0, none⟩)]] w fun e w' => (∃ z : Int, e = .returned (.int .i64 z) ∧ decide (0 ≤ z) = l.any p) ∧ Below w.heap.size w w' := by
  have HC := hide C
  have HX := hide hx
  have Hl := hide hn
  have HS := hide (Below.refl w.heap.size w)
  clear C hx hn
  go_enter Tryz.func55, Tryz.ntmps55
  go_wp2
  go_loopw [5, 8] (fun _ i wr => ∃ j : Nat, j ≤ n ∧ i = .int .i64 j ∧ Hid ((l.take j).any p = false) ∧ Hid (Below w.heap.size w wr)) (fun _ i _ => n - (intOf i).toNat)
  case atStart => exact ⟨0, by omega, rfl, hide rfl, HS⟩
  case round =>
    obtain ⟨j, hj, rfl, HN, HB⟩ := hrel
    clear HS
    by_cases hlt : j < n
    · obtain ⟨ad, y, rfl, _, hv, q0⟩ := RdR.icell (HX.out.at_world HB.out) (k := j) (by have := Hl.out; omega)
      have g0 : (0 : Int) ≤ j := by omega
      have g1 : (j : Int) < n := by omega
      have HV := hide hv
      have CC := hide (HC.out wr y (List.mem_of_getElem? hv) HB.out)
      clear hv
      rcases e : p y with _ | _
      · rw [e] at CC
        have HN1 := hide (show (l.take (j + 1)).any p = false by rw [takeI_snoc HV.out, List.any_append, HN.out]; simp [e])
        clear e
        go_wp2_with (go_at_call 31; refine CC.out.mono ?_; rintro e w2 ⟨rfl, hb⟩; have HB2 := hide (Below.step HB.out hb); clear hb)
        go_roundw
        case rel => exact ⟨j + 1, by omega, by go_num, HN1, HB2⟩
        case measure => simp [intOf]; omega
      · rw [e] at CC
        have HF := hide (show l.any p = true from List.any_eq_true.2 ⟨y, List.mem_of_getElem? HV.out, e⟩)
        clear e
        go_wp2_with (go_at_call 31; refine CC.out.mono ?_; rintro e w2 ⟨rfl, hb⟩; have HB2 := hide (Below.step HB.out hb); clear hb)
        go_ret
        exact ⟨⟨(j : Int), rfl, by rw [HF.out]; exact decide_eq_true g0⟩, HB2.out⟩
    · obtain rfl : n = j := by omega
      go_wp2
      go_ret
      exact ⟨⟨-1, rfl, by have h := HN.out; rw [List.take_of_length_le (by have := Hl.out; omega)] at h; rw [h]; rfl⟩, HB.out⟩
theorem cont_put {w : World} {A : Option Addr} {n c : Nat} {l : List Int} {b4 b5 : Nat} (p : Int → Bool) (C : ∀ (W : World) (x : Int), x ∈ l → Below w.heap.size w W → Calls Tryz.prog 31 #[.int .i64 x, .pointer (some ⟨b4, 0, none⟩), .pointer (some ⟨b5, 0, none⟩)] W fun e w' => e = .returned (.bool (p x)) ∧ Below W.heap.size W w')
    (hx : Rd (Sh.int .i64) w w.heap.size A l) (hn : l.length = n) (h6 : n ≤ 2000000) : Calls Tryz.prog 30 #[.slice A n c, .func (.func 31) #[] #[.pointer (some ⟨b4, 0, none⟩), .pointer (some ⟨b5, 0, none⟩)]] w fun e w' => e = .returned (.bool (l.any p)) ∧ Below w.heap.size w w' := by
  have H := hide (idx_put (c := c) p C hx hn h6)
  clear C hx hn
  go_enter Tryz.func30, Tryz.ntmps30
  go_wp2_with fail
  refine H.out.mono ?_
  rintro e w2 ⟨⟨z, rfl, hz⟩, hb⟩
  have HZ := hide hz
  have HB := hide hb
  clear hz hb H
  go_wp2
  go_ret
  exact ⟨by rw [← HZ.out]; rfl, HB.out⟩
section
variable {w : World} {N : Option Addr} {nn cN : Nat} {ns : List NodeP} {en top : Int}
theorem Blk.cell3 {W : World} {b : Nat} {T : TypeId} {a0 a1 a2 : Value} (h : Blk W b T #[a0, a1, a2]) : W.cell? ⟨b, 0, none⟩ = some a0 ∧ W.cell? ⟨b, 1, none⟩ = some a1 ∧ W.cell? ⟨b, 2, none⟩ = some a2 := by
  have p0 := h.cell 0
  have p1 := h.cell 1
  have p2 := h.cell 2
  simp at p0 p1 p2
  exact ⟨p0, p1, p2⟩
set_option maxHeartbeats 4000000 in
theorem put1_any (hp : PlN w N nn ns) {b4 b5 : Nat} {W : World} (hB : PlB w b4 #[.slice N nn cN, .int .i64 en, .int .i64 top] W) {id tg : Int} {V : Option Addr} {nv cV : Nat} (hI : Blk W b5 35 #[.int .u64 id, .slice V nv cV, .int .u64 tg]) (m : Nat) (hm : m < nn) : Calls Tryz.prog 31 #[.int .i64 (m : Int), .pointer (some ⟨b4, 0, none⟩), .pointer (some ⟨b5, 0, none⟩)] W fun e w' => e = .returned (.bool (decide (idF ns m = id))) ∧ Below W.heap.size W w' := by
  obtain ⟨p0, p1, p2⟩ := hB.cells
  obtain ⟨i0, i1, i2⟩ := hI.cell3
  obtain ⟨ad, x, V, cV, L, cL, hA, hbl, hkx, hc⟩ := (hp.at_ hB.bel).nd.node (k := m) (by rw [hp.len]; exact hm)
  have HF := hide (show idF ns (m : Int) = x.1.1 by unfold idF; rw [nodeF_at hkx])
  have z0 := hc.c0
  have HB := hide (Below.refl W.heap.size W)
  have m0 : (0 : Int) ≤ m := by omega
  have m1 : (m : Int) < nn := by omega
  subst hA
  clear hp hB hI hbl hkx hc hm p1 p2 i1 i2
  rw [HF.out]
  obtain ⟨xi, hxi⟩ : ∃ i, x.1.1 = i := ⟨_, rfl⟩
  rw [hxi] at z0
  rw [hxi]
  clear hxi HF
  by_cases hid : xi = id
  · subst hid
    go_enter Tryz.func31, Tryz.ntmps31
    go_upto_region 1 with fail
    go_quiet (fail)
    go_wp2
    go_ret
    exact ⟨by simp, below_drewN HB.out _⟩
  · have e0 : (xi == id) = false := by rw [beq_eq_false_iff_ne]; exact hid
    have HD := hide (decide_eq_false hid)
    clear hid
    go_enter Tryz.func31, Tryz.ntmps31
    go_upto_region 1 with fail
    go_quiet (fail)
    go_wp2
    go_ret
    exact ⟨by rw [HD.out]; rfl, below_drewN HB.out _⟩
end
/-- the head alone -/
def headN : NodeP := ((0, [], 0), 0, [], 0, 0)
theorem OwnR.pl {w W : World} {Z : Nat → Prop} {A : Option Addr} {n c : Nat} {ns : List NodeP} (h : OwnR w Z A n c ns W) (hl : ns.length = n) (hok : ∀ x ∈ ns, OkN x) (hsm : ∀ x ∈ ns, SmN x) (h20 : n ≤ 20) (hid : ∀ x ∈ ns, (Lit.int .u64 x.1.1).wf = true) : PlN W A n ns := by
  obtain ⟨cs, h1, h2⟩ := h.own
  exact ⟨RowX.rd (by decide) h2 h1 (fun d hd => hd.1) (fun g hg => (h1.lt g hg).2), hl, hok, hsm, h20, hid⟩
set_option maxHeartbeats 2000000 in
theorem pNew_any (w : World) : Calls Tryz.prog 17 #[] w fun e w' => ∃ g c, e = .returned (.agg #[.slice (some ⟨g, 0, none⟩) 1 c, .int .i64 0, .int .i64 0]) ∧ OwnR w (fun _ => False) (some ⟨g, 0, none⟩) 1 c [headN] w' := by
  have HO := hide (World.ownsRow_lit (base := w.heap.size) (e := 38) (size := 7) (w.alloc (.cells #[.slice (some ⟨w.heap.size + 1, 0, none⟩) 1 1, .int .i64 0, .int .i64 0] 24)) #[.int .u64 0, .slice none 0 0, .int .u64 0, .int .i64 0, .slice none 0 0, .int .i64 0, .int .i64 0] 1 (by simp) (by simp [maxLen]) rfl)
  have hb1 := below1 w (.cells #[.slice (some ⟨w.heap.size + 1, 0, none⟩) 1 1, .int .i64 0, .int .i64 0] 24)
  have hb2 := below1 (w.alloc (.cells #[.slice (some ⟨w.heap.size + 1, 0, none⟩) 1 1, .int .i64 0, .int .i64 0] 24)) (.cells #[.int .u64 0, .slice none 0 0, .int .u64 0, .int .i64 0, .slice none 0 0, .int .i64 0, .int .i64 0] 38)
  have HB := hide (Below.step hb1 hb2)
  have hq : Blk ((w.alloc (.cells #[.slice (some ⟨w.heap.size + 1, 0, none⟩) 1 1, .int .i64 0, .int .i64 0] 24)).alloc (.cells #[.int .u64 0, .slice none 0 0, .int .u64 0, .int .i64 0, .slice none 0 0, .int .i64 0, .int .i64 0] 38)) w.heap.size 24 #[.slice (some ⟨w.heap.size + 1, 0, none⟩) 1 1, .int .i64 0, .int .i64 0] := (Blk.new w _ _).alloc _
  have HQ := hide hq
  clear hb1 hb2 hq
  go_enter Tryz.func17, Tryz.ntmps17
  go_wp2
  have hsz : (w.alloc (.cells #[.slice (some ⟨w.heap.size + 1, 0, none⟩) 1 1, .int .i64 0, .int .i64 0] 24)).heap.size = w.heap.size + 1 := by simp
  have ho := HO.out
  rw [hsz] at ho
  obtain ⟨q0, q1, q2⟩ := HQ.out.cell3
  refine bodyPost_ret (v := .agg #[.slice (some ⟨w.heap.size + 1, 0, none⟩) 1 1, .int .i64 0, .int .i64 0]) (by simp [results, Tryz.results17, go_sem, q0, q1, q2]) rfl ⟨w.heap.size + 1, 1, rfl, HB.out, _, ho, ?_⟩
  have h1 : SNode.rd ((w.alloc (.cells #[.slice (some ⟨w.heap.size + 1, 0, none⟩) 1 1, .int .i64 0, .int .i64 0] 24)).alloc (.cells #[.int .u64 0, .slice none 0 0, .int .u64 0, .int .i64 0, .slice none 0 0, .int .i64 0, .int .i64 0] 38)) (fun d => d < ((w.alloc (.cells #[.slice (some ⟨w.heap.size + 1, 0, none⟩) 1 1, .int .i64 0, .int .i64 0] 24)).alloc (.cells #[.int .u64 0, .slice none 0 0, .int .u64 0, .int .i64 0, .slice none 0 0, .int .i64 0, .int .i64 0] 38)).heap.size ∧ (Value.slice (some ⟨w.heap.size + 1, 0, none⟩) 1 1).ownBlock ≠ some d ∧ ¬ False) headN [.int .u64 0, .slice none 0 0, .int .u64 0, .int .i64 0, .slice none 0 0, .int .i64 0, .int .i64 0] :=
    node_of headN (V := none) (L := none) (cV := 0) (cL := 0) (by simp [headN]) (by omega) RdR.nil (by simp [headN]) (by omega) RdR.nil
  have h2 := RowX.nil.snoc h1
  simpa using h2
end Go.Proofs.YtlnbeeflifmnjadGreat

/-
  A plane of the call's own memory that is changed: its variable, its nodes in a row, other variables. No condition.
-/
namespace Go.Proofs.YtlnbeeflifmnjadGreat
set_option linter.unusedSimpArgs false
set_option linter.unusedVariables false
open Go.RowKit

/-- blocks that are none of those that turn -/
def FrE (W : World) (va : Value) (b4 : Nat) (bx : List (Nat × TypeId × Array Value)) (d : Nat) : Prop := d < W.heap.size ∧ va.ownBlock ≠ some d ∧ d ≠ b4 ∧ ∀ q ∈ bx, d ≠ q.1
/-- a plane's variable, its nodes, other variables -/
structure PE (w : World) (b4 : Nat) (v4 : Value) (en top : Int) (bx : List (Nat × TypeId × Array Value)) (va : Value) (n : Nat) (l : List NodeP) (W : World) : Prop where
  bel : Below w.heap.size w W
  p : Blk W b4 24 #[v4, .int .i64 en, .int .i64 top]
  own : ∃ cs, W.ownsRow w.heap.size 38 7 va n cs ∧ RowX SNode W (FrE W va b4 bx) l cs
  hb4 : w.heap.size ≤ b4
  bx : ∀ q ∈ bx, Blk W q.1 q.2.1 q.2.2 ∧ w.heap.size ≤ q.1 ∧ q.1 ≠ b4 ∧ va.ownBlock ≠ some q.1
section
variable {w W W' : World} {b4 n c g : Nat} {v4 va : Value} {en top : Int} {bx bx' : List (Nat × TypeId × Array Value)} {l : List NodeP}
theorem PE.blk (h : PE w b4 v4 en top bx va n l W) {g : Nat} {t : TypeId} {xs : Array Value} (hg : (g, t, xs) ∈ bx) : Blk W g t xs := (h.bx _ hg).1
theorem PE.own4 (h : PE w b4 v4 en top bx va n l W) : va.ownBlock ≠ some b4 := by
  obtain ⟨cs, h1, _⟩ := h.own
  exact own_blk_ne h1 h.p (by decide)
theorem PE.keep (h : PE w b4 v4 en top bx va n l W) (hb : Below w.heap.size w W') (hs : W.heap.size ≤ W'.heap.size) (hk : ∀ d, d < W.heap.size → W'.heap[d]? = W.heap[d]?) : PE w b4 v4 en top bx va n l W' := by
  obtain ⟨cs, h1, h2⟩ := h.own
  exact ⟨hb, (hk b4 h.p.lt).trans h.p, ⟨cs, own_keep h1 fun g hg => hk g (h1.lt g hg).2, (h2.keepBlocks fun d hd => hk d hd.1).more fun d hd => ⟨Nat.lt_of_lt_of_le hd.1 hs, hd.2⟩⟩, h.hb4, fun q hq => ⟨(hk _ (h.bx q hq).1.lt).trans (h.bx q hq).1, (h.bx q hq).2⟩⟩
theorem PE.step (h : PE w b4 v4 en top bx va n l W) (hb : Below W.heap.size W W') : PE w b4 v4 en top bx va n l W' := h.keep (Below.step h.bel hb) hb.size hb.block
theorem PE.cells (h : PE w b4 v4 en top bx va n l W) : W.cell? ⟨b4, 0, none⟩ = some v4 ∧ W.cell? ⟨b4, 1, none⟩ = some (.int .i64 en) ∧ W.cell? ⟨b4, 2, none⟩ = some (.int .i64 top) := h.p.cell3
theorem PE.frozen (h : PE w b4 v4 en top bx va n l W) (i : Nat) : W.frozen? ⟨b4, i, none⟩ = false := h.p.frozen i
/-- the plane's variable gets another slice -/
theorem PE.set4 (h : PE w b4 v4 en top bx va n l W) (v : Value) : PE w b4 v en top bx va n l (W.setCell ⟨b4, 0, none⟩ v) := by
  obtain ⟨cs, h1, h2⟩ := h.own
  refine ⟨h.bel.setCell h.hb4 v, by have := h.p.set_ 0 v; simpa using this, ⟨cs, own_far h1 _ h.own4 v, (h2.keepBlocks fun d hd => Below.heap_setCell W _ v d hd.2.2.1).more fun d hd => ⟨by simpa using hd.1, hd.2⟩⟩, h.hb4, fun q hq => ⟨Blk.far (h.bx q hq).1 (h.bx q hq).2.2.1 v, (h.bx q hq).2⟩⟩
theorem PE.set41 (h : PE w b4 v4 en top bx va n l W) (z : Int) : PE w b4 v4 z top bx va n l (W.setCell ⟨b4, 1, none⟩ (.int .i64 z)) := by
  obtain ⟨cs, h1, h2⟩ := h.own
  refine ⟨h.bel.setCell h.hb4 _, by have := h.p.set_ 1 (.int .i64 z); simpa using this, ⟨cs, own_far h1 _ h.own4 _, (h2.keepBlocks fun d hd => Below.heap_setCell W _ _ d hd.2.2.1).more fun d hd => ⟨by simpa using hd.1, hd.2⟩⟩, h.hb4, fun q hq => ⟨Blk.far (h.bx q hq).1 (h.bx q hq).2.2.1 _, (h.bx q hq).2⟩⟩
theorem PE.set42 (h : PE w b4 v4 en top bx va n l W) (z : Int) : PE w b4 v4 en z bx va n l (W.setCell ⟨b4, 2, none⟩ (.int .i64 z)) := by
  obtain ⟨cs, h1, h2⟩ := h.own
  refine ⟨h.bel.setCell h.hb4 _, by have := h.p.set_ 2 (.int .i64 z); simpa using this, ⟨cs, own_far h1 _ h.own4 _, (h2.keepBlocks fun d hd => Below.heap_setCell W _ _ d hd.2.2.1).more fun d hd => ⟨by simpa using hd.1, hd.2⟩⟩, h.hb4, fun q hq => ⟨Blk.far (h.bx q hq).1 (h.bx q hq).2.2.1 _, (h.bx q hq).2⟩⟩
/-- another variable's cell is set -/
theorem PE.setX {q : Nat} {t : TypeId} {xs : Array Value} (h : PE w b4 v4 en top ((q, t, xs) :: bx) va n l W) (hn : ∀ p ∈ bx, p.1 ≠ q) (i : Nat) (v : Value) : PE w b4 v4 en top ((q, t, xs.setIfInBounds i v) :: bx) va n l (W.setCell ⟨q, i, none⟩ v) := by
  obtain ⟨cs, h1, h2⟩ := h.own
  obtain ⟨k1, k2, k3, k4⟩ := h.bx _ (List.mem_cons_self ..)
  refine ⟨h.bel.setCell k2 v, Blk.far h.p (fun e => k3 e.symm) v, ⟨cs, own_far h1 _ k4 v, (h2.keepBlocks fun d hd => Below.heap_setCell W _ v d (hd.2.2.2 _ (List.mem_cons_self ..))).more fun d hd => ⟨by simpa using hd.1, hd.2.1, hd.2.2.1, fun p hp => ?_⟩⟩, h.hb4, fun p hp => ?_⟩
  · rcases List.mem_cons.1 hp with rfl | hp
    · exact hd.2.2.2 (q, t, xs) (List.mem_cons_self ..)
    · exact hd.2.2.2 _ (List.mem_cons_of_mem _ hp)
  · rcases List.mem_cons.1 hp with rfl | hp
    · exact ⟨k1.set_ i v, k2, k3, k4⟩
    · have := h.bx p (List.mem_cons_of_mem _ hp)
      exact ⟨Blk.far this.1 (hn p hp) v, this.2⟩
theorem PE.boxed (h : PE w b4 v4 en top bx va n l W) (hb : Below W.heap.size W W') {g : Nat} {t : TypeId} {cs : Array Value} (hg : Blk W' g t cs) (hs : W.heap.size ≤ g) : PE w b4 v4 en top ((g, t, cs) :: bx) va n l W' := by
  have h2 := h.step hb
  obtain ⟨ds, k1, k2⟩ := h.own
  have hgr : ∀ d, d < W.heap.size → d ≠ g := fun d hd e => by omega
  refine ⟨h2.bel, h2.p, ⟨ds, own_keep k1 fun d hd => hb.block d (k1.lt d hd).2, (k2.keepBlocks fun d hd => hb.block d hd.1).more fun d hd => ⟨Nat.lt_of_lt_of_le hd.1 hb.size, hd.2.1, hd.2.2.1, fun p hp => ?_⟩⟩, h.hb4, fun p hp => ?_⟩
  · rcases List.mem_cons.1 hp with rfl | hp
    · exact hgr d hd.1
    · exact hd.2.2.2 p hp
  · rcases List.mem_cons.1 hp with rfl | hp
    · exact ⟨hg, Nat.le_trans h.bel.size hs, fun e => hgr _ h.p.lt e.symm, fun e => hgr _ (k1.lt _ e).2 rfl⟩
    · exact h2.bx p hp
theorem PE.box (h : PE w b4 v4 en top bx va n l W) (t : TypeId) (cs : Array Value) : PE w b4 v4 en top ((W.heap.size, t, cs) :: bx) va n l (W.alloc (.cells cs t)) := h.boxed (below1 _ _) (Blk.new _ _ _) (Nat.le_refl _)
theorem PE.drop (h : PE w b4 v4 en top bx va n l W) (hs : ∀ q ∈ bx', q ∈ bx) : PE w b4 v4 en top bx' va n l W := by
  obtain ⟨cs, h1, h2⟩ := h.own
  exact ⟨h.bel, h.p, ⟨cs, h1, h2.more fun d hd => ⟨hd.1, hd.2.1, hd.2.2.1, fun q hq => hd.2.2.2 q (hs q hq)⟩⟩, h.hb4, fun q hq => h.bx q (hs q hq)⟩
theorem PE.len (h : PE w b4 v4 en top bx va n l W) : l.length = n := by
  obtain ⟨cs, h1, h2⟩ := h.own
  have h3 := h1.1
  rw [h2.1] at h3
  have h4 : SNode.size = 7 := rfl
  rw [h4] at h3
  omega
theorem PE.form (h : PE w b4 v4 en top bx va n l W) (hn : 0 < n) : ∃ g c, va = .slice (some ⟨g, 0, none⟩) n c ∧ n ≤ c ∧ w.heap.size ≤ g ∧ g < W.heap.size := by
  obtain ⟨cs, h1, _⟩ := h.own
  obtain ⟨g, c, e, k1, k2⟩ := h1.form hn
  obtain ⟨A, c', e2, k3, _⟩ := own_form h1
  rw [e] at e2
  injection e2 with e3 e4 e5
  exact ⟨g, c, e, by omega, k1, k2⟩
theorem PE.frozenN (h : PE w b4 v4 en top bx (.slice (some ⟨g, 0, none⟩) n c) n l W) (j : Nat) : W.frozen? ⟨g, j, none⟩ = false := by
  obtain ⟨cs, h1, _⟩ := h.own
  exact h1.frozenAt j
/-- a node's cells -/
theorem PE.node (h : PE w b4 v4 en top bx (.slice (some ⟨g, 0, none⟩) n c) n l W) {k : Nat} {x : NodeP} (hx : l[k]? = some x) : ∃ V cV L cL, x.1.2.1.length ≤ cV ∧ cV ≤ 9223372036854775807 ∧ x.2.2.1.length ≤ cL ∧ cL ≤ 9223372036854775807 ∧ RdR (Sh.int .i32) W (FrE W (.slice (some ⟨g, 0, none⟩) n c) b4 bx) V x.1.2.1 ∧ RdR (Sh.list (Sh.int .i64)) W (FrE W (.slice (some ⟨g, 0, none⟩) n c) b4 bx) L x.2.2.1 ∧
    W.cell? ⟨g, k * 7, none⟩ = some (.int .u64 x.1.1) ∧ W.cell? ⟨g, k * 7 + 1, none⟩ = some (.slice V x.1.2.1.length cV) ∧ W.cell? ⟨g, k * 7 + 2, none⟩ = some (.int .u64 x.1.2.2) ∧ W.cell? ⟨g, k * 7 + 3, none⟩ = some (.int .i64 x.2.1) ∧ W.cell? ⟨g, k * 7 + 4, none⟩ = some (.slice L x.2.2.1.length cL) ∧ W.cell? ⟨g, k * 7 + 5, none⟩ = some (.int .i64 x.2.2.2.1) ∧ W.cell? ⟨g, k * 7 + 6, none⟩ = some (.int .i64 x.2.2.2.2) := by
  obtain ⟨cs, h1, h2⟩ := h.own
  obtain ⟨c0, h3, h4⟩ := h2.2 k x hx
  obtain ⟨V, cV, L, cL, rfl, v1, v2, v3, l1, l2, l3⟩ := node_cells h3
  refine ⟨V, cV, L, cL, v1, v2, l1, l2, v3, l3, ?_, ?_, ?_, ?_, ?_, ?_, ?_⟩
  · have := h1.cells (g := g) rfl _ _ (h4 0 (by decide))
    rw [add_mk, Nat.zero_add] at this; exact this
  · have := h1.cells (g := g) rfl _ _ (h4 1 (by decide))
    rw [add_mk, Nat.zero_add] at this; exact this
  · have := h1.cells (g := g) rfl _ _ (h4 2 (by decide))
    rw [add_mk, Nat.zero_add] at this; exact this
  · have := h1.cells (g := g) rfl _ _ (h4 3 (by decide))
    rw [add_mk, Nat.zero_add] at this; exact this
  · have := h1.cells (g := g) rfl _ _ (h4 4 (by decide))
    rw [add_mk, Nat.zero_add] at this; exact this
  · have := h1.cells (g := g) rfl _ _ (h4 5 (by decide))
    rw [add_mk, Nat.zero_add] at this; exact this
  · have := h1.cells (g := g) rfl _ _ (h4 6 (by decide))
    rw [add_mk, Nat.zero_add] at this; exact this
/-- a node's cell is set -/
theorem PE.setN (h : PE w b4 v4 en top bx (.slice (some ⟨g, 0, none⟩) n c) n l W) {k : Nat} {x y : NodeP} (hx : l[k]? = some x) (i : Nat) (v : Value) (hi : i < 7)
    (hy : ∀ V cV L cL, x.1.2.1.length ≤ cV → cV ≤ 9223372036854775807 → RdR (Sh.int .i32) W (FrE W (.slice (some ⟨g, 0, none⟩) n c) b4 bx) V x.1.2.1 → x.2.2.1.length ≤ cL → cL ≤ 9223372036854775807 → RdR (Sh.list (Sh.int .i64)) W (FrE W (.slice (some ⟨g, 0, none⟩) n c) b4 bx) L x.2.2.1 →
      SNode.rd W (FrE W (.slice (some ⟨g, 0, none⟩) n c) b4 bx) y (([.int .u64 x.1.1, .slice V x.1.2.1.length cV, .int .u64 x.1.2.2, .int .i64 x.2.1, .slice L x.2.2.1.length cL, .int .i64 x.2.2.2.1, .int .i64 x.2.2.2.2] : List Value).set i v)) : PE w b4 v4 en top bx (.slice (some ⟨g, 0, none⟩) n c) n (l.set k y) (W.setCell ⟨g, k * 7 + i, none⟩ v) := by
  obtain ⟨cs, h1, h2⟩ := h.own
  have hwg : w.heap.size ≤ g := (h1.lt g rfl).1
  have h4 : b4 ≠ g := fun e => h.own4 (by rw [e]; rfl)
  refine ⟨h.bel.setCell hwg v, Blk.far h.p h4 v, ⟨cs.set (k * 7 + i) v, own_setCell h1 _ v, ?_⟩, h.hb4, fun q hq => ?_⟩
  · have h6 := RowX.set (S := SNode) (k := k) (i := i) (y := y) (v := v) h2 hx hi fun c hc _ => by
      obtain ⟨V, cV, L, cL, rfl, v1, v2, v3, l1, l2, l3⟩ := node_cells hc
      exact hy V cV L cL v1 v2 v3 l1 l2 l3
    exact (h6.keepBlocks fun d hd => Below.heap_setCell W _ v d fun e => hd.2.1 (by rw [e]; rfl)).more fun d hd => ⟨by simpa using hd.1, hd.2⟩
  · have := h.bx q hq
    exact ⟨Blk.far this.1 (fun e => this.2.2.2 (by rw [e]; rfl)) v, this.2⟩
theorem PE.next (h : PE w b4 v4 en top bx (.slice (some ⟨g, 0, none⟩) n c) n l W) {k : Nat} {x : NodeP} (hx : l[k]? = some x) (z : Int) : PE w b4 v4 en top bx (.slice (some ⟨g, 0, none⟩) n c) n (l.set k (x.1, x.2.1, x.2.2.1, z, x.2.2.2.2)) (W.setCell ⟨g, k * 7 + 5, none⟩ (.int .i64 z)) :=
  h.setN hx 5 _ (by omega) fun V cV L cL v1 v2 v3 l1 l2 l3 => node_of (x.1, x.2.1, x.2.2.1, z, x.2.2.2.2) v1 v2 v3 l1 l2 l3
theorem PE.prev (h : PE w b4 v4 en top bx (.slice (some ⟨g, 0, none⟩) n c) n l W) {k : Nat} {x : NodeP} (hx : l[k]? = some x) (z : Int) : PE w b4 v4 en top bx (.slice (some ⟨g, 0, none⟩) n c) n (l.set k (x.1, x.2.1, x.2.2.1, x.2.2.2.1, z)) (W.setCell ⟨g, k * 7 + 6, none⟩ (.int .i64 z)) :=
  h.setN hx 6 _ (by omega) fun V cV L cL v1 v2 v3 l1 l2 l3 => node_of (x.1, x.2.1, x.2.2.1, x.2.2.2.1, z) v1 v2 v3 l1 l2 l3
/-- a node's lists are others -/
theorem PE.lists (h : PE w b4 v4 en top bx (.slice (some ⟨g, 0, none⟩) n c) n l W) {k : Nat} {x : NodeP} (hx : l[k]? = some x) {ls : List (List Int)} {L : Option Addr} {cL : Nat} (h1 : ls.length ≤ cL) (h2 : cL ≤ 9223372036854775807) (h3 : RdR (Sh.list (Sh.int .i64)) W (FrE W (.slice (some ⟨g, 0, none⟩) n c) b4 bx) L ls) : PE w b4 v4 en top bx (.slice (some ⟨g, 0, none⟩) n c) n (l.set k (x.1, x.2.1, ls, x.2.2.2.1, x.2.2.2.2)) (W.setCell ⟨g, k * 7 + 4, none⟩ (.slice L ls.length cL)) :=
  h.setN hx 4 _ (by omega) fun V cV L0 cL0 v1 v2 v3 l1 l2 l3 => node_of (x.1, x.2.1, ls, x.2.2.2.1, x.2.2.2.2) v1 v2 v3 h1 h2 h3
theorem set_set {α : Type} {l : List α} {k : Nat} {x y : α} : (l.set k x).set k y = l.set k y := by simp
theorem FrE.set {p : Addr} {v : Value} {d : Nat} (h : FrE W va b4 bx d) : FrE (W.setCell p v) va b4 bx d := ⟨by simpa using h.1, h.2⟩
/-- a whole node is set -/
theorem PE.put7 (h : PE w b4 v4 en top bx (.slice (some ⟨g, 0, none⟩) n c) n l W) {k : Nat} {x : NodeP} (hx : l[k]? = some x) (y : NodeP) {V L : Option Addr} {cV cL : Nat} (v1 : y.1.2.1.length ≤ cV) (v2 : cV ≤ 9223372036854775807) (v3 : RdR (Sh.int .i32) W (FrE W (.slice (some ⟨g, 0, none⟩) n c) b4 bx) V y.1.2.1) (l1 : y.2.2.1.length ≤ cL) (l2 : cL ≤ 9223372036854775807) (l3 : RdR (Sh.list (Sh.int .i64)) W (FrE W (.slice (some ⟨g, 0, none⟩) n c) b4 bx) L y.2.2.1) :
    PE w b4 v4 en top bx (.slice (some ⟨g, 0, none⟩) n c) n (l.set k y) (((((((W.setCell ⟨g, k * 7, none⟩ (.int .u64 y.1.1)).setCell ⟨g, k * 7 + 1, none⟩ (.slice V y.1.2.1.length cV)).setCell ⟨g, k * 7 + 2, none⟩ (.int .u64 y.1.2.2)).setCell ⟨g, k * 7 + 3, none⟩ (.int .i64 y.2.1)).setCell ⟨g, k * 7 + 4, none⟩ (.slice L y.2.2.1.length cL)).setCell ⟨g, k * 7 + 5, none⟩ (.int .i64 y.2.2.2.1)).setCell ⟨g, k * 7 + 6, none⟩ (.int .i64 y.2.2.2.2)) := by
  have hk := (List.getElem?_eq_some_iff.1 hx).1
  obtain ⟨⟨id, vs, tg⟩, lv, ls, nx, pv⟩ := x
  obtain ⟨⟨id', vs', tg'⟩, lv', ls', nx', pv'⟩ := y
  simp only at v1 v2 v3 l1 l2 l3 ⊢
  have keepV : ∀ {W1 W2 : World}, (∀ d, FrE W1 (.slice (some ⟨g, 0, none⟩) n c) b4 bx d → W2.heap[d]? = W1.heap[d]? ∧ FrE W2 (.slice (some ⟨g, 0, none⟩) n c) b4 bx d) → RdR (Sh.int .i32) W1 (FrE W1 (.slice (some ⟨g, 0, none⟩) n c) b4 bx) V vs' → RdR (Sh.int .i32) W2 (FrE W2 (.slice (some ⟨g, 0, none⟩) n c) b4 bx) V vs' := fun hh hr => (hr.keepBlocks fun d hd => (hh d hd).1).more fun d hd => (hh d hd).2
  have keepL : ∀ {W1 W2 : World}, (∀ d, FrE W1 (.slice (some ⟨g, 0, none⟩) n c) b4 bx d → W2.heap[d]? = W1.heap[d]? ∧ FrE W2 (.slice (some ⟨g, 0, none⟩) n c) b4 bx d) → RdR (Sh.list (Sh.int .i64)) W1 (FrE W1 (.slice (some ⟨g, 0, none⟩) n c) b4 bx) L ls' → RdR (Sh.list (Sh.int .i64)) W2 (FrE W2 (.slice (some ⟨g, 0, none⟩) n c) b4 bx) L ls' := fun hh hr => (hr.keepBlocks fun d hd => (hh d hd).1).more fun d hd => (hh d hd).2
  have one : ∀ {W1 : World} (j : Nat) (v : Value), ∀ d, FrE W1 (.slice (some ⟨g, 0, none⟩) n c) b4 bx d → (W1.setCell ⟨g, j, none⟩ v).heap[d]? = W1.heap[d]? ∧ FrE (W1.setCell ⟨g, j, none⟩ v) (.slice (some ⟨g, 0, none⟩) n c) b4 bx d := fun j v d hd => ⟨Below.heap_setCell _ _ v d fun e => hd.2.1 (by rw [e]; rfl), hd.set⟩
  have a0 := h.setN hx (y := ((id', vs, tg), lv, ls, nx, pv)) 0 (.int .u64 id') (by omega) fun V0 cV0 L0 cL0 q1 q2 q3 q4 q5 q6 => node_of _ q1 q2 q3 q4 q5 q6
  have a1 := a0.setN (k := k) (List.getElem?_set_self hk) (y := ((id', vs', tg), lv, ls, nx, pv)) 1 (.slice V vs'.length cV) (by omega) fun V0 cV0 L0 cL0 q1 q2 q3 q4 q5 q6 => node_of _ v1 v2 (keepV (one _ _) v3) q4 q5 q6
  rw [set_set] at a1
  have a2 := a1.setN (k := k) (List.getElem?_set_self hk) (y := ((id', vs', tg'), lv, ls, nx, pv)) 2 (.int .u64 tg') (by omega) fun V0 cV0 L0 cL0 q1 q2 q3 q4 q5 q6 => node_of _ q1 q2 q3 q4 q5 q6
  rw [set_set] at a2
  have a3 := a2.setN (k := k) (List.getElem?_set_self hk) (y := ((id', vs', tg'), lv', ls, nx, pv)) 3 (.int .i64 lv') (by omega) fun V0 cV0 L0 cL0 q1 q2 q3 q4 q5 q6 => node_of _ q1 q2 q3 q4 q5 q6
  rw [set_set] at a3
  have a4 := a3.setN (k := k) (List.getElem?_set_self hk) (y := ((id', vs', tg'), lv', ls', nx, pv)) 4 (.slice L ls'.length cL) (by omega) fun V0 cV0 L0 cL0 q1 q2 q3 q4 q5 q6 => node_of _ q1 q2 q3 l1 l2 (keepL (one _ _) (keepL (one _ _) (keepL (one _ _) (keepL (one _ _) l3))))
  rw [set_set] at a4
  have a5 := a4.setN (k := k) (List.getElem?_set_self hk) (y := ((id', vs', tg'), lv', ls', nx', pv)) 5 (.int .i64 nx') (by omega) fun V0 cV0 L0 cL0 q1 q2 q3 q4 q5 q6 => node_of _ q1 q2 q3 q4 q5 q6
  rw [set_set] at a5
  have a6 := a5.setN (k := k) (List.getElem?_set_self hk) (y := ((id', vs', tg'), lv', ls', nx', pv')) 6 (.int .i64 pv') (by omega) fun V0 cV0 L0 cL0 q1 q2 q3 q4 q5 q6 => node_of _ q1 q2 q3 q4 q5 q6
  rw [set_set] at a6
  exact a6
/-- the row has grown by an empty node -/
theorem PE.grow {va' : Value} {cs : List Value} (h : PE w b4 v4 en top bx va n l W) (ho0 : W.ownsRow w.heap.size 38 7 va n cs) (hr : RowX SNode W (FrE W va b4 bx) l cs) (hg : W.grownBy W' va.ownBlock) (ho : W'.ownsRow w.heap.size 38 7 va' (n + 1) (cs ++ [.int .u64 0, .slice none 0 0, .int .u64 0, .int .i64 0, .slice none 0 0, .int .i64 0, .int .i64 0])) (hat0 : va'.ownBlock = va.ownBlock ∨ va'.ownBlock = some W.heap.size) : PE w b4 v4 en top bx va' (n + 1) (l ++ [headN]) W' := by
  have hat : ∀ d, va'.ownBlock = some d → va.ownBlock = some d ∨ W.heap.size ≤ d := fun d hd => hat0.elim (fun e => .inl (e ▸ hd)) fun e => .inr (by rw [e] at hd; injection hd with hd; omega)
  have hk : ∀ d, FrE W va b4 bx d → W'.heap[d]? = W.heap[d]? ∧ FrE W' va' b4 bx d := fun d hd => ⟨hg.block d hd.1 fun e => hd.2.1 e.symm, Nat.lt_of_lt_of_le hd.1 hg.size, fun e => (hat d e).elim hd.2.1 fun e => by have := hd.1; omega, hd.2.2⟩
  refine ⟨below_own h.bel ho0 h.bel.size hg, h.p.grown hg (fun e => h.own4 e.symm), ⟨_, ho, ?_⟩, h.hb4, fun q hq => ?_⟩
  · refine RowX.snoc ((hr.keepBlocks fun d hd => (hk d hd).1).more fun d hd => (hk d hd).2) ?_
    exact node_of headN (V := none) (L := none) (cV := 0) (cL := 0) (by simp [headN]) (by omega) RdR.nil (by simp [headN]) (by omega) RdR.nil
  · obtain ⟨k1, k2, k3, k4⟩ := h.bx q hq
    exact ⟨k1.grown hg (fun e => k4 e.symm), k2, k3, fun e => (hat _ e).elim k4 fun e => by have := k1.lt; omega⟩
/-- what own gave -/
theorem PE.start {w0 : World} {A : Option Addr} (h : OwnR w0 (fun d => d = b4 ∨ ∃ q ∈ bx, d = q.1) A n c l W) (hb : Below w.heap.size w w0) (hp : Blk w0 b4 24 #[v4, .int .i64 en, .int .i64 top]) (h4 : w.heap.size ≤ b4) (hx : ∀ q ∈ bx, Blk w0 q.1 q.2.1 q.2.2 ∧ w.heap.size ≤ q.1 ∧ q.1 ≠ b4) : PE w b4 v4 en top bx (.slice A n c) n l W := by
  obtain ⟨cs, h1, h2⟩ := h.own
  have hs := hb.size
  refine ⟨Below.step hb h.bel, hp.below h.bel hp.lt, ⟨cs, own_lowW h1 hs, h2.more fun d hd => ⟨hd.1, hd.2.1, fun e => hd.2.2 (.inl e), fun q hq e => hd.2.2 (.inr ⟨q, hq, e⟩)⟩⟩, h4, fun q hq => ?_⟩
  obtain ⟨k1, k2, k3⟩ := hx q hq
  exact ⟨k1.below h.bel k1.lt, k2, k3, fun e => by have := (h1.lt _ e).1; have := k1.lt; omega⟩
theorem PE.give {A : Option Addr} (h : PE w b4 v4 en top bx (.slice A n c) n l W) : OwnR w (fun _ => False) A n c l W := by
  obtain ⟨cs, h1, h2⟩ := h.own
  exact ⟨h.bel, cs, h1, h2.more fun d hd => ⟨hd.1, hd.2.1, fun e => e⟩⟩
end
end Go.Proofs.YtlnbeeflifmnjadGreat

/-
  The package plane: Put, where all slots live and nothing speaks against it. Conditions: the slice of nodes reads as a list, its numbers are small.
-/
namespace Go.Proofs.YtlnbeeflifmnjadGreat
set_option linter.unusedSimpArgs false
set_option linter.unusedVariables false
open Go.RowKit

/-- the least slot that is not there -/
def gapF (l : List Int) : Int := l.foldl (fun a s => if s = a then a + 1 else a) 1
theorem gap_snoc {l : List Int} {k : Nat} {x : Int} (h : l[k]? = some x) : gapF (l.take (k + 1)) = if x = gapF (l.take k) then gapF (l.take k) + 1 else gapF (l.take k) := by
  unfold gapF
  rw [takeI_snoc h, List.foldl_append]; rfl
theorem gap_rng (l : List Int) : ∀ k, 1 ≤ gapF (l.take k) ∧ gapF (l.take k) ≤ k + 1
  | 0 => by simp [gapF]
  | k + 1 => by
    have ih := gap_rng l k
    cases h : l[k]? with
    | none =>
      rw [List.take_add_one, h]
      simp only [Option.toList, List.append_nil]
      omega
    | some x =>
      rw [gap_snoc h]
      split <;> omega
def setNx (l : List NodeP) (k : Nat) (z : Int) : List NodeP := match l[k]? with | some x => l.set k (x.1, x.2.1, x.2.2.1, z, x.2.2.2.2) | none => l
def setPv (l : List NodeP) (k : Nat) (z : Int) : List NodeP := match l[k]? with | some x => l.set k (x.1, x.2.1, x.2.2.1, x.2.2.2.1, z) | none => l
/-- a plane's nodes with one more -/
def putNs (ns : List NodeP) (it : Int × List Int × Int) : List NodeP :=
  setNx (setPv (ns ++ [(it, 0, [[]], nextF ns 0, 0)]) (nextF ns 0).toNat ns.length) 0 ns.length
theorem setNx_len (l : List NodeP) (k : Nat) (z : Int) : (setNx l k z).length = l.length := by unfold setNx; split <;> simp
theorem setPv_len (l : List NodeP) (k : Nat) (z : Int) : (setPv l k z).length = l.length := by unfold setPv; split <;> simp
theorem setPv_next {l : List NodeP} {k j : Nat} {z : Int} {x : NodeP} (h : l[j]? = some x) : ∃ y, (setPv l k z)[j]? = some y ∧ y.2.2.2.1 = x.2.2.2.1 := by
  unfold setPv
  split
  · rename_i x0 hx0
    by_cases e : j = k
    · subst e
      rw [h] at hx0
      injection hx0 with hx0
      subst hx0
      exact ⟨_, List.getElem?_set_self (List.getElem?_eq_some_iff.1 h).1, rfl⟩
    · exact ⟨x, by rw [List.getElem?_set_ne (fun h => e h.symm)]; exact h, rfl⟩
  · exact ⟨x, h, rfl⟩
theorem PE.nextF {w W : World} {b4 n c g : Nat} {v4 : Value} {en top : Int} {bx : List (Nat × TypeId × Array Value)} {l : List NodeP} (h : PE w b4 v4 en top bx (.slice (some ⟨g, 0, none⟩) n c) n l W) {k : Nat} (hk : k < n) (z : Int) : PE w b4 v4 en top bx (.slice (some ⟨g, 0, none⟩) n c) n (setNx l k z) (W.setCell ⟨g, k * 7 + 5, none⟩ (.int .i64 z)) := by
  have e : l[k]? = some (l[k]'(by rw [h.len]; exact hk)) := List.getElem?_eq_getElem _
  unfold setNx
  rw [e]
  exact h.next e z
theorem PE.prevF {w W : World} {b4 n c g : Nat} {v4 : Value} {en top : Int} {bx : List (Nat × TypeId × Array Value)} {l : List NodeP} (h : PE w b4 v4 en top bx (.slice (some ⟨g, 0, none⟩) n c) n l W) {k : Nat} (hk : k < n) (z : Int) : PE w b4 v4 en top bx (.slice (some ⟨g, 0, none⟩) n c) n (setPv l k z) (W.setCell ⟨g, k * 7 + 6, none⟩ (.int .i64 z)) := by
  have e : l[k]? = some (l[k]'(by rw [h.len]; exact hk)) := List.getElem?_eq_getElem _
  unfold setPv
  rw [e]
  exact h.prev e z
/-- Put's variables -/
structure PtW (w : World) (b4 : Nat) (cs : Array Value) (b5 : Nat) (is : Array Value) (b8 : Nat) (W : World) : Prop where
  p : PlB w b4 cs W
  q : Blk W b5 35 is
  r : Blk W b8 24 #[.slice none 0 0, .int .i64 0, .int .i64 0]
  h4 : w.heap.size ≤ b4
  h5 : w.heap.size ≤ b5
  h8 : w.heap.size ≤ b8
  n48 : b4 ≠ b8
theorem PtW.step {w W W' : World} {b4 b5 b8 : Nat} {cs is : Array Value} (h : PtW w b4 cs b5 is b8 W) (hb : Below W.heap.size W W') : PtW w b4 cs b5 is b8 W' := ⟨h.p.step hb, h.q.below hb h.q.lt, h.r.below hb h.r.lt, h.h4, h.h5, h.h8, h.n48⟩
theorem PtW.start (w : World) (cs is : Array Value) : PtW w w.heap.size cs (w.heap.size + 1) is (w.heap.size + 1 + 1) (((w.alloc (.cells cs 24)).alloc (.cells is 35)).alloc (.cells #[.slice none 0 0, .int .i64 0, .int .i64 0] 24)) := by
  have hb1 := below1 w (.cells cs 24)
  have hb2 := below1 (w.alloc (.cells cs 24)) (.cells is 35)
  have hb3 := below1 ((w.alloc (.cells cs 24)).alloc (.cells is 35)) (.cells #[.slice none 0 0, .int .i64 0, .int .i64 0] 24)
  refine ⟨⟨Below.step (Below.step hb1 hb2) hb3, ((Blk.new w _ _).alloc _).alloc _⟩, ?_, ?_, by omega, by omega, by omega, by omega⟩
  · have h := (Blk.new (w.alloc (.cells cs 24)) 35 is).alloc (.cells #[.slice none 0 0, .int .i64 0, .int .i64 0] 24)
    simpa using h
  · have h := Blk.new ((w.alloc (.cells cs 24)).alloc (.cells is 35)) 24 #[.slice none 0 0, .int .i64 0, .int .i64 0]
    simpa using h
/-- the item's and the result's variable -/
def bxP (b5 b8 : Nat) (is : Array Value) : List (Nat × TypeId × Array Value) := [(b5, 35, is), (b8, 24, #[.slice none 0 0, .int .i64 0, .int .i64 0])]
theorem bxP_mem {b5 b8 : Nat} {is : Array Value} {q : Nat × TypeId × Array Value} (h : q ∈ bxP b5 b8 is) : q = (b5, 35, is) ∨ q = (b8, 24, #[.slice none 0 0, .int .i64 0, .int .i64 0]) := by
  unfold bxP at h
  simpa using h
/-- a node of nothing -/
def ZNl : List Value := [.int .u64 0, .slice none 0 0, .int .u64 0, .int .i64 0, .slice none 0 0, .int .i64 0, .int .i64 0]
abbrev ZN : Array Value := #[.int .u64 0, .slice none 0 0, .int .u64 0, .int .i64 0, .slice none 0 0, .int .i64 0, .int .i64 0]
theorem ZN_ones : ∀ v ∈ ZNl, v.oneCell' = true := by
  intro v hv
  simp only [ZNl, List.mem_cons, List.not_mem_nil, or_false] at hv
  rcases hv with rfl | rfl | rfl | rfl | rfl | rfl | rfl <;> rfl
theorem reads_newZ (w : World) : Reads (w.alloc (.cells ZN 38)) (w.heap.size + 1) 7 (some ⟨w.heap.size, 0, none⟩) 1 ZNl := by
  refine ⟨rfl, fun _ => ⟨⟨w.heap.size, 0, none⟩, rfl, by simp, fun j u hu => ?_⟩⟩
  rw [add_mk, Nat.zero_add]
  exact ((Blk.new w 38 ZN).cell j).trans (by rw [← hu]; simp [ZNl])
/-- .. whatever the nodes are: where the head's next one is -/
def PS (w : World) (b4 : Nat) (v4 : Value) (en top : Int) (bx : List (Nat × TypeId × Array Value)) (va : Value) (n : Nat) (nx : Int) (W : World) : Prop := ∃ l, PE w b4 v4 en top bx va n l W ∧ ∃ xh : NodeP, l[0]? = some xh ∧ xh.2.2.2.1 = nx
section
variable {w W W' : World} {b4 n c g : Nat} {v4 va : Value} {en top nx : Int} {bx : List (Nat × TypeId × Array Value)} {l : List NodeP}
theorem PS.step (h : PS w b4 v4 en top bx va n nx W) (hb : Below W.heap.size W W') : PS w b4 v4 en top bx va n nx W' := by
  obtain ⟨l, h1, h2⟩ := h
  exact ⟨l, h1.step hb, h2⟩
theorem PS.cells (h : PS w b4 v4 en top bx va n nx W) : W.cell? ⟨b4, 0, none⟩ = some v4 ∧ W.cell? ⟨b4, 1, none⟩ = some (.int .i64 en) ∧ W.cell? ⟨b4, 2, none⟩ = some (.int .i64 top) := by
  obtain ⟨l, h1, _⟩ := h
  exact h1.cells
theorem PS.blk (h : PS w b4 v4 en top bx va n nx W) {g : Nat} {t : TypeId} {xs : Array Value} (hg : (g, t, xs) ∈ bx) : Blk W g t xs := by
  obtain ⟨l, h1, _⟩ := h
  exact h1.blk hg
theorem PS.next5 (h : PS w b4 v4 en top bx (.slice (some ⟨g, 0, none⟩) n c) n nx W) : W.cell? ⟨g, 5, none⟩ = some (.int .i64 nx) := by
  obtain ⟨l, h1, xh, h2, rfl⟩ := h
  obtain ⟨_, _, _, _, _, _, _, _, _, _, -, -, -, -, -, h5, -⟩ := h1.node h2
  simpa using h5
/-- a new list of one empty list -/
theorem one_list (h : PE w b4 v4 en top bx va n l W) : RdR (Sh.list (Sh.int .i64)) (W.alloc (.cells (rep 1 (.slice none 0 0)) 44)) (FrE (W.alloc (.cells (rep 1 (.slice none 0 0)) 44)) va b4 bx) (some ⟨W.heap.size, 0, none⟩) [[]] := by
  have ho := World.ownsRow_lit (base := W.heap.size) (e := 44) (size := 1) W (rep 1 (.slice none 0 0)) 1 (Nat.le_refl _) (by simp [maxLen]) rfl
  have hr : RowX (Sh.list (Sh.int .i64)) (W.alloc (.cells (rep 1 (.slice none 0 0)) 44)) (FrE (W.alloc (.cells (rep 1 (.slice none 0 0)) 44)) va b4 bx) [[]] [.slice none 0 0] := by
    have h1 : (Sh.list (Sh.int .i64)).rd (W.alloc (.cells (rep 1 (.slice none 0 0)) 44)) (FrE (W.alloc (.cells (rep 1 (.slice none 0 0)) 44)) va b4 bx) [] [.slice none 0 0] := ⟨none, 0, rfl, by simp, by omega, RdR.nil⟩
    have h2 := RowX.nil.snoc h1
    simpa using h2
  refine RowX.rd (by decide) hr ho (fun d hd => hd) fun g hg => ?_
  have e : W.heap.size = g := by simpa [Value.ownBlock] using hg
  subst e
  obtain ⟨cs, k1, _⟩ := h.own
  exact ⟨by simp, fun e => by have := (k1.lt _ e).2; omega, fun e => by have := h.p.lt; omega, fun q hq e => by have := (h.bx q hq).1.lt; omega⟩
end
section
variable {w : World} {N : Option Addr} {nn cN : Nat} {ns : List NodeP} {en top : Int}
set_option maxHeartbeats 16000000 in
set_option maxRecDepth 100000 in
theorem put_any (hp : PlN w N nn ns) {links : Int} (hc : CheckP ns en top links) {id tg : Int} {vs : List Int} {V : Option Addr} {nv cV : Nat} (hv : Rd (Sh.int .i32) w w.heap.size V vs) (hnv : vs.length = nv) (h50 : nv ≤ 1048576) (hid : ∀ s ∈ liveF ns, idF ns s ≠ id) (hgap : gapF (liveF ns) = nn) (h19 : nn ≤ 19) :
    Calls Tryz.prog 16 #[.agg #[.slice N nn cN, .int .i64 en, .int .i64 top], .agg #[.int .u64 id, .slice V nv cV, .int .u64 tg], .int .i64 0, .int .i64 links] w fun e w' => ∃ A c, e = .returned (.tuple #[.agg #[.slice A (nn + 1) c, .int .i64 en, .int .i64 top], .int .i64 nn, .int .i64 0]) ∧ OwnR w (fun _ => False) A (nn + 1) c (putNs ns (id, vs, tg)) w' := by
  have HP := hide hp
  have Hl := hide hp.len
  have HC := hide hc
  have HVr := hide hv
  have HVn := hide hnv
  have HId := hide hid
  have HG := hide hgap
  have HS := hide (PtW.start w #[.slice N nn cN, .int .i64 en, .int .i64 top] #[.int .u64 id, .slice V nv cV, .int .u64 tg])
  have h0 : 0 < nn := by have := hc.pos; have := hp.len; omega
  clear hp hc hv hnv hid hgap
  go_enter Tryz.func16, Tryz.ntmps16
  go_upto_region 1 with fail
  generalize World.alloc (World.alloc (World.alloc w _) _) _ = w1 at *
  obtain ⟨b4, hb4⟩ : ∃ b, w.heap.size = b := ⟨_, rfl⟩
  have Hb4 := hide hb4
  rw [hb4] at HS
  rw [hb4]
  clear hb4
  obtain ⟨b5, hb5⟩ : ∃ b, b4 + 1 = b := ⟨_, rfl⟩
  rw [hb5] at HS
  rw [hb5]
  clear hb5
  obtain ⟨b8, hb8⟩ : ∃ b, b5 + 1 = b := ⟨_, rfl⟩
  rw [hb8] at HS
  rw [hb8]
  clear hb8
  obtain ⟨p0, p1, p2⟩ := HS.out.p.cells
  go_upto_region 2 with (go_at_call 12; refine (live_any (cN := cN) (en := en) (top := top) (HP.out.at_ HS.out.p.bel)).mono ?_; rintro e w2 ⟨A1, n1, c1, rfl, hl1, hc1, hc2, hr1, hb⟩; have HL1 := hide hl1; have HR1 := hide (hr1.rd fun d hd => hd.2); have HS2 := hide (HS.out.step hb); clear hb hl1 hr1)
  clear p0 p1 p2 HS
  have hn1 : n1 ≤ 20 := by have h := liveK_len ns ns.length; have := HL1.out; have := Hl.out; unfold liveF at *; omega
  obtain ⟨p0, p1, p2⟩ := HS2.out.p.cells
  go_upto_region 4 with (go_at_call 6; refine (check_any (cN := cN) (en := en) (top := top) (HP.out.at_ HS2.out.p.bel) links).mono ?_; rintro e w3 ⟨⟨r, rfl, hr, _⟩, hb⟩; obtain rfl : r = 0 := hr.2 HC.out; have HR3 := hide (HR1.out.at_world hb); have HS3 := hide (HS2.out.step hb); clear hb hr)
  clear p0 p1 p2 HS2 HR1
  go_upto_region 6 with fail
  have HAny := hide (show (liveF ns).any (fun x => decide (idF ns x = id)) = false from by
    rw [List.any_eq_false]
    intro x hx
    simpa using HId.out x hx)
  have HCt := hide (cont_put (w := w3) (c := c1) (b4 := b4) (b5 := b5) (fun x => decide (idF ns x = id)) (fun W x hx hb => by
    have ht := there_lt (live_mem.1 hx)
    obtain ⟨m, rfl⟩ : ∃ m : Nat, x = m := ⟨x.toNat, by omega⟩
    exact put1_any HP.out (HS3.out.step hb).p (HS3.out.step hb).q m (by have := Hl.out; omega)) HR3.out HL1.out (by omega))
  go_upto_region 8 with (go_at_call 30; refine HCt.out.mono ?_; rintro e w4 ⟨rfl, hb⟩; rw [HAny.out]; have HR4 := hide (HR3.out.at_world hb); have HS4 := hide (HS3.out.step hb); clear hb)
  clear HCt HR3 HS3 HAny
  have e3 : ((n1 : Int) == 4096) = false := by rw [beq_eq_false_iff_ne]; omega
  go_wp2
  go_loopw [12, 44] (fun s i wr => ∃ k : Nat, k ≤ n1 ∧ i = .int .i64 k ∧ s = .int .i64 (gapF ((liveF ns).take k)) ∧ wr = w4) (fun _ i _ => n1 - (intOf i).toNat)
  case atStart => exact ⟨0, by omega, rfl, rfl, rfl⟩
  case round =>
    obtain ⟨k, hk, rfl, rfl, rfl⟩ := hrel
    by_cases hlt : k < n1
    · have g0 : (0 : Int) ≤ k := by omega
      have g1 : (k : Int) < n1 := by omega
      obtain ⟨al, y, rfl, _, hv, q0⟩ := RdR.icell HR4.out (k := k) (by have := HL1.out; omega)
      have HSn := hide (gap_snoc hv)
      have hr := gap_rng (liveF ns) k
      clear hv
      obtain ⟨z, hz⟩ : ∃ z, gapF ((liveF ns).take k) = z := ⟨_, rfl⟩
      rw [hz] at HSn hr
      rw [hz]
      clear hz
      by_cases hy : y = z
      · subst hy
        have HSn2 := hide (show gapF ((liveF ns).take (k + 1)) = y + 1 from by rw [HSn.out, if_pos rfl])
        clear HSn
        go_wp2
        go_roundw
        case rel => exact ⟨k + 1, by omega, by go_num, by rw [HSn2.out], trivial⟩
        case measure => simp [intOf]; omega
      · have e4 : (y == z) = false := by rw [beq_eq_false_iff_ne]; exact hy
        have HSn2 := hide (show gapF ((liveF ns).take (k + 1)) = z from by rw [HSn.out, if_neg hy])
        clear HSn hy
        go_wp2
        go_roundw
        case rel => exact ⟨k + 1, by omega, by go_num, by rw [HSn2.out], trivial⟩
        case measure => simp [intOf]; omega
    · obtain rfl : n1 = k := by omega
      rw [List.take_of_length_le (by rw [HL1.out]; exact Nat.le_refl _), HG.out]
      clear HR4 e3
      have HNd := hide (show RdR SNode wr (fun d => d < wr.heap.size ∧ ¬ (d = b4 ∨ ∃ q ∈ bxP b5 b8 #[.int .u64 id, .slice V nv cV, .int .u64 tg], d = q.1)) N ns from (RdR.keepBlocks HP.out.nd fun d hd => HS4.out.p.bel.block d hd).more fun d hd => ⟨Nat.lt_of_lt_of_le hd HS4.out.p.bel.size, by
        have := HS4.out.h4; have := HS4.out.h5; have := HS4.out.h8
        rintro (rfl | ⟨q, hq, rfl⟩)
        · omega
        · rcases bxP_mem hq with rfl | rfl
          · simp only at hd; omega
          · simp only at hd; omega⟩)
      have CO := hide (own_any (en := en) (top := top) (cN := cN) (HP.out.at_ HS4.out.p.bel) HNd.out (by
        rintro d (rfl | ⟨q, hq, rfl⟩)
        · exact HS4.out.p.pl.lt
        · rcases bxP_mem hq with rfl | rfl
          · exact HS4.out.q.lt
          · exact HS4.out.r.lt))
      clear HNd
      obtain ⟨p0, p1, p2⟩ := HS4.out.p.cells
      go_upto_region 17 with fail
      go_upto_region 18 with (go_at_call 20; refine CO.out.mono ?_; rintro e w5 ⟨A5, c5, rfl, hor⟩; have HE := hide (PE.start hor HS4.out.p.bel HS4.out.p.pl HS4.out.h4 (by
        intro q hq
        rcases bxP_mem hq with rfl | rfl
        · exact ⟨HS4.out.q, HS4.out.h5, HS4.out.q.ne_ HS4.out.p.pl (by decide)⟩
        · exact ⟨HS4.out.r, HS4.out.h8, fun e => HS4.out.n48 e.symm⟩)); have f0 := HE.out.frozen 0; have f1 := HE.out.frozen 1; have f2 := HE.out.frozen 2; obtain ⟨x0, x1, x2⟩ := HE.out.cells; clear hor)
      have HE6 := hide (((HE.out.set4 (.slice A5 nn c5)).set41 en).set42 top)
      clear f0 f1 f2 x0 x1 x2 p0 p1 p2 CO HS4 HE
      generalize World.setCell (World.setCell (World.setCell w5 _ _) _ _) _ _ = w6 at *
      obtain ⟨g5, cg5, hA5, _, hg1, hg2⟩ := HE6.out.form h0
      injection hA5 with hA5 _ hc5
      subst hA5 hc5
      obtain ⟨x0, x1, x2⟩ := HE6.out.cells
      have f0 := HE6.out.frozen 0
      go_upto_region 19 with fail
      clear x0 x1 x2 f0
      have HE7 := hide (HE6.out.step (below1 w6 (.cells ZN 38)))
      have HSz := hide hg2
      clear hg1 hg2
      obtain ⟨cs, ho0, hr0⟩ := HE7.out.own
      have HO := hide ho0
      have HRw := hide hr0
      have HRd := hide (reads_newZ w6)
      obtain ⟨i1, hi1, hz1⟩ := Option.map_eq_some_iff.1 info_node
      simp only [Prod.mk.injEq] at hz1
      have HI := hide hi1
      have HZ := hide hz1.1
      have HSi := hide hz1.2.1
      have HY := hide hz1.2.2
      clear hi1 hz1 ho0 hr0
      obtain ⟨x0, x1, x2⟩ := HE6.out.cells
      go_upto_region 20 with (at_builtin; go_loud (refine wpList_append_any _ rfl (.tmp 62) (.tmp 64) 22 rfl w.heap.size 38 i1 _ 7 88 Tryz.underlying22 HI.out HZ.out HSi.out HY.out rfl (by decide) (.slice (some ⟨g5, 0, none⟩) nn c5) nn cs rfl HO.out _ (some ⟨w6.heap.size, 0, none⟩) 1 1 ZNl rfl HRd.out ZN_ones (by simp only [maxLen]; omega) (by omega) HE7.out.bel.size ?_; intro v' w9 hown9 hgr9 hat9; obtain ⟨A9, c9, rfl, o1, o2⟩ := own_form hown9; have HE9 := hide (HE7.out.grow HO.out HRw.out hgr9 hown9 hat9); have z0 := HE9.out.cells.1; have f0 := HE9.out.frozen 0; clear hown9 hgr9 hat9))
      have HE10 := hide (HE9.out.set4 (.slice A9 (nn + 1) c9))
      clear x0 x1 x2 z0 f0 HE9 HE7 HE6 HO HRw HRd HI HZ HSi HY HSz
      generalize World.setCell w9 _ _ = w10 at *
      obtain ⟨g, cg, hA9, _, hg1, hg2⟩ := HE10.out.form (by omega)
      injection hA9 with hA9 _ hc9
      subst hA9 hc9
      have HGl := hide hg2
      obtain ⟨x0, x1, x2⟩ := HE10.out.cells
      have g0 : (0 : Int) < ((nn + 1 : Nat) : Int) := by omega
      go_upto_region 21 with fail
      obtain ⟨y0, y1, y2⟩ := (HE10.out.blk (List.mem_cons_self ..)).cell3
      have CV := hide (cloneV_any V nv cV vs w10 (HVr.out.at_world HE10.out.bel) HVn.out (by omega))
      go_upto_region 22 with (go_at_call 32; go_loud (refine CV.out.mono ?_; rintro e w11 ⟨v8, rfl, A8, n8, c8, rfl, q1, q2, q3, hr8, hb8⟩; obtain rfl : nv = n8 := HVn.out.symm.trans q1; have HE11 := hide (HE10.out.step hb8); have HV11 := hide (show RdR (Sh.int .i32) w11 (FrE w11 (.slice (some ⟨g, 0, none⟩) (nn + 1) c9) b4 (bxP b5 b8 #[.int .u64 id, .slice V nv cV, .int .u64 tg])) A8 vs from hr8.more fun d hd => ⟨hd.2, fun e => by have e2 : g = d := (by simpa [Value.ownBlock] using e); have := HGl.out; have := hd.1; omega, fun e => by have := HE10.out.p.lt; have := hd.1; omega, fun q hq e => by have := (HE10.out.bx q hq).1.lt; have := hd.1; omega⟩); obtain ⟨t0, t1, t2⟩ := (HE11.out.blk (List.mem_cons_self ..)).cell3; have f1 := (HE11.out.blk (List.mem_cons_self ..)).frozen 1; clear q1 hr8 hb8))
      clear x0 x1 x2 y0 y1 y2 CV HE10 HGl hg1 hg2
      have HE12 := hide (PE.setX (q := b5) (t := 35) (v4 := .slice (some ⟨g, 0, none⟩) (nn + 1) c9) (bx := [(b8, 24, #[.slice none 0 0, .int .i64 0, .int .i64 0])]) (xs := #[.int .u64 id, .slice V nv cV, .int .u64 tg]) HE11.out (by intro p hp e; have h1 := (HE11.out.bx _ (List.mem_cons_self ..)).1; simp only [List.mem_singleton] at hp; subst hp; exact (HE11.out.bx _ (List.mem_cons_of_mem _ (List.mem_cons_self ..))).1.ne_ h1 (show 24 ≠ 35 by decide) e) 1 (.slice A8 nv c8))
      have HE := hide (show PE w b4 (.slice (some ⟨g, 0, none⟩) (nn + 1) c9) en top (bxP b5 b8 #[.int .u64 id, .slice A8 nv c8, .int .u64 tg]) (.slice (some ⟨g, 0, none⟩) (nn + 1) c9) (nn + 1) (ns ++ [headN]) (w11.setCell ⟨b5, 1, none⟩ (.slice A8 nv c8)) from by have h := HE12.out; simpa [bxP] using h)
      have HV := hide (show RdR (Sh.int .i32) (w11.setCell ⟨b5, 1, none⟩ (.slice A8 nv c8)) (FrE (w11.setCell ⟨b5, 1, none⟩ (.slice A8 nv c8)) (.slice (some ⟨g, 0, none⟩) (nn + 1) c9) b4 (bxP b5 b8 #[.int .u64 id, .slice A8 nv c8, .int .u64 tg])) A8 vs from (HV11.out.keepBlocks fun d hd => Below.heap_setCell _ _ _ d (hd.2.2.2 (b5, 35, #[.int .u64 id, .slice V nv cV, .int .u64 tg]) (List.mem_cons_self ..))).more fun d hd => ⟨by simpa using hd.1, hd.2.1, hd.2.2.1, fun q hq => by
        rcases bxP_mem hq with rfl | rfl
        · exact hd.2.2.2 (b5, 35, #[.int .u64 id, .slice V nv cV, .int .u64 tg]) (List.mem_cons_self ..)
        · exact hd.2.2.2 (b8, 24, #[.slice none 0 0, .int .i64 0, .int .i64 0]) (List.mem_cons_of_mem _ (List.mem_cons_self ..))⟩)
      clear HE12 HV11 HE11 t0 t1 t2 f1
      generalize World.setCell w11 _ _ = w12 at *
      obtain ⟨xh, hxh⟩ : ∃ x, ns[0]? = some x := ⟨_, List.getElem?_eq_getElem (by have := Hl.out; omega)⟩
      have HNx := hide (nextF_at hxh)
      have hxh2 : (ns ++ [headN])[0]? = some xh := by rw [List.getElem?_append_left (by have := Hl.out; omega)]; exact hxh
      have hxn : (ns ++ [headN])[nn]? = some headN := by rw [List.getElem?_append_right (by have := Hl.out; omega)]; simp [Hl.out]
      have HXh := hide hxh2
      have HXn := hide hxn
      clear hxh hxh2 hxn
      obtain ⟨nx, hnx⟩ : ∃ z, xh.2.2.2.1 = z := ⟨_, rfl⟩
      have HNq := hide hnx
      have HNx2 := hide (show nextF ns 0 = nx from by have h := HNx.out; simpa using h.trans hnx)
      clear hnx HNx
      have HPS := hide (show PS w b4 (.slice (some ⟨g, 0, none⟩) (nn + 1) c9) en top (bxP b5 b8 #[.int .u64 id, .slice A8 nv c8, .int .u64 tg]) (.slice (some ⟨g, 0, none⟩) (nn + 1) c9) (nn + 1) nx w12.drew from ⟨_, HE.out.step (Below.refl _ _).drew, _, HXh.out, HNq.out⟩)
      have HEd := hide (HE.out.step (Below.refl _ _).drew)
      have HVd := hide (show RdR (Sh.int .i32) w12.drew (FrE w12.drew (.slice (some ⟨g, 0, none⟩) (nn + 1) c9) b4 (bxP b5 b8 #[.int .u64 id, .slice A8 nv c8, .int .u64 tg])) A8 vs from HV.out)
      clear HE HV
      obtain ⟨n2, hn2⟩ : ∃ n, nn + 1 = n := ⟨_, rfl⟩
      rw [hn2] at HEd HVd HPS
      rw [hn2]
      have Hn2 := hide hn2
      have hlt2 : nn < n2 := by omega
      have hlt3 : (nn : Int) < n2 := by omega
      clear hn2
      refine startO (S := (PS w b4 (.slice (some ⟨g, 0, none⟩) n2 c9) en top (bxP b5 b8 #[.int .u64 id, .slice A8 nv c8, .int .u64 tg]) (.slice (some ⟨g, 0, none⟩) n2 c9) n2 nx)) 15 (by as_aux_lemma => kernel_rfl) (by as_aux_lemma => kernel_rfl) HPS.out (fun hHeld => ?_)
      clear HPS
      have HPS := hide hHeld
      generalize World.drew _ = W0 at *
      refine putsO [2, 4, 5, 8] [8, 5, 4, 2] [(82, .pointer (some ⟨g, 0, none⟩)), (79, .int .i64 0), (78, .int .i64 0), (76, .int .i64 nn)] 4 rfl [76, 78, 79, 82] (by as_aux_lemma => kernel_rfl) (by as_aux_lemma => kernel_rfl) rfl (fun _ _ _ _ _ h => h) hHeld ?_
      refine takeO 0 74 (.fieldAddr 24 (.const (.pointer (some ⟨b4, 0, none⟩))) 0) 0 (.pointer (some ⟨b4, 0, none⟩)) (by as_aux_lemma => kernel_rfl) (by as_aux_lemma => kernel_rfl) (by as_aux_lemma => kernel_rfl) (fun _ _ _ _ _ h => h) (fun W hS => by clear hS hHeld; unfold cEv opC; as_aux_lemma => first | (go_simp; done) | (go_simp <;> rfl)) hHeld ?_
      refine takeO 3 77 (.load 35 (.const (.pointer (some ⟨b5, 0, none⟩)))) 35 (.agg #[.int .u64 id, .slice A8 nv c8, .int .u64 tg]) (by as_aux_lemma => kernel_rfl) (by as_aux_lemma => kernel_rfl) (by as_aux_lemma => kernel_rfl) (fun _ _ _ _ _ h => h) (fun W hS => by obtain ⟨z0, z1, z2⟩ := (hS.blk (List.mem_cons_self ..)).cell3; clear hS hHeld; unfold cEv opC; as_aux_lemma => first | (go_simp; done) | (go_simp <;> rfl)) hHeld ?_
      refine takeO 6 80 (.binOp .add 3 (.const (.int .i64 0)) (.const (.int .i64 1)) 3) 3 (.int .i64 1) (by as_aux_lemma => kernel_rfl) (by as_aux_lemma => kernel_rfl) (by as_aux_lemma => kernel_rfl) (fun _ _ _ _ _ h => h) (fun W hS => by clear hS hHeld; unfold cEv opC; as_aux_lemma => first | (go_simp; done) | (go_simp <;> rfl)) hHeld ?_
      refine takeO 9 83 (.nilCheck (.const (.pointer (some ⟨g, 0, none⟩)))) 0 (.pointer (some ⟨g, 0, none⟩)) (by as_aux_lemma => kernel_rfl) (by as_aux_lemma => kernel_rfl) (by as_aux_lemma => kernel_rfl) (fun _ _ _ _ _ h => h) (fun W hS => by clear hS hHeld; unfold cEv opC; as_aux_lemma => first | (go_simp; done) | (go_simp <;> rfl)) hHeld ?_
      refine takeO 1 75 (.load 22 (.const (.pointer (some ⟨b4, 0, none⟩)))) 22 (.slice (some ⟨g, 0, none⟩) n2 c9) (by as_aux_lemma => kernel_rfl) (by as_aux_lemma => kernel_rfl) (by as_aux_lemma => kernel_rfl) (fun _ _ _ _ _ h => h) (fun W hS => by obtain ⟨z0, z1, z2⟩ := hS.cells; clear hS hHeld; unfold cEv opC; as_aux_lemma => first | (go_simp; done) | (go_simp <;> rfl)) hHeld ?_
      refine takeO 10 84 (.fieldAddr 38 (.const (.pointer (some ⟨g, 0, none⟩))) 3) 0 (.pointer (some ⟨g, 5, none⟩)) (by as_aux_lemma => kernel_rfl) (by as_aux_lemma => kernel_rfl) (by as_aux_lemma => kernel_rfl) (fun _ _ _ _ _ h => h) (fun W hS => by clear hS hHeld; unfold cEv opC; as_aux_lemma => first | (go_simp; done) | (go_simp <;> rfl)) hHeld ?_
      refine takeO 11 85 (.load 3 (.const (.pointer (some ⟨g, 5, none⟩)))) 3 (.int .i64 nx) (by as_aux_lemma => kernel_rfl) (by as_aux_lemma => kernel_rfl) (by as_aux_lemma => kernel_rfl) (fun _ _ _ _ _ h => h) (fun W hS => by have z0 := hS.next5; clear hS hHeld; unfold cEv opC; as_aux_lemma => first | (go_simp; done) | (go_simp <;> rfl)) hHeld ?_
      refine readyO [7] (by as_aux_lemma => kernel_rfl) (by simp) ?_
      have hw1 : IntKind.i64.wrap 1 = 1 := rfl
      have hmk : (Instr.makeSlice 36 (.int .i64 1) (.int .i64 1)).run Tryz.prog W0 = .ok (.slice (some ⟨W0.heap.size, 0, none⟩) 1 1) (W0.alloc (.cells (rep 1 (.slice none 0 0)) 44)) := run_make_rep (P := Tryz.prog) Tryz.underlying36 (e := 44) (z := .slice none 0 0) (by_ := 24) (by kernel_rfl) rfl .i64 .i64 1 1 (by omega) (by omega) (by omega) W0
      refine memO 7 81 (.makeSlice 36 (.const (.int .i64 1)) (.const (.int .i64 1))) 36 (.slice (some ⟨W0.heap.size, 0, none⟩) 1 1) (W0.alloc (.cells (rep 1 (.slice none 0 0)) 44)) (by as_aux_lemma => kernel_rfl) (by as_aux_lemma => kernel_rfl) (by unfold cEv opC; go_simp) (hHeld.step (below1 _ _)) (fun hHeld2 => ?_) AllReadyH.nil
      clear hHeld
      have hHeld := hHeld2
      clear hHeld2
      have HA := hide (HEd.out.step (below1 W0 (.cells (rep 1 (.slice none 0 0)) 44)))
      have HVa := hide (show RdR (Sh.int .i32) (W0.alloc (.cells (rep 1 (.slice none 0 0)) 44)) (FrE (W0.alloc (.cells (rep 1 (.slice none 0 0)) 44)) (.slice (some ⟨g, 0, none⟩) n2 c9) b4 (bxP b5 b8 #[.int .u64 id, .slice A8 nv c8, .int .u64 tg])) A8 vs from (HVd.out.keepBlocks fun d hd => (below1 W0 (.cells (rep 1 (.slice none 0 0)) 44)).block d hd.1).more fun d hd => ⟨Nat.lt_of_lt_of_le hd.1 (by simp), hd.2⟩)
      have HLa := hide (show RdR (Sh.list (Sh.int .i64)) (W0.alloc (.cells (rep 1 (.slice none 0 0)) 44)) (FrE (W0.alloc (.cells (rep 1 (.slice none 0 0)) 44)) (.slice (some ⟨g, 0, none⟩) n2 c9) b4 (bxP b5 b8 #[.int .u64 id, .slice A8 nv c8, .int .u64 tg])) (some ⟨W0.heap.size, 0, none⟩) [[]] from one_list HEd.out)
      clear HEd HVd hmk HPS
      generalize World.alloc W0 (.cells (rep 1 (.slice none 0 0)) 44) = Wa at *
      obtain ⟨gl, hgl⟩ : ∃ gl, W0.heap.size = gl := ⟨_, rfl⟩
      rw [hgl] at HLa
      rw [hgl]
      clear hgl
      obtain ⟨_, _, _, _, _, _, _, _, _, _, an0, an1, an2, an3, an4, an5, an6⟩ := HA.out.node HXn.out
      simp only [headN] at an0 an1 an2 an3 an4 an5 an6
      have az0 := HA.out.frozenN (nn * 7)
      have az1 := HA.out.frozenN (nn * 7 + 1)
      have az2 := HA.out.frozenN (nn * 7 + 2)
      have az3 := HA.out.frozenN (nn * 7 + 3)
      have az4 := HA.out.frozenN (nn * 7 + 4)
      have az5 := HA.out.frozenN (nn * 7 + 5)
      have az6 := HA.out.frozenN (nn * 7 + 6)
      refine takeO 12 86 (.build 38 #[(0, .const (.agg #[.int .u64 id, .slice A8 nv c8, .int .u64 tg])), (1, .const (.int .i64 0)), (2, .const (.slice (some ⟨gl, 0, none⟩) 1 1)), (3, .const (.int .i64 nx))]) 38 (.agg #[.int .u64 id, .slice A8 nv c8, .int .u64 tg, .int .i64 0, .slice (some ⟨gl, 0, none⟩) 1 1, .int .i64 nx, .int .i64 0]) (by as_aux_lemma => kernel_rfl) (by as_aux_lemma => kernel_rfl) (by as_aux_lemma => kernel_rfl) (fun _ _ _ _ _ h => h) (fun W hS => by clear hS hHeld; as_aux_lemma => first | kernel_rfl | (unfold cEv opC; go_simp; done)) hHeld ?_
      refine takeO 13 87 (.indexAddr 22 (.const (.slice (some ⟨g, 0, none⟩) n2 c9)) (.const (.int .i64 nn))) 0 (.pointer (some ⟨g, nn * 7, none⟩)) (by as_aux_lemma => kernel_rfl) (by as_aux_lemma => kernel_rfl) (by as_aux_lemma => kernel_rfl) (fun _ _ _ _ _ h => h) (fun W hS => by have hnl : (nn : Int) < n2 := hlt3; have hnl0 : (0 : Int) ≤ nn := (by omega); clear hS hHeld; unfold cEv opC; as_aux_lemma => first | (go_simp; done) | (go_simp <;> rfl)) hHeld ?_
      refine readyO [14] (by as_aux_lemma => kernel_rfl) (by simp) ?_
      have H7 := hide (show PE w b4 (.slice (some ⟨g, 0, none⟩) n2 c9) en top (bxP b5 b8 #[.int .u64 id, .slice A8 nv c8, .int .u64 tg]) (.slice (some ⟨g, 0, none⟩) n2 c9) n2 ((ns ++ [headN]).set nn ((id, vs, tg), 0, [[]], nx, 0)) (((((((Wa.setCell ⟨g, nn * 7, none⟩ (.int .u64 id)).setCell ⟨g, nn * 7 + 1, none⟩ (.slice A8 nv c8)).setCell ⟨g, nn * 7 + 2, none⟩ (.int .u64 tg)).setCell ⟨g, nn * 7 + 3, none⟩ (.int .i64 0)).setCell ⟨g, nn * 7 + 4, none⟩ (.slice (some ⟨gl, 0, none⟩) 1 1)).setCell ⟨g, nn * 7 + 5, none⟩ (.int .i64 nx)).setCell ⟨g, nn * 7 + 6, none⟩ (.int .i64 0)) ∧ PS w b4 (.slice (some ⟨g, 0, none⟩) n2 c9) en top (bxP b5 b8 #[.int .u64 id, .slice A8 nv c8, .int .u64 tg]) (.slice (some ⟨g, 0, none⟩) n2 c9) n2 nx (((((((Wa.setCell ⟨g, nn * 7, none⟩ (.int .u64 id)).setCell ⟨g, nn * 7 + 1, none⟩ (.slice A8 nv c8)).setCell ⟨g, nn * 7 + 2, none⟩ (.int .u64 tg)).setCell ⟨g, nn * 7 + 3, none⟩ (.int .i64 0)).setCell ⟨g, nn * 7 + 4, none⟩ (.slice (some ⟨gl, 0, none⟩) 1 1)).setCell ⟨g, nn * 7 + 5, none⟩ (.int .i64 nx)).setCell ⟨g, nn * 7 + 6, none⟩ (.int .i64 0)) from by
        have h := HA.out.put7 HXn.out ((id, vs, tg), 0, [[]], nx, 0) (V := A8) (L := some ⟨gl, 0, none⟩) (cV := c8) (cL := 1) (by simpa [HVn.out] using q2) q3 HVa.out (by simp) (by omega) HLa.out
        simp only [HVn.out, List.length_singleton] at h
        exact ⟨h, _, h, xh, by rw [List.getElem?_set_ne (by omega)]; exact HXh.out, HNq.out⟩)
      refine storeO 14 (.store 38 (.const (.pointer (some ⟨g, nn * 7, none⟩))) (.const (.agg #[.int .u64 id, .slice A8 nv c8, .int .u64 tg, .int .i64 0, .slice (some ⟨gl, 0, none⟩) 1 1, .int .i64 nx, .int .i64 0]))) 0 (((((((Wa.setCell ⟨g, nn * 7, none⟩ (.int .u64 id)).setCell ⟨g, nn * 7 + 1, none⟩ (.slice A8 nv c8)).setCell ⟨g, nn * 7 + 2, none⟩ (.int .u64 tg)).setCell ⟨g, nn * 7 + 3, none⟩ (.int .i64 0)).setCell ⟨g, nn * 7 + 4, none⟩ (.slice (some ⟨gl, 0, none⟩) 1 1)).setCell ⟨g, nn * 7 + 5, none⟩ (.int .i64 nx)).setCell ⟨g, nn * 7 + 6, none⟩ (.int .i64 0)) (by as_aux_lemma => kernel_rfl) (by as_aux_lemma => kernel_rfl) (by unfold cEv opC; go_simp) H7.out.2 (fun hHeld2 => ?_) AllReadyH.nil
      clear hHeld
      have hHeld := hHeld2
      clear hHeld2
      refine doneO [(74, .pointer (some ⟨b4, 0, none⟩)), (0, .slice (some ⟨g, 0, none⟩) n2 c9), (0, .int .i64 nn), (0, .agg #[.int .u64 id, .slice A8 nv c8, .int .u64 tg]), (0, .int .i64 0), (0, .int .i64 0), (0, .int .i64 1), (0, .slice (some ⟨gl, 0, none⟩) 1 1), (0, .pointer (some ⟨g, 0, none⟩)), (0, .pointer (some ⟨g, 0, none⟩)), (0, .pointer (some ⟨g, 5, none⟩)), (0, .int .i64 nx), (0, .agg #[.int .u64 id, .slice A8 nv c8, .int .u64 tg, .int .i64 0, .slice (some ⟨gl, 0, none⟩) 1 1, .int .i64 nx, .int .i64 0]), (0, .pointer (some ⟨g, nn * 7, none⟩))] (by as_aux_lemma => kernel_rfl) (by as_aux_lemma => kernel_rfl) ?_
      simp only [fillG]
      clear hHeld HVa HLa an0 an1 an2 an3 an4 an5 an6 az0 az1 az2 az3 az4 az5 az6 HA
      have HE := hide H7.out.1
      clear H7
      generalize ((((((Wa.setCell ⟨g, nn * 7, none⟩ (.int .u64 id)).setCell ⟨g, nn * 7 + 1, none⟩ (.slice A8 nv c8)).setCell ⟨g, nn * 7 + 2, none⟩ (.int .u64 tg)).setCell ⟨g, nn * 7 + 3, none⟩ (.int .i64 0)).setCell ⟨g, nn * 7 + 4, none⟩ (.slice (some ⟨gl, 0, none⟩) 1 1)).setCell ⟨g, nn * 7 + 5, none⟩ (.int .i64 nx)).setCell ⟨g, nn * 7 + 6, none⟩ (.int .i64 0) = W4 at *
      obtain ⟨m, rfl, hm⟩ : ∃ m : Nat, nx = m ∧ m < nn := by
        have h1 := HC.out.rg.1 0 xh (by have h := HXh.out; rw [List.getElem?_append_left (by have := Hl.out; omega)] at h; exact h)
        unfold rgF at h1
        rw [if_neg (by simp), Bool.and_eq_true] at h1
        have h2 := placeF_lt h1.1 (by have := Hl.out; omega)
        have := HNq.out
        have := Hl.out
        exact ⟨nx.toNat, by omega, by omega⟩
      have HL := hide (show (ns ++ [headN]).set nn ((id, vs, tg), 0, [[]], (m : Int), 0) = ns ++ [((id, vs, tg), 0, [[]], (m : Int), 0)] from by
        rw [List.set_append_right _ _ (by have := Hl.out; omega), Hl.out]; simp)
      rw [HL.out] at HE
      clear HL
      have HX0 := hide (show (ns ++ [((id, vs, tg), 0, [[]], (m : Int), 0)])[0]? = some xh from by
        have h := HXh.out
        rw [List.getElem?_append_left (by have := Hl.out; omega)] at h ⊢
        exact h)
      clear HXh HXn
      obtain ⟨ns1, hns1⟩ : ∃ l, ns ++ [((id, vs, tg), 0, [[]], (m : Int), 0)] = l := ⟨_, rfl⟩
      have HN1 := hide hns1
      rw [hns1] at HE HX0
      clear hns1
      go_upto_region 23 with fail
      have HPS := hide (show PS w b4 (.slice (some ⟨g, 0, none⟩) n2 c9) en top (bxP b5 b8 #[.int .u64 id, .slice A8 nv c8, .int .u64 tg]) (.slice (some ⟨g, 0, none⟩) n2 c9) n2 (m : Int) W4.drew from ⟨_, HE.out.step (Below.refl _ _).drew, xh, HX0.out, HNq.out⟩)
      have HEd := hide (HE.out.step (Below.refl _ _).drew)
      clear HE
      refine startO (S := (PS w b4 (.slice (some ⟨g, 0, none⟩) n2 c9) en top (bxP b5 b8 #[.int .u64 id, .slice A8 nv c8, .int .u64 tg]) (.slice (some ⟨g, 0, none⟩) n2 c9) n2 (m : Int))) 10 (by as_aux_lemma => kernel_rfl) (by as_aux_lemma => kernel_rfl) HPS.out (fun hHeld => ?_)
      clear HPS
      have HPS := hide hHeld
      generalize World.drew _ = W0 at *
      refine putsO [2, 6] [6, 2] [(94, .int .i64 nn), (90, .pointer (some ⟨g, 0, none⟩))] 2 rfl [90, 94] (by as_aux_lemma => kernel_rfl) (by as_aux_lemma => kernel_rfl) rfl (fun _ _ _ _ _ h => h) hHeld ?_
      refine takeO 0 88 (.fieldAddr 24 (.const (.pointer (some ⟨b4, 0, none⟩))) 0) 0 (.pointer (some ⟨b4, 0, none⟩)) (by as_aux_lemma => kernel_rfl) (by as_aux_lemma => kernel_rfl) (by as_aux_lemma => kernel_rfl) (fun _ _ _ _ _ h => h) (fun W hS => by clear hS hHeld; unfold cEv opC; as_aux_lemma => first | (go_simp; done) | (go_simp <;> rfl)) hHeld ?_
      refine takeO 3 91 (.nilCheck (.const (.pointer (some ⟨g, 0, none⟩)))) 0 (.pointer (some ⟨g, 0, none⟩)) (by as_aux_lemma => kernel_rfl) (by as_aux_lemma => kernel_rfl) (by as_aux_lemma => kernel_rfl) (fun _ _ _ _ _ h => h) (fun W hS => by clear hS hHeld; unfold cEv opC; as_aux_lemma => first | (go_simp; done) | (go_simp <;> rfl)) hHeld ?_
      refine takeO 1 89 (.load 22 (.const (.pointer (some ⟨b4, 0, none⟩)))) 22 (.slice (some ⟨g, 0, none⟩) n2 c9) (by as_aux_lemma => kernel_rfl) (by as_aux_lemma => kernel_rfl) (by as_aux_lemma => kernel_rfl) (fun _ _ _ _ _ h => h) (fun W hS => by obtain ⟨z0, z1, z2⟩ := hS.cells; clear hS hHeld; unfold cEv opC; as_aux_lemma => first | (go_simp; done) | (go_simp <;> rfl)) hHeld ?_
      refine takeO 4 92 (.fieldAddr 38 (.const (.pointer (some ⟨g, 0, none⟩))) 3) 0 (.pointer (some ⟨g, 5, none⟩)) (by as_aux_lemma => kernel_rfl) (by as_aux_lemma => kernel_rfl) (by as_aux_lemma => kernel_rfl) (fun _ _ _ _ _ h => h) (fun W hS => by clear hS hHeld; unfold cEv opC; as_aux_lemma => first | (go_simp; done) | (go_simp <;> rfl)) hHeld ?_
      refine takeO 5 93 (.load 3 (.const (.pointer (some ⟨g, 5, none⟩)))) 3 (.int .i64 (m : Int)) (by as_aux_lemma => kernel_rfl) (by as_aux_lemma => kernel_rfl) (by as_aux_lemma => kernel_rfl) (fun _ _ _ _ _ h => h) (fun W hS => by have z0 := hS.next5; clear hS hHeld; unfold cEv opC; as_aux_lemma => first | (go_simp; done) | (go_simp <;> rfl)) hHeld ?_
      refine takeO 7 95 (.indexAddr 22 (.const (.slice (some ⟨g, 0, none⟩) n2 c9)) (.const (.int .i64 (m : Int)))) 0 (.pointer (some ⟨g, m * 7, none⟩)) (by as_aux_lemma => kernel_rfl) (by as_aux_lemma => kernel_rfl) (by as_aux_lemma => kernel_rfl) (fun _ _ _ _ _ h => h) (fun W hS => by have hnl : (m : Int) < n2 := (by omega); have hnl0 : (0 : Int) ≤ m := (by omega); clear hS hHeld; unfold cEv opC; as_aux_lemma => first | (go_simp; done) | (go_simp <;> rfl)) hHeld ?_
      refine takeO 8 96 (.fieldAddr 38 (.const (.pointer (some ⟨g, m * 7, none⟩))) 4) 0 (.pointer (some ⟨g, m * 7 + 6, none⟩)) (by as_aux_lemma => kernel_rfl) (by as_aux_lemma => kernel_rfl) (by as_aux_lemma => kernel_rfl) (fun _ _ _ _ _ h => h) (fun W hS => by clear hS hHeld; unfold cEv opC; as_aux_lemma => first | (go_simp; done) | (go_simp <;> rfl)) hHeld ?_
      refine readyO [9] (by as_aux_lemma => kernel_rfl) (by simp) ?_
      have z6 := HEd.out.frozenN (m * 7 + 6)
      obtain ⟨xm, hxm⟩ : ∃ x, ns1[m]? = some x := ⟨_, List.getElem?_eq_getElem (by rw [HEd.out.len]; omega)⟩
      obtain ⟨_, _, _, _, _, _, _, _, _, _, -, -, -, -, -, -, y6⟩ := HEd.out.node hxm
      clear hxm
      have H8 := hide (show PE w b4 (.slice (some ⟨g, 0, none⟩) n2 c9) en top (bxP b5 b8 #[.int .u64 id, .slice A8 nv c8, .int .u64 tg]) (.slice (some ⟨g, 0, none⟩) n2 c9) n2 (setPv ns1 m nn) (W0.setCell ⟨g, m * 7 + 6, none⟩ (.int .i64 nn)) ∧ PS w b4 (.slice (some ⟨g, 0, none⟩) n2 c9) en top (bxP b5 b8 #[.int .u64 id, .slice A8 nv c8, .int .u64 tg]) (.slice (some ⟨g, 0, none⟩) n2 c9) n2 (m : Int) (W0.setCell ⟨g, m * 7 + 6, none⟩ (.int .i64 nn)) from by
        have h := HEd.out.prevF (k := m) (by omega) (nn : Int)
        obtain ⟨y, h1, h2⟩ := setPv_next (k := m) (z := (nn : Int)) HX0.out
        exact ⟨h, _, h, y, h1, h2.trans HNq.out⟩)
      refine storeO 9 (.store 3 (.const (.pointer (some ⟨g, m * 7 + 6, none⟩))) (.const (.int .i64 nn))) 0 (W0.setCell ⟨g, m * 7 + 6, none⟩ (.int .i64 nn)) (by as_aux_lemma => kernel_rfl) (by as_aux_lemma => kernel_rfl) (by unfold cEv opC; go_simp) H8.out.2 (fun hHeld2 => ?_) AllReadyH.nil
      clear hHeld
      have hHeld := hHeld2
      clear hHeld2
      refine doneO [(88, .pointer (some ⟨b4, 0, none⟩)), (0, .slice (some ⟨g, 0, none⟩) n2 c9), (0, .pointer (some ⟨g, 0, none⟩)), (0, .pointer (some ⟨g, 0, none⟩)), (0, .pointer (some ⟨g, 5, none⟩)), (0, .int .i64 (m : Int)), (0, .int .i64 nn), (0, .pointer (some ⟨g, m * 7, none⟩)), (0, .pointer (some ⟨g, m * 7 + 6, none⟩))] (by as_aux_lemma => kernel_rfl) (by as_aux_lemma => kernel_rfl) ?_
      simp only [fillG]
      clear hHeld HPS z6 y6 HEd
      have HE := hide H8.out.1
      clear H8
      generalize W0.setCell ⟨g, m * 7 + 6, none⟩ (.int .i64 nn) = W5 at *
      go_upto_region 24 with fail
      obtain ⟨x5, hx5⟩ : ∃ x, (setPv ns1 m nn)[0]? = some x := ⟨_, List.getElem?_eq_getElem (by rw [HE.out.len]; omega)⟩
      obtain ⟨_, _, _, _, _, _, _, _, _, _, -, -, -, -, -, y5, -⟩ := HE.out.node hx5
      have z5 := HE.out.frozenN (0 * 7 + 5)
      simp only [Nat.zero_mul, Nat.zero_add] at y5 z5
      clear hx5
      have HF := hide (show PE w b4 (.slice (some ⟨g, 0, none⟩) n2 c9) en top (bxP b5 b8 #[.int .u64 id, .slice A8 nv c8, .int .u64 tg]) (.slice (some ⟨g, 0, none⟩) n2 c9) n2 (setNx (setPv ns1 m nn) 0 nn) (W5.setCell ⟨g, 5, none⟩ (.int .i64 nn)) from by
        have h := HE.out.nextF (k := 0) (by omega) (nn : Int)
        simpa using h)
      go_upto_region 25 with fail
      clear y5 z5 HE
      generalize W5.setCell ⟨g, 5, none⟩ (.int .i64 nn) = W6 at *
      have HFP := hide (show putNs ns (id, vs, tg) = setNx (setPv ns1 m nn) 0 nn from by
        unfold putNs
        rw [HNx2.out, HN1.out, Hl.out]; simp)
      rw [← HFP.out] at HF
      have HD := hide (HF.out.drop (bx' := [(b8, 24, #[.slice none 0 0, .int .i64 0, .int .i64 0])]) (by intro q hq; rw [List.mem_singleton.1 hq]; exact List.mem_cons_of_mem _ (List.mem_cons_self ..)))
      clear HF HFP
      obtain ⟨x0, x1, x2⟩ := HD.out.cells
      obtain ⟨y0, y1, y2⟩ := (HD.out.blk (List.mem_cons_self ..)).cell3
      have f0 := (HD.out.blk (List.mem_cons_self ..)).frozen 0
      have f1 := (HD.out.blk (List.mem_cons_self ..)).frozen 1
      have f2 := (HD.out.blk (List.mem_cons_self ..)).frozen 2
      go_wp2
      have h3 := ((HD.out.setX (bx := []) (by simp) 0 (.slice (some ⟨g, 0, none⟩) n2 c9)).setX (bx := []) (by simp) 1 (.int .i64 en)).setX (bx := []) (by simp) 2 (.int .i64 top)
      simp only [List.setIfInBounds_toArray, List.set_cons_zero, List.set_cons_succ] at h3
      obtain ⟨q0, q1, q2⟩ := (h3.blk (List.mem_cons_self ..)).cell3
      have HG := hide h3.give
      clear h3 HD
      exact bodyPost_ret (v := .tuple #[.agg #[(.slice (some ⟨g, 0, none⟩) n2 c9), .int .i64 en, .int .i64 top], .int .i64 nn, .int .i64 0]) (by simp [results, Tryz.results16, go_sem, q0, q1, q2]) rfl ⟨_, _, by rw [Hn2.out], by rw [Hn2.out]; exact HG.out⟩
end
end Go.Proofs.YtlnbeeflifmnjadGreat
