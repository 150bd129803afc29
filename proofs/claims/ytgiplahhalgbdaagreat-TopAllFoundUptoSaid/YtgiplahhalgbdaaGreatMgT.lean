/-
  Texts of one part, put together. No condition.
-/
import Derived.Test.YtgiplahhalgbdaaGreatMgX
import Derived.Test.YtgiplahhalgbdaaGreatQueP
import Derived.RegionTactic
import Derived.BigRegion
import Derived.Deep.RegionHeld3
/-
  The package queue: its heap in memory; up. Conditions: the heap's blocks lie as said, its order is told by a function.
-/
namespace Go.Proofs.YtgiplahhalgbdaaGreat
set_option linter.unusedSimpArgs false
set_option linter.unusedVariables false
open Go.RowKit

/-- a heap's blocks: the object at Q (of type t, with more cells ex behind the two), its spots a row of its own; all from block B on -/
structure HpAt (w : World) (B Q : Nat) (t : TypeId) (ex : Array Value) (f : FuncId) (v : Value) (l : List Spt) : Prop where
  q : Blk w Q t (#[v, .func (.func f) #[] #[]] ++ ex)
  own : w.ownsRow B 60 3 v l.length (fcs encS l)
  ne : 60 ≠ t
  hQ : B ≤ Q
/-- what may have turned: the heap's blocks alone -/
structure TurnH (w w' : World) (Q : Nat) (v : Value) : Prop where
  os : w'.os = w.os
  tape : w'.tape = w.tape
  output : w'.output = w.output
  size : w.heap.size ≤ w'.heap.size
  block : ∀ k, k < w.heap.size → k ≠ Q → some k ≠ v.ownBlock → w'.heap[k]? = w.heap[k]?
section
variable {w w' w'' : World} {B Q : Nat} {t : TypeId} {ex : Array Value} {f : FuncId} {v v' : Value} {l l' : List Spt}
theorem TurnH.refl (w : World) (Q : Nat) (v : Value) : TurnH w w Q v := ⟨rfl, rfl, rfl, Nat.le_refl _, fun _ _ _ _ => rfl⟩
theorem TurnH.of_below (h : Below w.heap.size w w') : TurnH w w' Q v := ⟨h.os, h.tape, h.output, h.size, fun k hk _ _ => h.block k hk⟩
theorem TurnH.trans (h : TurnH w w' Q v) (k : TurnH w' w'' Q v') (hv : ∀ d, v'.ownBlock = some d → v.ownBlock = some d ∨ w.heap.size ≤ d) : TurnH w w'' Q v :=
  ⟨k.os.trans h.os, k.tape.trans h.tape, k.output.trans h.output, Nat.le_trans h.size k.size, fun i hi a b => (k.block i (Nat.lt_of_lt_of_le hi h.size) a (fun e => by
    rcases hv i e.symm with h1 | h1
    · exact b h1.symm
    · omega)).trans (h.block i hi a b)⟩
theorem HpAt.neQ (h : HpAt w B Q t ex f v l) : v.ownBlock ≠ some Q := own_blk_ne h.own h.q h.ne
theorem HpAt.lt (h : HpAt w B Q t ex f v l) : Q < w.heap.size := h.q.lt
theorem HpAt.below (h : HpAt w B Q t ex f v l) (hb : Below w.heap.size w w') : HpAt w' B Q t ex f v l :=
  ⟨h.q.below hb h.q.lt, own_keep h.own fun g hg => hb.block g (h.own.lt g hg).2, h.ne, h.hQ⟩
theorem HpAt.cells (h : HpAt w B Q t ex f v l) : w.cell? ⟨Q, 0, none⟩ = some v ∧ w.cell? ⟨Q, 1, none⟩ = some (.func (.func f) #[] #[]) :=
  ⟨by rw [h.q.cell]; simp [Array.getElem?_append], by rw [h.q.cell]; simp [Array.getElem?_append]⟩
theorem HpAt.turn (h : HpAt w B Q t ex f v l) {a : World} (hbl : Below B a w) (ht : TurnH w w' Q v) (hB : B ≤ w.heap.size) : Below B a w' :=
  ⟨ht.os.trans hbl.os, ht.tape.trans hbl.tape, ht.output.trans hbl.output, Nat.le_trans hbl.size ht.size, fun k hk => (ht.block k (by omega) (by have := h.hQ; omega) (fun e => by have := (h.own.lt k e.symm).1; omega)).trans (hbl.block k hk)⟩
/-- the slice's form, where there is something in it -/
theorem HpAt.form (h : HpAt w B Q t ex f v l) (hl : 0 < l.length) : ∃ g cap, v = .slice (some ⟨g, 0, none⟩) l.length cap ∧ RowS w B g l.length cap l ∧ l.length ≤ cap ∧ cap ≤ 9223372036854775807 := by
  obtain ⟨g, cap, e, _, _⟩ := h.own.form hl
  obtain ⟨A, c, e2, h1, h2⟩ := own_form h.own
  rw [e] at e2
  injection e2 with _ _ e3
  subst e3
  exact ⟨g, cap, e, by have := h.own; rw [e] at this; exact this, h1, h2⟩
/-- a spot is laid at a place -/
def put3 (w : World) (g i : Nat) (x : Spt) : World := ((w.setCell ⟨g, i * 3, none⟩ (.int .u64 x.1.1)).setCell ⟨g, i * 3 + 1, none⟩ (.int .u64 x.1.2)).setCell ⟨g, i * 3 + 2, none⟩ (.int .i64 x.2)
theorem HpAt.put {g cap : Nat} (h : HpAt w B Q t ex f (.slice (some ⟨g, 0, none⟩) l.length cap) l) {i : Nat} (hi : i < l.length) (x : Spt) : HpAt (put3 w g i x) B Q t ex f (.slice (some ⟨g, 0, none⟩) (l.set i x).length cap) (l.set i x) := by
  have hg : Q ≠ g := fun e => h.neQ (by rw [e]; rfl)
  have hk : (put3 w g i x).heap[Q]? = w.heap[Q]? := by
    unfold put3
    rw [Below.heap_setCell _ _ _ _ hg, Below.heap_setCell _ _ _ _ hg, Below.heap_setCell _ _ _ _ hg]
  rw [List.length_set]
  refine ⟨hk.trans h.q, ?_, h.ne, h.hQ⟩
  rw [List.length_set]
  exact RowS.set (base := B) (n := l.length) (cap := cap) h.own hi x
theorem put3_turn {g i cap n : Nat} {x : Spt} : TurnH w (put3 w g i x) Q (.slice (some ⟨g, 0, none⟩) n cap) :=
  ⟨rfl, rfl, rfl, by simp [put3], fun k _ _ hk => by
    have hk : k ≠ g := fun e => hk (by rw [e]; rfl)
    unfold put3
    rw [Below.heap_setCell _ _ _ _ hk, Below.heap_setCell _ _ _ _ hk, Below.heap_setCell _ _ _ _ hk]⟩
end
/-- the function tells the order -/
structure Ahead (f : FuncId) (lt : Spt → Spt → Bool) : Prop where
  enter : ∀ args w, (callFunc f args).run Tryz.prog w = .ok (.enter f args) w
  tells : ∀ (a b : Spt) (w : World), Calls Tryz.prog f #[.agg #[.int .u64 a.1.1, .int .u64 a.1.2, .int .i64 a.2], .agg #[.int .u64 b.1.1, .int .u64 b.1.2, .int .i64 b.2]] w fun e w' => e = .returned (.bool (lt a b)) ∧ Below w.heap.size w w'
/-- while up goes on -/
structure UpLoop (w wr : World) (B Q : Nat) (t : TypeId) (ex : Array Value) (f : FuncId) (lt : Spt → Spt → Bool) (g n cap : Nat) (l0 l : List Spt) (j : Nat) : Prop where
  hp : HpAt wr B Q t ex f (.slice (some ⟨g, 0, none⟩) n cap) l
  up : UpInv lt l j
  perm : l.Perm l0
  len : l.length = n
  turn : TurnH w wr Q (.slice (some ⟨g, 0, none⟩) n cap)
theorem UpLoop.step {w wr wr' : World} {B Q : Nat} {t : TypeId} {ex : Array Value} {f : FuncId} {lt : Spt → Spt → Bool} {g n cap : Nat} {l0 l : List Spt} {j : Nat} (h : UpLoop w wr B Q t ex f lt g n cap l0 l j) (hb : Below wr.heap.size wr wr') : UpLoop w wr' B Q t ex f lt g n cap l0 l j :=
  ⟨h.hp.below hb, h.up, h.perm, h.len, h.turn.trans (TurnH.of_below hb) fun d hd => .inl hd⟩
theorem UpLoop.cells {w wr : World} {B Q : Nat} {t : TypeId} {ex : Array Value} {f : FuncId} {lt : Spt → Spt → Bool} {g n cap : Nat} {l0 l : List Spt} {j : Nat} (h : UpLoop w wr B Q t ex f lt g n cap l0 l j) {i : Nat} {x : Spt} (hx : l[i]? = some x) : wr.cell? ⟨g, i * 3, none⟩ = some (.int .u64 x.1.1) ∧ wr.cell? ⟨g, i * 3 + 1, none⟩ = some (.int .u64 x.1.2) ∧ wr.cell? ⟨g, i * 3 + 2, none⟩ = some (.int .i64 x.2) := by
  have ho := h.hp.own
  rw [h.len] at ho
  exact RowS.cells (base := B) (n := n) (cap := cap) ho hx
set_option maxHeartbeats 4000000 in
theorem up_any {f : FuncId} {lt : Spt → Spt → Bool} (ha : Ahead f lt) (hS : Go.Sort.SWO lt) {w : World} {B Q : Nat} {t : TypeId} {ex : Array Value} {g n cap : Nat} {l : List Spt} {i : Nat} (h : HpAt w B Q t ex f (.slice (some ⟨g, 0, none⟩) n cap) l) (hn : l.length = n) (hi : UpInv lt l i) (hc : n ≤ cap) (hm : cap ≤ 9223372036854775807) (hsz : n ≤ 1000000) :
    Calls Tryz.prog 112 #[.pointer (some ⟨Q, 0, none⟩), .int .i64 i] w fun e w' => e = .returned (.tuple #[]) ∧ ∃ l', Heap lt l' ∧ l'.Perm l ∧ HpAt w' B Q t ex f (.slice (some ⟨g, 0, none⟩) n cap) l' ∧ TurnH w w' Q (.slice (some ⟨g, 0, none⟩) n cap) := by
  have HL := hide (show UpLoop w w B Q t ex f lt g n cap l l i from ⟨h, hi, List.Perm.refl _, hn, TurnH.refl _ _ _⟩)
  have hil := hi.hi
  have HA := hide ha.tells
  have hent := ha.enter
  have HS := hide hS
  have hin : i < n := by omega
  clear h hi ha hS hn hil
  go_enter Tryz.func112, Tryz.ntmps112
  go_wp2
  go_loopw [1, 4] (fun i _ wr => ∃ (j : Nat) (l' : List Spt), j < n ∧ i = .int .i64 j ∧ Hid (UpLoop w wr B Q t ex f lt g n cap l l' j)) (fun i _ _ => (intOf i).toNat)
  case atStart => exact ⟨i, l, hin, rfl, HL⟩
  case round =>
    obtain ⟨j, l', hj, rfl, HU⟩ := hrel
    clear HL
    by_cases h0 : 0 < j
    · obtain ⟨p, hp⟩ : ∃ p, (j - 1) / 2 = p := ⟨_, rfl⟩
      have hpj : p < j := by omega
      obtain ⟨x, hx⟩ : ∃ x, l'[j]? = some x := ⟨_, List.getElem?_eq_getElem (by have := HU.out.len; omega)⟩
      obtain ⟨y, hy⟩ : ∃ y, l'[p]? = some y := ⟨_, List.getElem?_eq_getElem (by have := HU.out.len; omega)⟩
      have Hx := hide hx
      have Hy := hide hy
      have HP := hide hp
      have g0 : (0 : Int) < j := by omega
      have g1 : (j : Int) < n := by omega
      have g2 : (0 : Int) ≤ p := by omega
      have g3 : (p : Int) < n := by omega
      have g4 : (0 : Int) ≤ j := by omega
      have hdv : ((j : Int) - 1) / 2 = p := by omega
      have hdt : ((j : Int) - 1).tdiv 2 = p := by rw [Int.tdiv_eq_ediv_of_nonneg (by omega)]; exact hdv
      clear hx hy hp
      go_upto_region 2 with fail
      clear hdv hdt
      refine wp_region_held_drew (S := fun W => UpLoop w W B Q t ex f lt g n cap l l' j) (by kernel_rfl) (HU.out.step (Below.refl _ _).drew) (fun hHeld => ?_)
      clear HU
      generalize World.drew _ = wl1 at *
      refine wpAnyH_take (i := 0) (v := .pointer (some ⟨Q, 0, none⟩)) rfl (by kernel_rfl) (by kernel_rfl) (by kernel_rfl) (fun _ _ _ h => h) (Or.inl ⟨by rfl, fun W hS => by clear hS hHeld; go_simp⟩) hHeld ?_
      try simp only [Act.put, List.setIfInBounds_toArray, List.set_cons_zero, List.set_cons_succ, List.getElem_toArray, List.getElem_cons_zero, List.getElem_cons_succ]
      refine wpAnyH_take (i := 1) (v := .pointer (some ⟨Q, 0, none⟩)) rfl (by kernel_rfl) (by kernel_rfl) (by kernel_rfl) (fun _ _ _ h => h) (Or.inl ⟨by rfl, fun W hS => by clear hS hHeld; go_simp⟩) hHeld ?_
      try simp only [Act.put, List.setIfInBounds_toArray, List.set_cons_zero, List.set_cons_succ, List.getElem_toArray, List.getElem_cons_zero, List.getElem_cons_succ]
      refine wpAnyH_take (i := 2) (v := .pointer (some ⟨Q, 1, none⟩)) rfl (by kernel_rfl) (by kernel_rfl) (by kernel_rfl) (fun _ _ _ h => h) (Or.inl ⟨by rfl, fun W hS => by clear hS hHeld; go_simp⟩) hHeld ?_
      try simp only [Act.put, List.setIfInBounds_toArray, List.set_cons_zero, List.set_cons_succ, List.getElem_toArray, List.getElem_cons_zero, List.getElem_cons_succ]
      refine wpAnyH_take (i := 3) (v := .func (.func f) #[] #[]) rfl (by kernel_rfl) (by kernel_rfl) (by kernel_rfl) (fun _ _ _ h => h) (Or.inl ⟨by rfl, fun W hS => by have z0 := hS.hp.cells.1; have z1 := hS.hp.cells.2; clear hS hHeld; go_simp⟩) hHeld ?_
      try simp only [Act.put, List.setIfInBounds_toArray, List.set_cons_zero, List.set_cons_succ, List.getElem_toArray, List.getElem_cons_zero, List.getElem_cons_succ]
      refine wpAnyH_take (i := 4) (v := .pointer (some ⟨Q, 0, none⟩)) rfl (by kernel_rfl) (by kernel_rfl) (by kernel_rfl) (fun _ _ _ h => h) (Or.inl ⟨by rfl, fun W hS => by clear hS hHeld; go_simp⟩) hHeld ?_
      try simp only [Act.put, List.setIfInBounds_toArray, List.set_cons_zero, List.set_cons_succ, List.getElem_toArray, List.getElem_cons_zero, List.getElem_cons_succ]
      refine wpAnyH_take (i := 5) (v := .pointer (some ⟨Q, 0, none⟩)) rfl (by kernel_rfl) (by kernel_rfl) (by kernel_rfl) (fun _ _ _ h => h) (Or.inl ⟨by rfl, fun W hS => by clear hS hHeld; go_simp⟩) hHeld ?_
      try simp only [Act.put, List.setIfInBounds_toArray, List.set_cons_zero, List.set_cons_succ, List.getElem_toArray, List.getElem_cons_zero, List.getElem_cons_succ]
      refine wpAnyH_take (i := 6) (v := .pointer (some ⟨Q, 0, none⟩)) rfl (by kernel_rfl) (by kernel_rfl) (by kernel_rfl) (fun _ _ _ h => h) (Or.inl ⟨by rfl, fun W hS => by clear hS hHeld; go_simp⟩) hHeld ?_
      try simp only [Act.put, List.setIfInBounds_toArray, List.set_cons_zero, List.set_cons_succ, List.getElem_toArray, List.getElem_cons_zero, List.getElem_cons_succ]
      refine wpAnyH_take (i := 7) (v := .slice (some ⟨g, 0, none⟩) n cap) rfl (by kernel_rfl) (by kernel_rfl) (by kernel_rfl) (fun _ _ _ h => h) (Or.inl ⟨by rfl, fun W hS => by have z0 := hS.hp.cells.1; have z1 := hS.hp.cells.2; clear hS hHeld; go_simp⟩) hHeld ?_
      try simp only [Act.put, List.setIfInBounds_toArray, List.set_cons_zero, List.set_cons_succ, List.getElem_toArray, List.getElem_cons_zero, List.getElem_cons_succ]
      refine wpAnyH_take (i := 8) (v := .int .i64 j) rfl (by kernel_rfl) (by kernel_rfl) (by kernel_rfl) (fun _ _ _ h => h) (Or.inl ⟨by rfl, fun W hS => by clear hS hHeld; go_simp⟩) hHeld ?_
      try simp only [Act.put, List.setIfInBounds_toArray, List.set_cons_zero, List.set_cons_succ, List.getElem_toArray, List.getElem_cons_zero, List.getElem_cons_succ]
      refine wpAnyH_take (i := 9) (v := .pointer (some ⟨g, j * 3, none⟩)) rfl (by kernel_rfl) (by kernel_rfl) (by kernel_rfl) (fun _ _ _ h => h) (Or.inl ⟨by rfl, fun W hS => by clear hS hHeld; go_simp⟩) hHeld ?_
      try simp only [Act.put, List.setIfInBounds_toArray, List.set_cons_zero, List.set_cons_succ, List.getElem_toArray, List.getElem_cons_zero, List.getElem_cons_succ]
      refine wpAnyH_take (i := 10) (v := .agg #[.int .u64 x.1.1, .int .u64 x.1.2, .int .i64 x.2]) rfl (by kernel_rfl) (by kernel_rfl) (by kernel_rfl) (fun _ _ _ h => h) (Or.inl ⟨by rfl, fun W hS => by obtain ⟨z0, z1, z2⟩ := hS.cells Hx.out; clear hS hHeld; go_simp⟩) hHeld ?_
      try simp only [Act.put, List.setIfInBounds_toArray, List.set_cons_zero, List.set_cons_succ, List.getElem_toArray, List.getElem_cons_zero, List.getElem_cons_succ]
      refine wpAnyH_take (i := 11) (v := .pointer (some ⟨Q, 0, none⟩)) rfl (by kernel_rfl) (by kernel_rfl) (by kernel_rfl) (fun _ _ _ h => h) (Or.inl ⟨by rfl, fun W hS => by clear hS hHeld; go_simp⟩) hHeld ?_
      try simp only [Act.put, List.setIfInBounds_toArray, List.set_cons_zero, List.set_cons_succ, List.getElem_toArray, List.getElem_cons_zero, List.getElem_cons_succ]
      refine wpAnyH_take (i := 12) (v := .pointer (some ⟨Q, 0, none⟩)) rfl (by kernel_rfl) (by kernel_rfl) (by kernel_rfl) (fun _ _ _ h => h) (Or.inl ⟨by rfl, fun W hS => by clear hS hHeld; go_simp⟩) hHeld ?_
      try simp only [Act.put, List.setIfInBounds_toArray, List.set_cons_zero, List.set_cons_succ, List.getElem_toArray, List.getElem_cons_zero, List.getElem_cons_succ]
      refine wpAnyH_take (i := 13) (v := .pointer (some ⟨Q, 0, none⟩)) rfl (by kernel_rfl) (by kernel_rfl) (by kernel_rfl) (fun _ _ _ h => h) (Or.inl ⟨by rfl, fun W hS => by clear hS hHeld; go_simp⟩) hHeld ?_
      try simp only [Act.put, List.setIfInBounds_toArray, List.set_cons_zero, List.set_cons_succ, List.getElem_toArray, List.getElem_cons_zero, List.getElem_cons_succ]
      refine wpAnyH_take (i := 14) (v := .slice (some ⟨g, 0, none⟩) n cap) rfl (by kernel_rfl) (by kernel_rfl) (by kernel_rfl) (fun _ _ _ h => h) (Or.inl ⟨by rfl, fun W hS => by have z0 := hS.hp.cells.1; have z1 := hS.hp.cells.2; clear hS hHeld; go_simp⟩) hHeld ?_
      try simp only [Act.put, List.setIfInBounds_toArray, List.set_cons_zero, List.set_cons_succ, List.getElem_toArray, List.getElem_cons_zero, List.getElem_cons_succ]
      refine wpAnyH_take (i := 15) (v := .int .i64 p) rfl (by kernel_rfl) (by kernel_rfl) (by kernel_rfl) (fun _ _ _ h => h) (Or.inl ⟨by rfl, fun W hS => by clear hS hHeld; go_simp⟩) hHeld ?_
      try simp only [Act.put, List.setIfInBounds_toArray, List.set_cons_zero, List.set_cons_succ, List.getElem_toArray, List.getElem_cons_zero, List.getElem_cons_succ]
      refine wpAnyH_take (i := 16) (v := .pointer (some ⟨g, p * 3, none⟩)) rfl (by kernel_rfl) (by kernel_rfl) (by kernel_rfl) (fun _ _ _ h => h) (Or.inl ⟨by rfl, fun W hS => by clear hS hHeld; go_simp⟩) hHeld ?_
      try simp only [Act.put, List.setIfInBounds_toArray, List.set_cons_zero, List.set_cons_succ, List.getElem_toArray, List.getElem_cons_zero, List.getElem_cons_succ]
      refine wpAnyH_take (i := 17) (v := .agg #[.int .u64 y.1.1, .int .u64 y.1.2, .int .i64 y.2]) rfl (by kernel_rfl) (by kernel_rfl) (by kernel_rfl) (fun _ _ _ h => h) (Or.inl ⟨by rfl, fun W hS => by obtain ⟨z0, z1, z2⟩ := hS.cells Hy.out; clear hS hHeld; go_simp⟩) hHeld ?_
      try simp only [Act.put, List.setIfInBounds_toArray, List.set_cons_zero, List.set_cons_succ, List.getElem_toArray, List.getElem_cons_zero, List.getElem_cons_succ]
      refine wpAnyH_ready (rs := [18]) (by kernel_rfl) (by simp) ?_
      refine AllReadyH.cons rfl (fun K hK => ?_) AllReadyH.nil
      try simp only [Act.put, List.setIfInBounds_toArray, List.set_cons_zero, List.set_cons_succ, List.getElem_toArray, List.getElem_cons_zero, List.getElem_cons_succ]
      go_simp
      refine (HA.out x y _).mono ?_
      rintro e wl2 ⟨rfl, hb⟩
      refine hK.out _ _ (hHeld.step hb) (fun hHeld2 => ?_)
      clear hK K hHeld
      have hHeld := hHeld2
      clear hHeld2
      try simp only [Act.put, List.setIfInBounds_toArray, List.set_cons_zero, List.set_cons_succ, List.getElem_toArray, List.getElem_cons_zero, List.getElem_cons_succ]
      clear hb
      obtain ⟨bb, hbb⟩ : ∃ bb, lt x y = bb := ⟨_, rfl⟩
      rw [hbb]
      have HBB := hide hbb
      clear hbb
      refine wpAnyH_take (i := 19) (v := .bool (!bb)) rfl (by kernel_rfl) (by kernel_rfl) (by kernel_rfl) (fun _ _ _ h => h) (Or.inl ⟨by rfl, fun W hS => by clear hS hHeld; go_simp⟩) hHeld ?_
      try simp only [Act.put, List.setIfInBounds_toArray, List.set_cons_zero, List.set_cons_succ, List.getElem_toArray, List.getElem_cons_zero, List.getElem_cons_succ]
      refine wpAnyH_done (by kernel_rfl) ?_ _
      have HU := hide hHeld
      clear hHeld
      rcases bb with _ | _
      · have HF := hide (HU.out.up.stop Hx.out (by rw [HP.out]; exact Hy.out) HBB.out)
        go_wp2
        exact bodyPost_ret (v := .tuple #[]) (by simp [results, Tryz.results112, go_sem]) rfl ⟨rfl, l', HF.out, HU.out.perm, HU.out.hp, HU.out.turn⟩
      · obtain ⟨z0, _⟩ := HU.out.hp.cells
        obtain ⟨x0, x1, x2⟩ := HU.out.cells Hx.out
        obtain ⟨y0, y1, y2⟩ := HU.out.cells Hy.out
        have fz : ∀ k, wl2.frozen? ⟨g, k, none⟩ = false := fun k => by
          have ho := HU.out.hp.own
          rw [HU.out.len] at ho
          exact RowS.frozen (base := B) (n := n) (cap := cap) ho k
        have f0 := fz (j * 3)
        have f1 := fz (j * 3 + 1)
        have f2 := fz (j * 3 + 2)
        have f3 := fz (p * 3)
        have f4 := fz (p * 3 + 1)
        have f5 := fz (p * 3 + 2)
        clear fz
        go_wp2
        go_region
        go_wp2
        have hl := HU.out.len
        have hjl : j < l'.length := by omega
        have hpl : p < l'.length := by omega
        have k1 := HU.out.hp
        rw [← hl] at k1
        have k2 := k1.put hjl y
        have k3 := k2.put (i := p) (by rw [List.length_set]; exact hpl) x
        have HN := hide (show UpLoop w (put3 (put3 wl2 g j y) g p x).drew B Q t ex f lt g n cap l (swp l' j p x y) p from
          ⟨by rw [show n = ((l'.set j y).set p x).length by rw [List.length_set, List.length_set, hl]]; exact k3.below (Below.refl _ _).drew, by have := HU.out.up.step HS.out h0 Hx.out (by rw [HP.out]; exact Hy.out) HBB.out; rwa [HP.out] at this, (swp_perm Hx.out Hy.out (by omega)).trans HU.out.perm, by rw [swp_len]; exact hl,
           ((HU.out.turn.trans put3_turn fun d hd => .inl hd).trans put3_turn fun d hd => .inl hd).trans (TurnH.of_below (Below.refl _ _).drew) fun d hd => .inl hd⟩)
        clear hl hjl hpl k1 k2 k3
        go_roundw
        case rel => exact ⟨p, _, by omega, by go_num, HN⟩
        case measure => simp [intOf]; omega
    · obtain rfl : j = 0 := by omega
      have HF := hide HU.out.up.top
      go_wp2
      go_end0
      exact ⟨rfl, l', HF.out, HU.out.perm, HU.out.hp, HU.out.turn⟩
end Go.Proofs.YtgiplahhalgbdaaGreat

/-
  The package queue: down. Conditions: the heap's blocks lie as said, its order is told by a function.
-/
namespace Go.Proofs.YtgiplahhalgbdaaGreat
set_option linter.unusedSimpArgs false
set_option linter.unusedVariables false
open Go.RowKit

/-- while down goes on -/
structure DownLoop (w wr : World) (B Q : Nat) (t : TypeId) (ex : Array Value) (f : FuncId) (lt : Spt → Spt → Bool) (A : Option Addr) (n cap : Nat) (l0 l : List Spt) (j : Nat) : Prop where
  hp : HpAt wr B Q t ex f (.slice A n cap) l
  down : DownInv lt l j
  perm : l.Perm l0
  len : l.length = n
  turn : TurnH w wr Q (.slice A n cap)
theorem DownLoop.step {w wr wr' : World} {B Q : Nat} {t : TypeId} {ex : Array Value} {f : FuncId} {lt : Spt → Spt → Bool} {n cap : Nat} {A : Option Addr} {l0 l : List Spt} {j : Nat} (h : DownLoop w wr B Q t ex f lt A n cap l0 l j) (hb : Below wr.heap.size wr wr') : DownLoop w wr' B Q t ex f lt A n cap l0 l j :=
  ⟨h.hp.below hb, h.down, h.perm, h.len, h.turn.trans (TurnH.of_below hb) fun d hd => .inl hd⟩
theorem DownLoop.cells {w wr : World} {B Q : Nat} {t : TypeId} {ex : Array Value} {f : FuncId} {lt : Spt → Spt → Bool} {g n cap : Nat} {l0 l : List Spt} {j : Nat} (h : DownLoop w wr B Q t ex f lt (some ⟨g, 0, none⟩) n cap l0 l j) {i : Nat} {x : Spt} (hx : l[i]? = some x) : wr.cell? ⟨g, i * 3, none⟩ = some (.int .u64 x.1.1) ∧ wr.cell? ⟨g, i * 3 + 1, none⟩ = some (.int .u64 x.1.2) ∧ wr.cell? ⟨g, i * 3 + 2, none⟩ = some (.int .i64 x.2) := by
  have ho := h.hp.own
  rw [h.len] at ho
  exact RowS.cells (base := B) (n := n) (cap := cap) ho hx
theorem DownLoop.fz {w wr : World} {B Q : Nat} {t : TypeId} {ex : Array Value} {f : FuncId} {lt : Spt → Spt → Bool} {g n cap : Nat} {l0 l : List Spt} {j : Nat} (h : DownLoop w wr B Q t ex f lt (some ⟨g, 0, none⟩) n cap l0 l j) (k : Nat) : wr.frozen? ⟨g, k, none⟩ = false := by
  have ho := h.hp.own
  rw [h.len] at ho
  exact RowS.frozen (base := B) (n := n) (cap := cap) ho k
theorem DownLoop.swap {w wr : World} {B Q : Nat} {t : TypeId} {ex : Array Value} {f : FuncId} {lt : Spt → Spt → Bool} {g n cap : Nat} {l0 l : List Spt} {j : Nat} (h : DownLoop w wr B Q t ex f lt (some ⟨g, 0, none⟩) n cap l0 l j) (hS : Go.Sort.SWO lt) {k : Nat} {a b : Spt} (hk : k = 2 * j + 1 ∨ k = 2 * j + 2) (ha : l[j]? = some a) (hb : l[k]? = some b) (hl : lt b a = true) (hc : ∀ c, l[2 * j + 1 + 2 * j + 2 - k]? = some c → lt c b = false) :
    DownLoop w (put3 (put3 wr g j b) g k a).drew B Q t ex f lt (some ⟨g, 0, none⟩) n cap l0 (swp l k j b a) k := by
  have hl' := h.len
  have hjl := (List.getElem?_eq_some_iff.1 ha).1
  have hkl := (List.getElem?_eq_some_iff.1 hb).1
  have k1 := h.hp
  rw [← hl'] at k1
  have k2 := k1.put hjl b
  have k3 := k2.put (i := k) (by rw [List.length_set]; exact hkl) a
  have e : swp l k j b a = (l.set j b).set k a := by
    unfold swp
    rw [List.set_comm _ _ (by omega)]
  refine ⟨?_, h.down.step hS (by omega) (by omega) ha hb hl (two_kids hS hb hk hc), (swp_perm hb ha (by omega)).trans h.perm, by rw [swp_len]; exact hl', ?_⟩
  · rw [e, show n = ((l.set j b).set k a).length by rw [List.length_set, List.length_set, hl']]
    exact k3.below (Below.refl _ _).drew
  · exact ((h.turn.trans put3_turn fun d hd => .inl hd).trans put3_turn fun d hd => .inl hd).trans (TurnH.of_below (Below.refl _ _).drew) fun d hd => .inl hd
set_option maxHeartbeats 8000000 in
set_option maxRecDepth 100000 in
theorem down_any {f : FuncId} {lt : Spt → Spt → Bool} (ha : Ahead f lt) (hS : Go.Sort.SWO lt) {w : World} {B Q : Nat} {t : TypeId} {ex : Array Value} {A : Option Addr} {n cap : Nat} {l : List Spt} (h : HpAt w B Q t ex f (.slice A n cap) l) (hn : l.length = n) (hi : DownInv lt l 0) (hc : n ≤ cap) (hm : cap ≤ 9223372036854775807) (hsz : n ≤ 1000000) :
    Calls Tryz.prog 114 #[.pointer (some ⟨Q, 0, none⟩)] w fun e w' => e = .returned (.tuple #[]) ∧ ∃ l', Heap lt l' ∧ l'.Perm l ∧ HpAt w' B Q t ex f (.slice A n cap) l' ∧ TurnH w w' Q (.slice A n cap) := by
  have HL := hide (show DownLoop w w B Q t ex f lt A n cap l l 0 from ⟨h, hi, List.Perm.refl _, hn, TurnH.refl _ _ _⟩)
  have HA := hide ha.tells
  have hent := ha.enter
  have HS := hide hS
  have HG : Hid (0 < n → ∃ g, A = some ⟨g, 0, none⟩) := hide (fun h0 => by
    obtain ⟨g, cap', e, _⟩ := h.form (by omega)
    injection e with e
    exact ⟨g, e⟩)
  clear h hi ha hS hn
  go_enter Tryz.func114, Tryz.ntmps114
  go_wp2
  go_loopw [2, 3] (fun i _ wr => ∃ (j : Nat) (l' : List Spt), j ≤ n ∧ i = .int .i64 j ∧ Hid (DownLoop w wr B Q t ex f lt A n cap l l' j)) (fun i _ _ => n - (intOf i).toNat)
  case atStart => exact ⟨0, l, by omega, rfl, HL⟩
  case round =>
    obtain ⟨j, l', hj, rfl, HU⟩ := hrel
    clear HL
    obtain ⟨z0, z1⟩ := HU.out.hp.cells
    obtain ⟨k, hk⟩ : ∃ k, 2 * j + 1 = k := ⟨_, rfl⟩
    have HK := hide hk
    have hw1 : 2 * (j : Int) + 1 = (k : Int) := by omega
    have hj6 : j ≤ 1000000 := by omega
    by_cases hkn : k < n
    · obtain ⟨g, rfl⟩ := HG.out (by omega)
      obtain ⟨a, ha⟩ : ∃ a, l'[j]? = some a := ⟨_, List.getElem?_eq_getElem (by have := HU.out.len; omega)⟩
      obtain ⟨b, hb⟩ : ∃ b, l'[k]? = some b := ⟨_, List.getElem?_eq_getElem (by have := HU.out.len; omega)⟩
      have Ha := hide ha
      have Hb := hide hb
      have g1 : (k : Int) < n := by omega
      have g2 : (0 : Int) ≤ k := by omega
      have g3 : (j : Int) < n := by omega
      have g4 : (0 : Int) ≤ j := by omega
      clear ha hb hk
      have hge : ¬ n ≤ k := by omega
      have hw3 : IntKind.i64.wrap ((k : Int) + 1) = (k : Int) + 1 := IntWalk.i64_in _ (by omega)
      go_upto_region 3 with fail
      clear hw1 z0 z1
      obtain ⟨k1, hk1⟩ : ∃ k1, k + 1 = k1 := ⟨_, rfl⟩
      have HK1 := hide hk1
      have hwk : IntKind.i64.wrap ((k : Int) + 1) = (k1 : Int) := by rw [hw3]; omega
      clear hw3 hk1
      by_cases hk1n : k1 < n
      · obtain ⟨c, hcx⟩ : ∃ c, l'[k1]? = some c := ⟨_, List.getElem?_eq_getElem (by have := HU.out.len; omega)⟩
        have Hc := hide hcx
        have g5 : (k1 : Int) < n := by omega
        have g6 : (0 : Int) ≤ k1 := by omega
        have b8 : decide ((k1 : Int) < n) = true := by simp; omega
        have b9 : decide (k1 < n) = true := by simp; omega
        clear hcx
        refine wp_region_held_drew (S := fun W => DownLoop w W B Q t ex f lt (some ⟨g, 0, none⟩) n cap l l' j) (by kernel_rfl) (HU.out.step (Below.refl _ _).drew) (fun hHeld => ?_)
        clear HU
        generalize World.drew _ = wl1 at *
        refine wpAnyH_take (i := 0) (v := .int .i64 k) rfl (by kernel_rfl) (by kernel_rfl) (by kernel_rfl) (fun _ _ _ h => h) (Or.inl ⟨by rfl, fun W hS => by clear hS hHeld; go_simp⟩) hHeld ?_
        try simp only [Act.put, List.setIfInBounds_toArray, List.set_cons_zero, List.set_cons_succ, List.getElem_toArray, List.getElem_cons_zero, List.getElem_cons_succ]
        refine wpAnyH_take (i := 1) (v := .int .i64 k1) rfl (by kernel_rfl) (by kernel_rfl) (by kernel_rfl) (fun _ _ _ h => h) (Or.inl ⟨by rfl, fun W hS => by clear hS hHeld; go_simp⟩) hHeld ?_
        try simp only [Act.put, List.setIfInBounds_toArray, List.set_cons_zero, List.set_cons_succ, List.getElem_toArray, List.getElem_cons_zero, List.getElem_cons_succ]
        refine wpAnyH_take (i := 2) (v := .pointer (some ⟨Q, 0, none⟩)) rfl (by kernel_rfl) (by kernel_rfl) (by kernel_rfl) (fun _ _ _ h => h) (Or.inl ⟨by rfl, fun W hS => by clear hS hHeld; go_simp⟩) hHeld ?_
        try simp only [Act.put, List.setIfInBounds_toArray, List.set_cons_zero, List.set_cons_succ, List.getElem_toArray, List.getElem_cons_zero, List.getElem_cons_succ]
        refine wpAnyH_take (i := 3) (v := .pointer (some ⟨Q, 0, none⟩)) rfl (by kernel_rfl) (by kernel_rfl) (by kernel_rfl) (fun _ _ _ h => h) (Or.inl ⟨by rfl, fun W hS => by clear hS hHeld; go_simp⟩) hHeld ?_
        try simp only [Act.put, List.setIfInBounds_toArray, List.set_cons_zero, List.set_cons_succ, List.getElem_toArray, List.getElem_cons_zero, List.getElem_cons_succ]
        refine wpAnyH_take (i := 4) (v := .pointer (some ⟨Q, 0, none⟩)) rfl (by kernel_rfl) (by kernel_rfl) (by kernel_rfl) (fun _ _ _ h => h) (Or.inl ⟨by rfl, fun W hS => by clear hS hHeld; go_simp⟩) hHeld ?_
        try simp only [Act.put, List.setIfInBounds_toArray, List.set_cons_zero, List.set_cons_succ, List.getElem_toArray, List.getElem_cons_zero, List.getElem_cons_succ]
        refine wpAnyH_take (i := 5) (v := .slice (some ⟨g, 0, none⟩) n cap) rfl (by kernel_rfl) (by kernel_rfl) (by kernel_rfl) (fun _ _ _ h => h) (Or.inl ⟨by rfl, fun W hS => by have z0 := hS.hp.cells.1; have z1 := hS.hp.cells.2; clear hS hHeld; go_simp⟩) hHeld ?_
        try simp only [Act.put, List.setIfInBounds_toArray, List.set_cons_zero, List.set_cons_succ, List.getElem_toArray, List.getElem_cons_zero, List.getElem_cons_succ]
        refine wpAnyH_take (i := 6) (v := .int .i64 n) rfl (by kernel_rfl) (by kernel_rfl) (by kernel_rfl) (fun _ _ _ h => h) (Or.inl ⟨by rfl, fun W hS => by clear hS hHeld; go_simp⟩) hHeld ?_
        try simp only [Act.put, List.setIfInBounds_toArray, List.set_cons_zero, List.set_cons_succ, List.getElem_toArray, List.getElem_cons_zero, List.getElem_cons_succ]
        refine wpAnyH_take (i := 7) (v := .bool true) rfl (by kernel_rfl) (by kernel_rfl) (by kernel_rfl) (fun _ _ _ h => h) (Or.inl ⟨by rfl, fun W hS => by clear hS hHeld; go_simp⟩) hHeld ?_
        try simp only [Act.put, List.setIfInBounds_toArray, List.set_cons_zero, List.set_cons_succ, List.getElem_toArray, List.getElem_cons_zero, List.getElem_cons_succ]
        refine wpAnyH_take (i := 8) (v := .bool true) rfl (by kernel_rfl) (by kernel_rfl) (by kernel_rfl) (fun _ _ _ h => h) (Or.inl ⟨by rfl, fun W hS => by clear hS hHeld; go_simp⟩) hHeld ?_
        try simp only [Act.put, List.setIfInBounds_toArray, List.set_cons_zero, List.set_cons_succ, List.getElem_toArray, List.getElem_cons_zero, List.getElem_cons_succ]
        refine wpAnyH_take (i := 9) (v := .pointer (some ⟨Q, 0, none⟩)) rfl (by kernel_rfl) (by kernel_rfl) (by kernel_rfl) (fun _ _ _ h => h) (Or.inl ⟨by rfl, fun W hS => by clear hS hHeld; go_simp⟩) hHeld ?_
        try simp only [Act.put, List.setIfInBounds_toArray, List.set_cons_zero, List.set_cons_succ, List.getElem_toArray, List.getElem_cons_zero, List.getElem_cons_succ]
        refine wpAnyH_take (i := 10) (v := .pointer (some ⟨Q, 0, none⟩)) rfl (by kernel_rfl) (by kernel_rfl) (by kernel_rfl) (fun _ _ _ h => h) (Or.inl ⟨by rfl, fun W hS => by clear hS hHeld; go_simp⟩) hHeld ?_
        try simp only [Act.put, List.setIfInBounds_toArray, List.set_cons_zero, List.set_cons_succ, List.getElem_toArray, List.getElem_cons_zero, List.getElem_cons_succ]
        refine wpAnyH_take (i := 11) (v := .pointer (some ⟨Q, 1, none⟩)) rfl (by kernel_rfl) (by kernel_rfl) (by kernel_rfl) (fun _ _ _ h => h) (Or.inl ⟨by rfl, fun W hS => by clear hS hHeld; go_simp⟩) hHeld ?_
        try simp only [Act.put, List.setIfInBounds_toArray, List.set_cons_zero, List.set_cons_succ, List.getElem_toArray, List.getElem_cons_zero, List.getElem_cons_succ]
        refine wpAnyH_take (i := 12) (v := .func (.func f) #[] #[]) rfl (by kernel_rfl) (by kernel_rfl) (by kernel_rfl) (fun _ _ _ h => h) (Or.inl ⟨by rfl, fun W hS => by have z0 := hS.hp.cells.1; have z1 := hS.hp.cells.2; clear hS hHeld; go_simp⟩) hHeld ?_
        try simp only [Act.put, List.setIfInBounds_toArray, List.set_cons_zero, List.set_cons_succ, List.getElem_toArray, List.getElem_cons_zero, List.getElem_cons_succ]
        refine wpAnyH_take (i := 13) (v := .pointer (some ⟨Q, 0, none⟩)) rfl (by kernel_rfl) (by kernel_rfl) (by kernel_rfl) (fun _ _ _ h => h) (Or.inl ⟨by rfl, fun W hS => by clear hS hHeld; go_simp⟩) hHeld ?_
        try simp only [Act.put, List.setIfInBounds_toArray, List.set_cons_zero, List.set_cons_succ, List.getElem_toArray, List.getElem_cons_zero, List.getElem_cons_succ]
        refine wpAnyH_take (i := 14) (v := .pointer (some ⟨Q, 0, none⟩)) rfl (by kernel_rfl) (by kernel_rfl) (by kernel_rfl) (fun _ _ _ h => h) (Or.inl ⟨by rfl, fun W hS => by clear hS hHeld; go_simp⟩) hHeld ?_
        try simp only [Act.put, List.setIfInBounds_toArray, List.set_cons_zero, List.set_cons_succ, List.getElem_toArray, List.getElem_cons_zero, List.getElem_cons_succ]
        refine wpAnyH_take (i := 15) (v := .pointer (some ⟨Q, 0, none⟩)) rfl (by kernel_rfl) (by kernel_rfl) (by kernel_rfl) (fun _ _ _ h => h) (Or.inl ⟨by rfl, fun W hS => by clear hS hHeld; go_simp⟩) hHeld ?_
        try simp only [Act.put, List.setIfInBounds_toArray, List.set_cons_zero, List.set_cons_succ, List.getElem_toArray, List.getElem_cons_zero, List.getElem_cons_succ]
        refine wpAnyH_take (i := 16) (v := .slice (some ⟨g, 0, none⟩) n cap) rfl (by kernel_rfl) (by kernel_rfl) (by kernel_rfl) (fun _ _ _ h => h) (Or.inl ⟨by rfl, fun W hS => by have z0 := hS.hp.cells.1; have z1 := hS.hp.cells.2; clear hS hHeld; go_simp⟩) hHeld ?_
        try simp only [Act.put, List.setIfInBounds_toArray, List.set_cons_zero, List.set_cons_succ, List.getElem_toArray, List.getElem_cons_zero, List.getElem_cons_succ]
        refine wpAnyH_take (i := 17) (v := .int .i64 k) rfl (by kernel_rfl) (by kernel_rfl) (by kernel_rfl) (fun _ _ _ h => h) (Or.inl ⟨by rfl, fun W hS => by clear hS hHeld; go_simp⟩) hHeld ?_
        try simp only [Act.put, List.setIfInBounds_toArray, List.set_cons_zero, List.set_cons_succ, List.getElem_toArray, List.getElem_cons_zero, List.getElem_cons_succ]
        refine wpAnyH_take (i := 18) (v := .int .i64 k1) rfl (by kernel_rfl) (by kernel_rfl) (by kernel_rfl) (fun _ _ _ h => h) (Or.inl ⟨by rfl, fun W hS => by clear hS hHeld; go_simp⟩) hHeld ?_
        try simp only [Act.put, List.setIfInBounds_toArray, List.set_cons_zero, List.set_cons_succ, List.getElem_toArray, List.getElem_cons_zero, List.getElem_cons_succ]
        refine wpAnyH_take (i := 19) (v := .pointer (some ⟨g, k1 * 3, none⟩)) rfl (by kernel_rfl) (by kernel_rfl) (by kernel_rfl) (fun _ _ _ h => h) (Or.inl ⟨by rfl, fun W hS => by clear hS hHeld; go_simp⟩) hHeld ?_
        try simp only [Act.put, List.setIfInBounds_toArray, List.set_cons_zero, List.set_cons_succ, List.getElem_toArray, List.getElem_cons_zero, List.getElem_cons_succ]
        refine wpAnyH_take (i := 20) (v := .agg #[.int .u64 c.1.1, .int .u64 c.1.2, .int .i64 c.2]) rfl (by kernel_rfl) (by kernel_rfl) (by kernel_rfl) (fun _ _ _ h => h) (Or.inl ⟨by rfl, fun W hS => by obtain ⟨z0, z1, z2⟩ := hS.cells Hc.out; clear hS hHeld; go_simp⟩) hHeld ?_
        try simp only [Act.put, List.setIfInBounds_toArray, List.set_cons_zero, List.set_cons_succ, List.getElem_toArray, List.getElem_cons_zero, List.getElem_cons_succ]
        refine wpAnyH_take (i := 21) (v := .pointer (some ⟨Q, 0, none⟩)) rfl (by kernel_rfl) (by kernel_rfl) (by kernel_rfl) (fun _ _ _ h => h) (Or.inl ⟨by rfl, fun W hS => by clear hS hHeld; go_simp⟩) hHeld ?_
        try simp only [Act.put, List.setIfInBounds_toArray, List.set_cons_zero, List.set_cons_succ, List.getElem_toArray, List.getElem_cons_zero, List.getElem_cons_succ]
        refine wpAnyH_take (i := 22) (v := .pointer (some ⟨Q, 0, none⟩)) rfl (by kernel_rfl) (by kernel_rfl) (by kernel_rfl) (fun _ _ _ h => h) (Or.inl ⟨by rfl, fun W hS => by clear hS hHeld; go_simp⟩) hHeld ?_
        try simp only [Act.put, List.setIfInBounds_toArray, List.set_cons_zero, List.set_cons_succ, List.getElem_toArray, List.getElem_cons_zero, List.getElem_cons_succ]
        refine wpAnyH_take (i := 23) (v := .pointer (some ⟨Q, 0, none⟩)) rfl (by kernel_rfl) (by kernel_rfl) (by kernel_rfl) (fun _ _ _ h => h) (Or.inl ⟨by rfl, fun W hS => by clear hS hHeld; go_simp⟩) hHeld ?_
        try simp only [Act.put, List.setIfInBounds_toArray, List.set_cons_zero, List.set_cons_succ, List.getElem_toArray, List.getElem_cons_zero, List.getElem_cons_succ]
        refine wpAnyH_take (i := 24) (v := .slice (some ⟨g, 0, none⟩) n cap) rfl (by kernel_rfl) (by kernel_rfl) (by kernel_rfl) (fun _ _ _ h => h) (Or.inl ⟨by rfl, fun W hS => by have z0 := hS.hp.cells.1; have z1 := hS.hp.cells.2; clear hS hHeld; go_simp⟩) hHeld ?_
        try simp only [Act.put, List.setIfInBounds_toArray, List.set_cons_zero, List.set_cons_succ, List.getElem_toArray, List.getElem_cons_zero, List.getElem_cons_succ]
        refine wpAnyH_take (i := 25) (v := .int .i64 k) rfl (by kernel_rfl) (by kernel_rfl) (by kernel_rfl) (fun _ _ _ h => h) (Or.inl ⟨by rfl, fun W hS => by clear hS hHeld; go_simp⟩) hHeld ?_
        try simp only [Act.put, List.setIfInBounds_toArray, List.set_cons_zero, List.set_cons_succ, List.getElem_toArray, List.getElem_cons_zero, List.getElem_cons_succ]
        refine wpAnyH_take (i := 26) (v := .pointer (some ⟨g, k * 3, none⟩)) rfl (by kernel_rfl) (by kernel_rfl) (by kernel_rfl) (fun _ _ _ h => h) (Or.inl ⟨by rfl, fun W hS => by clear hS hHeld; go_simp⟩) hHeld ?_
        try simp only [Act.put, List.setIfInBounds_toArray, List.set_cons_zero, List.set_cons_succ, List.getElem_toArray, List.getElem_cons_zero, List.getElem_cons_succ]
        refine wpAnyH_take (i := 27) (v := .agg #[.int .u64 b.1.1, .int .u64 b.1.2, .int .i64 b.2]) rfl (by kernel_rfl) (by kernel_rfl) (by kernel_rfl) (fun _ _ _ h => h) (Or.inl ⟨by rfl, fun W hS => by obtain ⟨z0, z1, z2⟩ := hS.cells Hb.out; clear hS hHeld; go_simp⟩) hHeld ?_
        try simp only [Act.put, List.setIfInBounds_toArray, List.set_cons_zero, List.set_cons_succ, List.getElem_toArray, List.getElem_cons_zero, List.getElem_cons_succ]
        refine wpAnyH_ready (rs := [28]) (by kernel_rfl) (by simp) ?_
        refine AllReadyH.cons rfl (fun K hK => ?_) AllReadyH.nil
        try simp only [Act.put, List.setIfInBounds_toArray, List.set_cons_zero, List.set_cons_succ, List.getElem_toArray, List.getElem_cons_zero, List.getElem_cons_succ]
        go_simp
        refine (HA.out c b _).mono ?_
        rintro e wl2 ⟨rfl, hbel⟩
        refine hK.out _ _ (hHeld.step hbel) (fun hHeld2 => ?_)
        clear hK K hHeld
        have hHeld := hHeld2
        clear hHeld2
        try simp only [Act.put, List.setIfInBounds_toArray, List.set_cons_zero, List.set_cons_succ, List.getElem_toArray, List.getElem_cons_zero, List.getElem_cons_succ]
        clear hbel
        obtain ⟨bb, hbb⟩ : ∃ bb, lt c b = bb := ⟨_, rfl⟩
        rw [hbb]
        have Hbb := hide hbb
        clear hbb
        refine wpAnyH_take (i := 29) (v := .bool bb) rfl (by kernel_rfl) (by kernel_rfl) (by kernel_rfl) (fun _ _ _ h => h) (Or.inl ⟨by rfl, fun W hS => by clear hS hHeld; go_simp⟩) hHeld ?_
        try simp only [Act.put, List.setIfInBounds_toArray, List.set_cons_zero, List.set_cons_succ, List.getElem_toArray, List.getElem_cons_zero, List.getElem_cons_succ]
        refine wpAnyH_done (by kernel_rfl) ?_ _
        have HU := hide hHeld
        clear hHeld
        clear hwk
        rcases bb with _ | _
        · have hc : ∀ d, l'[2 * j + 1 + 2 * j + 2 - k]? = some d → lt d b = false := fun d hd => by
            rw [show 2 * j + 1 + 2 * j + 2 - k = k1 by have := HK.out; have := HK1.out; omega, Hc.out] at hd
            injection hd with hd
            subst hd
            exact Hbb.out
          have HCC := hide hc
          have HKK : Hid (k = 2 * j + 1 ∨ k = 2 * j + 2) := hide (by have := HK.out; omega)
          have hjk : j < k := by have := HK.out; omega
          clear hc
          go_upto_region 5 with fail
          refine wp_region_held_drew (S := fun W => DownLoop w W B Q t ex f lt (some ⟨g, 0, none⟩) n cap l l' j) (by kernel_rfl) (HU.out.step (Below.refl _ _).drew) (fun hHeld => ?_)
          clear HU
          generalize World.drew _ = wl3 at *
          refine wpAnyH_take (i := 0) (v := .pointer (some ⟨Q, 0, none⟩)) rfl (by kernel_rfl) (by kernel_rfl) (by kernel_rfl) (fun _ _ _ h => h) (Or.inl ⟨by rfl, fun W hS => by clear hS hHeld; go_simp⟩) hHeld ?_
          try simp only [Act.put, List.setIfInBounds_toArray, List.set_cons_zero, List.set_cons_succ, List.getElem_toArray, List.getElem_cons_zero, List.getElem_cons_succ]
          refine wpAnyH_take (i := 1) (v := .pointer (some ⟨Q, 0, none⟩)) rfl (by kernel_rfl) (by kernel_rfl) (by kernel_rfl) (fun _ _ _ h => h) (Or.inl ⟨by rfl, fun W hS => by clear hS hHeld; go_simp⟩) hHeld ?_
          try simp only [Act.put, List.setIfInBounds_toArray, List.set_cons_zero, List.set_cons_succ, List.getElem_toArray, List.getElem_cons_zero, List.getElem_cons_succ]
          refine wpAnyH_take (i := 2) (v := .pointer (some ⟨Q, 1, none⟩)) rfl (by kernel_rfl) (by kernel_rfl) (by kernel_rfl) (fun _ _ _ h => h) (Or.inl ⟨by rfl, fun W hS => by clear hS hHeld; go_simp⟩) hHeld ?_
          try simp only [Act.put, List.setIfInBounds_toArray, List.set_cons_zero, List.set_cons_succ, List.getElem_toArray, List.getElem_cons_zero, List.getElem_cons_succ]
          refine wpAnyH_take (i := 3) (v := .func (.func f) #[] #[]) rfl (by kernel_rfl) (by kernel_rfl) (by kernel_rfl) (fun _ _ _ h => h) (Or.inl ⟨by rfl, fun W hS => by have z0 := hS.hp.cells.1; have z1 := hS.hp.cells.2; clear hS hHeld; go_simp⟩) hHeld ?_
          try simp only [Act.put, List.setIfInBounds_toArray, List.set_cons_zero, List.set_cons_succ, List.getElem_toArray, List.getElem_cons_zero, List.getElem_cons_succ]
          refine wpAnyH_take (i := 4) (v := .pointer (some ⟨Q, 0, none⟩)) rfl (by kernel_rfl) (by kernel_rfl) (by kernel_rfl) (fun _ _ _ h => h) (Or.inl ⟨by rfl, fun W hS => by clear hS hHeld; go_simp⟩) hHeld ?_
          try simp only [Act.put, List.setIfInBounds_toArray, List.set_cons_zero, List.set_cons_succ, List.getElem_toArray, List.getElem_cons_zero, List.getElem_cons_succ]
          refine wpAnyH_take (i := 5) (v := .pointer (some ⟨Q, 0, none⟩)) rfl (by kernel_rfl) (by kernel_rfl) (by kernel_rfl) (fun _ _ _ h => h) (Or.inl ⟨by rfl, fun W hS => by clear hS hHeld; go_simp⟩) hHeld ?_
          try simp only [Act.put, List.setIfInBounds_toArray, List.set_cons_zero, List.set_cons_succ, List.getElem_toArray, List.getElem_cons_zero, List.getElem_cons_succ]
          refine wpAnyH_take (i := 6) (v := .pointer (some ⟨Q, 0, none⟩)) rfl (by kernel_rfl) (by kernel_rfl) (by kernel_rfl) (fun _ _ _ h => h) (Or.inl ⟨by rfl, fun W hS => by clear hS hHeld; go_simp⟩) hHeld ?_
          try simp only [Act.put, List.setIfInBounds_toArray, List.set_cons_zero, List.set_cons_succ, List.getElem_toArray, List.getElem_cons_zero, List.getElem_cons_succ]
          refine wpAnyH_take (i := 7) (v := .slice (some ⟨g, 0, none⟩) n cap) rfl (by kernel_rfl) (by kernel_rfl) (by kernel_rfl) (fun _ _ _ h => h) (Or.inl ⟨by rfl, fun W hS => by have z0 := hS.hp.cells.1; have z1 := hS.hp.cells.2; clear hS hHeld; go_simp⟩) hHeld ?_
          try simp only [Act.put, List.setIfInBounds_toArray, List.set_cons_zero, List.set_cons_succ, List.getElem_toArray, List.getElem_cons_zero, List.getElem_cons_succ]
          refine wpAnyH_take (i := 8) (v := .int .i64 k) rfl (by kernel_rfl) (by kernel_rfl) (by kernel_rfl) (fun _ _ _ h => h) (Or.inl ⟨by rfl, fun W hS => by clear hS hHeld; go_simp⟩) hHeld ?_
          try simp only [Act.put, List.setIfInBounds_toArray, List.set_cons_zero, List.set_cons_succ, List.getElem_toArray, List.getElem_cons_zero, List.getElem_cons_succ]
          refine wpAnyH_take (i := 9) (v := .pointer (some ⟨g, k * 3, none⟩)) rfl (by kernel_rfl) (by kernel_rfl) (by kernel_rfl) (fun _ _ _ h => h) (Or.inl ⟨by rfl, fun W hS => by clear hS hHeld; go_simp⟩) hHeld ?_
          try simp only [Act.put, List.setIfInBounds_toArray, List.set_cons_zero, List.set_cons_succ, List.getElem_toArray, List.getElem_cons_zero, List.getElem_cons_succ]
          refine wpAnyH_take (i := 10) (v := .agg #[.int .u64 b.1.1, .int .u64 b.1.2, .int .i64 b.2]) rfl (by kernel_rfl) (by kernel_rfl) (by kernel_rfl) (fun _ _ _ h => h) (Or.inl ⟨by rfl, fun W hS => by obtain ⟨z0, z1, z2⟩ := hS.cells Hb.out; clear hS hHeld; go_simp⟩) hHeld ?_
          try simp only [Act.put, List.setIfInBounds_toArray, List.set_cons_zero, List.set_cons_succ, List.getElem_toArray, List.getElem_cons_zero, List.getElem_cons_succ]
          refine wpAnyH_take (i := 11) (v := .pointer (some ⟨Q, 0, none⟩)) rfl (by kernel_rfl) (by kernel_rfl) (by kernel_rfl) (fun _ _ _ h => h) (Or.inl ⟨by rfl, fun W hS => by clear hS hHeld; go_simp⟩) hHeld ?_
          try simp only [Act.put, List.setIfInBounds_toArray, List.set_cons_zero, List.set_cons_succ, List.getElem_toArray, List.getElem_cons_zero, List.getElem_cons_succ]
          refine wpAnyH_take (i := 12) (v := .pointer (some ⟨Q, 0, none⟩)) rfl (by kernel_rfl) (by kernel_rfl) (by kernel_rfl) (fun _ _ _ h => h) (Or.inl ⟨by rfl, fun W hS => by clear hS hHeld; go_simp⟩) hHeld ?_
          try simp only [Act.put, List.setIfInBounds_toArray, List.set_cons_zero, List.set_cons_succ, List.getElem_toArray, List.getElem_cons_zero, List.getElem_cons_succ]
          refine wpAnyH_take (i := 13) (v := .pointer (some ⟨Q, 0, none⟩)) rfl (by kernel_rfl) (by kernel_rfl) (by kernel_rfl) (fun _ _ _ h => h) (Or.inl ⟨by rfl, fun W hS => by clear hS hHeld; go_simp⟩) hHeld ?_
          try simp only [Act.put, List.setIfInBounds_toArray, List.set_cons_zero, List.set_cons_succ, List.getElem_toArray, List.getElem_cons_zero, List.getElem_cons_succ]
          refine wpAnyH_take (i := 14) (v := .slice (some ⟨g, 0, none⟩) n cap) rfl (by kernel_rfl) (by kernel_rfl) (by kernel_rfl) (fun _ _ _ h => h) (Or.inl ⟨by rfl, fun W hS => by have z0 := hS.hp.cells.1; have z1 := hS.hp.cells.2; clear hS hHeld; go_simp⟩) hHeld ?_
          try simp only [Act.put, List.setIfInBounds_toArray, List.set_cons_zero, List.set_cons_succ, List.getElem_toArray, List.getElem_cons_zero, List.getElem_cons_succ]
          refine wpAnyH_take (i := 15) (v := .int .i64 j) rfl (by kernel_rfl) (by kernel_rfl) (by kernel_rfl) (fun _ _ _ h => h) (Or.inl ⟨by rfl, fun W hS => by clear hS hHeld; go_simp⟩) hHeld ?_
          try simp only [Act.put, List.setIfInBounds_toArray, List.set_cons_zero, List.set_cons_succ, List.getElem_toArray, List.getElem_cons_zero, List.getElem_cons_succ]
          refine wpAnyH_take (i := 16) (v := .pointer (some ⟨g, j * 3, none⟩)) rfl (by kernel_rfl) (by kernel_rfl) (by kernel_rfl) (fun _ _ _ h => h) (Or.inl ⟨by rfl, fun W hS => by clear hS hHeld; go_simp⟩) hHeld ?_
          try simp only [Act.put, List.setIfInBounds_toArray, List.set_cons_zero, List.set_cons_succ, List.getElem_toArray, List.getElem_cons_zero, List.getElem_cons_succ]
          refine wpAnyH_take (i := 17) (v := .agg #[.int .u64 a.1.1, .int .u64 a.1.2, .int .i64 a.2]) rfl (by kernel_rfl) (by kernel_rfl) (by kernel_rfl) (fun _ _ _ h => h) (Or.inl ⟨by rfl, fun W hS => by obtain ⟨z0, z1, z2⟩ := hS.cells Ha.out; clear hS hHeld; go_simp⟩) hHeld ?_
          try simp only [Act.put, List.setIfInBounds_toArray, List.set_cons_zero, List.set_cons_succ, List.getElem_toArray, List.getElem_cons_zero, List.getElem_cons_succ]
          refine wpAnyH_ready (rs := [18]) (by kernel_rfl) (by simp) ?_
          refine AllReadyH.cons rfl (fun K hK => ?_) AllReadyH.nil
          try simp only [Act.put, List.setIfInBounds_toArray, List.set_cons_zero, List.set_cons_succ, List.getElem_toArray, List.getElem_cons_zero, List.getElem_cons_succ]
          go_simp
          refine (HA.out b a _).mono ?_
          rintro e wl4 ⟨rfl, hbel⟩
          refine hK.out _ _ (hHeld.step hbel) (fun hHeld2 => ?_)
          clear hK K hHeld
          have hHeld := hHeld2
          clear hHeld2
          try simp only [Act.put, List.setIfInBounds_toArray, List.set_cons_zero, List.set_cons_succ, List.getElem_toArray, List.getElem_cons_zero, List.getElem_cons_succ]
          clear hbel
          obtain ⟨dd, hbb⟩ : ∃ dd, lt b a = dd := ⟨_, rfl⟩
          rw [hbb]
          have Hdd := hide hbb
          clear hbb
          refine wpAnyH_take (i := 19) (v := .bool (!dd)) rfl (by kernel_rfl) (by kernel_rfl) (by kernel_rfl) (fun _ _ _ h => h) (Or.inl ⟨by rfl, fun W hS => by clear hS hHeld; go_simp⟩) hHeld ?_
          try simp only [Act.put, List.setIfInBounds_toArray, List.set_cons_zero, List.set_cons_succ, List.getElem_toArray, List.getElem_cons_zero, List.getElem_cons_succ]
          refine wpAnyH_done (by kernel_rfl) ?_ _
          have HU := hide hHeld
          clear hHeld
          rcases dd with _ | _
          · have HF := hide (HU.out.down.stop Ha.out (fun i x h0 hi hx => HS.out.ntrans x b a (two_kids HS.out Hb.out HKK.out HCC.out i x h0 hi hx) Hdd.out))
            go_wp2
            exact bodyPost_ret (v := .tuple #[]) (by simp [results, Tryz.results114, go_sem]) rfl ⟨rfl, l', HF.out, HU.out.perm, HU.out.hp, HU.out.turn⟩
          · obtain ⟨z0, _⟩ := HU.out.hp.cells
            obtain ⟨x0, x1, x2⟩ := HU.out.cells Ha.out
            obtain ⟨y0, y1, y2⟩ := HU.out.cells Hb.out
            have f0 := HU.out.fz (j * 3)
            have f1 := HU.out.fz (j * 3 + 1)
            have f2 := HU.out.fz (j * 3 + 2)
            have f3 := HU.out.fz (k * 3)
            have f4 := HU.out.fz (k * 3 + 1)
            have f5 := HU.out.fz (k * 3 + 2)
            go_wp2
            go_region
            go_wp2
            have HN := hide (HU.out.swap HS.out HKK.out Ha.out Hb.out Hdd.out HCC.out)
            go_roundw
            case rel => exact ⟨k, _, by omega, by go_num, HN⟩
            case measure => simp [intOf]; omega
        · have hc : ∀ d, l'[2 * j + 1 + 2 * j + 2 - k1]? = some d → lt d c = false := fun d hd => by
            rw [show 2 * j + 1 + 2 * j + 2 - k1 = k by have := HK.out; have := HK1.out; omega, Hb.out] at hd
            injection hd with hd
            subst hd
            exact lt_asymm HS.out Hbb.out
          have HCC := hide hc
          have HKK : Hid (k1 = 2 * j + 1 ∨ k1 = 2 * j + 2) := hide (by have := HK.out; have := HK1.out; omega)
          have hjk : j < k1 := by have := HK.out; have := HK1.out; omega
          have hw4 : (k : Int) + 1 = (k1 : Int) := by have := HK1.out; omega
          clear hc
          go_upto_region 5 with fail
          clear hw4
          refine wp_region_held_drew (S := fun W => DownLoop w W B Q t ex f lt (some ⟨g, 0, none⟩) n cap l l' j) (by kernel_rfl) (HU.out.step (Below.refl _ _).drew) (fun hHeld => ?_)
          clear HU
          generalize World.drew _ = wl5 at *
          refine wpAnyH_take (i := 0) (v := .pointer (some ⟨Q, 0, none⟩)) rfl (by kernel_rfl) (by kernel_rfl) (by kernel_rfl) (fun _ _ _ h => h) (Or.inl ⟨by rfl, fun W hS => by clear hS hHeld; go_simp⟩) hHeld ?_
          try simp only [Act.put, List.setIfInBounds_toArray, List.set_cons_zero, List.set_cons_succ, List.getElem_toArray, List.getElem_cons_zero, List.getElem_cons_succ]
          refine wpAnyH_take (i := 1) (v := .pointer (some ⟨Q, 0, none⟩)) rfl (by kernel_rfl) (by kernel_rfl) (by kernel_rfl) (fun _ _ _ h => h) (Or.inl ⟨by rfl, fun W hS => by clear hS hHeld; go_simp⟩) hHeld ?_
          try simp only [Act.put, List.setIfInBounds_toArray, List.set_cons_zero, List.set_cons_succ, List.getElem_toArray, List.getElem_cons_zero, List.getElem_cons_succ]
          refine wpAnyH_take (i := 2) (v := .pointer (some ⟨Q, 1, none⟩)) rfl (by kernel_rfl) (by kernel_rfl) (by kernel_rfl) (fun _ _ _ h => h) (Or.inl ⟨by rfl, fun W hS => by clear hS hHeld; go_simp⟩) hHeld ?_
          try simp only [Act.put, List.setIfInBounds_toArray, List.set_cons_zero, List.set_cons_succ, List.getElem_toArray, List.getElem_cons_zero, List.getElem_cons_succ]
          refine wpAnyH_take (i := 3) (v := .func (.func f) #[] #[]) rfl (by kernel_rfl) (by kernel_rfl) (by kernel_rfl) (fun _ _ _ h => h) (Or.inl ⟨by rfl, fun W hS => by have z0 := hS.hp.cells.1; have z1 := hS.hp.cells.2; clear hS hHeld; go_simp⟩) hHeld ?_
          try simp only [Act.put, List.setIfInBounds_toArray, List.set_cons_zero, List.set_cons_succ, List.getElem_toArray, List.getElem_cons_zero, List.getElem_cons_succ]
          refine wpAnyH_take (i := 4) (v := .pointer (some ⟨Q, 0, none⟩)) rfl (by kernel_rfl) (by kernel_rfl) (by kernel_rfl) (fun _ _ _ h => h) (Or.inl ⟨by rfl, fun W hS => by clear hS hHeld; go_simp⟩) hHeld ?_
          try simp only [Act.put, List.setIfInBounds_toArray, List.set_cons_zero, List.set_cons_succ, List.getElem_toArray, List.getElem_cons_zero, List.getElem_cons_succ]
          refine wpAnyH_take (i := 5) (v := .pointer (some ⟨Q, 0, none⟩)) rfl (by kernel_rfl) (by kernel_rfl) (by kernel_rfl) (fun _ _ _ h => h) (Or.inl ⟨by rfl, fun W hS => by clear hS hHeld; go_simp⟩) hHeld ?_
          try simp only [Act.put, List.setIfInBounds_toArray, List.set_cons_zero, List.set_cons_succ, List.getElem_toArray, List.getElem_cons_zero, List.getElem_cons_succ]
          refine wpAnyH_take (i := 6) (v := .pointer (some ⟨Q, 0, none⟩)) rfl (by kernel_rfl) (by kernel_rfl) (by kernel_rfl) (fun _ _ _ h => h) (Or.inl ⟨by rfl, fun W hS => by clear hS hHeld; go_simp⟩) hHeld ?_
          try simp only [Act.put, List.setIfInBounds_toArray, List.set_cons_zero, List.set_cons_succ, List.getElem_toArray, List.getElem_cons_zero, List.getElem_cons_succ]
          refine wpAnyH_take (i := 7) (v := .slice (some ⟨g, 0, none⟩) n cap) rfl (by kernel_rfl) (by kernel_rfl) (by kernel_rfl) (fun _ _ _ h => h) (Or.inl ⟨by rfl, fun W hS => by have z0 := hS.hp.cells.1; have z1 := hS.hp.cells.2; clear hS hHeld; go_simp⟩) hHeld ?_
          try simp only [Act.put, List.setIfInBounds_toArray, List.set_cons_zero, List.set_cons_succ, List.getElem_toArray, List.getElem_cons_zero, List.getElem_cons_succ]
          refine wpAnyH_take (i := 8) (v := .int .i64 k1) rfl (by kernel_rfl) (by kernel_rfl) (by kernel_rfl) (fun _ _ _ h => h) (Or.inl ⟨by rfl, fun W hS => by clear hS hHeld; go_simp⟩) hHeld ?_
          try simp only [Act.put, List.setIfInBounds_toArray, List.set_cons_zero, List.set_cons_succ, List.getElem_toArray, List.getElem_cons_zero, List.getElem_cons_succ]
          refine wpAnyH_take (i := 9) (v := .pointer (some ⟨g, k1 * 3, none⟩)) rfl (by kernel_rfl) (by kernel_rfl) (by kernel_rfl) (fun _ _ _ h => h) (Or.inl ⟨by rfl, fun W hS => by clear hS hHeld; go_simp⟩) hHeld ?_
          try simp only [Act.put, List.setIfInBounds_toArray, List.set_cons_zero, List.set_cons_succ, List.getElem_toArray, List.getElem_cons_zero, List.getElem_cons_succ]
          refine wpAnyH_take (i := 10) (v := .agg #[.int .u64 c.1.1, .int .u64 c.1.2, .int .i64 c.2]) rfl (by kernel_rfl) (by kernel_rfl) (by kernel_rfl) (fun _ _ _ h => h) (Or.inl ⟨by rfl, fun W hS => by obtain ⟨z0, z1, z2⟩ := hS.cells Hc.out; clear hS hHeld; go_simp⟩) hHeld ?_
          try simp only [Act.put, List.setIfInBounds_toArray, List.set_cons_zero, List.set_cons_succ, List.getElem_toArray, List.getElem_cons_zero, List.getElem_cons_succ]
          refine wpAnyH_take (i := 11) (v := .pointer (some ⟨Q, 0, none⟩)) rfl (by kernel_rfl) (by kernel_rfl) (by kernel_rfl) (fun _ _ _ h => h) (Or.inl ⟨by rfl, fun W hS => by clear hS hHeld; go_simp⟩) hHeld ?_
          try simp only [Act.put, List.setIfInBounds_toArray, List.set_cons_zero, List.set_cons_succ, List.getElem_toArray, List.getElem_cons_zero, List.getElem_cons_succ]
          refine wpAnyH_take (i := 12) (v := .pointer (some ⟨Q, 0, none⟩)) rfl (by kernel_rfl) (by kernel_rfl) (by kernel_rfl) (fun _ _ _ h => h) (Or.inl ⟨by rfl, fun W hS => by clear hS hHeld; go_simp⟩) hHeld ?_
          try simp only [Act.put, List.setIfInBounds_toArray, List.set_cons_zero, List.set_cons_succ, List.getElem_toArray, List.getElem_cons_zero, List.getElem_cons_succ]
          refine wpAnyH_take (i := 13) (v := .pointer (some ⟨Q, 0, none⟩)) rfl (by kernel_rfl) (by kernel_rfl) (by kernel_rfl) (fun _ _ _ h => h) (Or.inl ⟨by rfl, fun W hS => by clear hS hHeld; go_simp⟩) hHeld ?_
          try simp only [Act.put, List.setIfInBounds_toArray, List.set_cons_zero, List.set_cons_succ, List.getElem_toArray, List.getElem_cons_zero, List.getElem_cons_succ]
          refine wpAnyH_take (i := 14) (v := .slice (some ⟨g, 0, none⟩) n cap) rfl (by kernel_rfl) (by kernel_rfl) (by kernel_rfl) (fun _ _ _ h => h) (Or.inl ⟨by rfl, fun W hS => by have z0 := hS.hp.cells.1; have z1 := hS.hp.cells.2; clear hS hHeld; go_simp⟩) hHeld ?_
          try simp only [Act.put, List.setIfInBounds_toArray, List.set_cons_zero, List.set_cons_succ, List.getElem_toArray, List.getElem_cons_zero, List.getElem_cons_succ]
          refine wpAnyH_take (i := 15) (v := .int .i64 j) rfl (by kernel_rfl) (by kernel_rfl) (by kernel_rfl) (fun _ _ _ h => h) (Or.inl ⟨by rfl, fun W hS => by clear hS hHeld; go_simp⟩) hHeld ?_
          try simp only [Act.put, List.setIfInBounds_toArray, List.set_cons_zero, List.set_cons_succ, List.getElem_toArray, List.getElem_cons_zero, List.getElem_cons_succ]
          refine wpAnyH_take (i := 16) (v := .pointer (some ⟨g, j * 3, none⟩)) rfl (by kernel_rfl) (by kernel_rfl) (by kernel_rfl) (fun _ _ _ h => h) (Or.inl ⟨by rfl, fun W hS => by clear hS hHeld; go_simp⟩) hHeld ?_
          try simp only [Act.put, List.setIfInBounds_toArray, List.set_cons_zero, List.set_cons_succ, List.getElem_toArray, List.getElem_cons_zero, List.getElem_cons_succ]
          refine wpAnyH_take (i := 17) (v := .agg #[.int .u64 a.1.1, .int .u64 a.1.2, .int .i64 a.2]) rfl (by kernel_rfl) (by kernel_rfl) (by kernel_rfl) (fun _ _ _ h => h) (Or.inl ⟨by rfl, fun W hS => by obtain ⟨z0, z1, z2⟩ := hS.cells Ha.out; clear hS hHeld; go_simp⟩) hHeld ?_
          try simp only [Act.put, List.setIfInBounds_toArray, List.set_cons_zero, List.set_cons_succ, List.getElem_toArray, List.getElem_cons_zero, List.getElem_cons_succ]
          refine wpAnyH_ready (rs := [18]) (by kernel_rfl) (by simp) ?_
          refine AllReadyH.cons rfl (fun K hK => ?_) AllReadyH.nil
          try simp only [Act.put, List.setIfInBounds_toArray, List.set_cons_zero, List.set_cons_succ, List.getElem_toArray, List.getElem_cons_zero, List.getElem_cons_succ]
          go_simp
          refine (HA.out c a _).mono ?_
          rintro e wl6 ⟨rfl, hbel⟩
          refine hK.out _ _ (hHeld.step hbel) (fun hHeld2 => ?_)
          clear hK K hHeld
          have hHeld := hHeld2
          clear hHeld2
          try simp only [Act.put, List.setIfInBounds_toArray, List.set_cons_zero, List.set_cons_succ, List.getElem_toArray, List.getElem_cons_zero, List.getElem_cons_succ]
          clear hbel
          obtain ⟨dd, hbb⟩ : ∃ dd, lt c a = dd := ⟨_, rfl⟩
          rw [hbb]
          have Hdd := hide hbb
          clear hbb
          refine wpAnyH_take (i := 19) (v := .bool (!dd)) rfl (by kernel_rfl) (by kernel_rfl) (by kernel_rfl) (fun _ _ _ h => h) (Or.inl ⟨by rfl, fun W hS => by clear hS hHeld; go_simp⟩) hHeld ?_
          try simp only [Act.put, List.setIfInBounds_toArray, List.set_cons_zero, List.set_cons_succ, List.getElem_toArray, List.getElem_cons_zero, List.getElem_cons_succ]
          refine wpAnyH_done (by kernel_rfl) ?_ _
          have HU := hide hHeld
          clear hHeld
          rcases dd with _ | _
          · have HF := hide (HU.out.down.stop Ha.out (fun i x h0 hi hx => HS.out.ntrans x c a (two_kids HS.out Hc.out HKK.out HCC.out i x h0 hi hx) Hdd.out))
            go_wp2
            exact bodyPost_ret (v := .tuple #[]) (by simp [results, Tryz.results114, go_sem]) rfl ⟨rfl, l', HF.out, HU.out.perm, HU.out.hp, HU.out.turn⟩
          · obtain ⟨z0, _⟩ := HU.out.hp.cells
            obtain ⟨x0, x1, x2⟩ := HU.out.cells Ha.out
            obtain ⟨y0, y1, y2⟩ := HU.out.cells Hc.out
            have f0 := HU.out.fz (j * 3)
            have f1 := HU.out.fz (j * 3 + 1)
            have f2 := HU.out.fz (j * 3 + 2)
            have f3 := HU.out.fz (k1 * 3)
            have f4 := HU.out.fz (k1 * 3 + 1)
            have f5 := HU.out.fz (k1 * 3 + 2)
            go_wp2
            go_region
            go_wp2
            have HN := hide (HU.out.swap HS.out HKK.out Ha.out Hc.out Hdd.out HCC.out)
            go_roundw
            case rel => exact ⟨k1, _, by omega, by go_num, HN⟩
            case measure => simp [intOf]; omega
      · have b8 : decide ((k1 : Int) < n) = false := by simp; omega
        have b9 : decide (k1 < n) = false := by simp; omega
        refine wp_region_held_drew (S := fun W => DownLoop w W B Q t ex f lt (some ⟨g, 0, none⟩) n cap l l' j) (by kernel_rfl) (HU.out.step (Below.refl _ _).drew) (fun hHeld => ?_)
        clear HU
        generalize World.drew _ = wl7 at *
        refine wpAnyH_take (i := 0) (v := .int .i64 k) rfl (by kernel_rfl) (by kernel_rfl) (by kernel_rfl) (fun _ _ _ h => h) (Or.inl ⟨by rfl, fun W hS => by clear hS hHeld; go_simp⟩) hHeld ?_
        try simp only [Act.put, List.setIfInBounds_toArray, List.set_cons_zero, List.set_cons_succ, List.getElem_toArray, List.getElem_cons_zero, List.getElem_cons_succ]
        refine wpAnyH_take (i := 1) (v := .int .i64 k1) rfl (by kernel_rfl) (by kernel_rfl) (by kernel_rfl) (fun _ _ _ h => h) (Or.inl ⟨by rfl, fun W hS => by clear hS hHeld; go_simp⟩) hHeld ?_
        try simp only [Act.put, List.setIfInBounds_toArray, List.set_cons_zero, List.set_cons_succ, List.getElem_toArray, List.getElem_cons_zero, List.getElem_cons_succ]
        refine wpAnyH_take (i := 2) (v := .pointer (some ⟨Q, 0, none⟩)) rfl (by kernel_rfl) (by kernel_rfl) (by kernel_rfl) (fun _ _ _ h => h) (Or.inl ⟨by rfl, fun W hS => by clear hS hHeld; go_simp⟩) hHeld ?_
        try simp only [Act.put, List.setIfInBounds_toArray, List.set_cons_zero, List.set_cons_succ, List.getElem_toArray, List.getElem_cons_zero, List.getElem_cons_succ]
        refine wpAnyH_take (i := 3) (v := .pointer (some ⟨Q, 0, none⟩)) rfl (by kernel_rfl) (by kernel_rfl) (by kernel_rfl) (fun _ _ _ h => h) (Or.inl ⟨by rfl, fun W hS => by clear hS hHeld; go_simp⟩) hHeld ?_
        try simp only [Act.put, List.setIfInBounds_toArray, List.set_cons_zero, List.set_cons_succ, List.getElem_toArray, List.getElem_cons_zero, List.getElem_cons_succ]
        refine wpAnyH_take (i := 4) (v := .pointer (some ⟨Q, 0, none⟩)) rfl (by kernel_rfl) (by kernel_rfl) (by kernel_rfl) (fun _ _ _ h => h) (Or.inl ⟨by rfl, fun W hS => by clear hS hHeld; go_simp⟩) hHeld ?_
        try simp only [Act.put, List.setIfInBounds_toArray, List.set_cons_zero, List.set_cons_succ, List.getElem_toArray, List.getElem_cons_zero, List.getElem_cons_succ]
        refine wpAnyH_take (i := 5) (v := .slice (some ⟨g, 0, none⟩) n cap) rfl (by kernel_rfl) (by kernel_rfl) (by kernel_rfl) (fun _ _ _ h => h) (Or.inl ⟨by rfl, fun W hS => by have z0 := hS.hp.cells.1; have z1 := hS.hp.cells.2; clear hS hHeld; go_simp⟩) hHeld ?_
        try simp only [Act.put, List.setIfInBounds_toArray, List.set_cons_zero, List.set_cons_succ, List.getElem_toArray, List.getElem_cons_zero, List.getElem_cons_succ]
        refine wpAnyH_take (i := 6) (v := .int .i64 n) rfl (by kernel_rfl) (by kernel_rfl) (by kernel_rfl) (fun _ _ _ h => h) (Or.inl ⟨by rfl, fun W hS => by clear hS hHeld; go_simp⟩) hHeld ?_
        try simp only [Act.put, List.setIfInBounds_toArray, List.set_cons_zero, List.set_cons_succ, List.getElem_toArray, List.getElem_cons_zero, List.getElem_cons_succ]
        refine wpAnyH_take (i := 7) (v := .bool false) rfl (by kernel_rfl) (by kernel_rfl) (by kernel_rfl) (fun _ _ _ h => h) (Or.inl ⟨by rfl, fun W hS => by clear hS hHeld; go_simp⟩) hHeld ?_
        try simp only [Act.put, List.setIfInBounds_toArray, List.set_cons_zero, List.set_cons_succ, List.getElem_toArray, List.getElem_cons_zero, List.getElem_cons_succ]
        refine wpAnyH_take (i := 8) (v := .bool false) rfl (by kernel_rfl) (by kernel_rfl) (by kernel_rfl) (fun _ _ _ h => h) (Or.inl ⟨by rfl, fun W hS => by clear hS hHeld; go_simp⟩) hHeld ?_
        try simp only [Act.put, List.setIfInBounds_toArray, List.set_cons_zero, List.set_cons_succ, List.getElem_toArray, List.getElem_cons_zero, List.getElem_cons_succ]
        refine wpAnyH_take (i := 9) (v := undef) rfl (by kernel_rfl) (by kernel_rfl) (by kernel_rfl) (fun _ _ _ h => h) (Or.inr ⟨by rfl, rfl⟩) hHeld ?_
        try simp only [Act.put, List.setIfInBounds_toArray, List.set_cons_zero, List.set_cons_succ, List.getElem_toArray, List.getElem_cons_zero, List.getElem_cons_succ]
        refine wpAnyH_take (i := 10) (v := undef) rfl (by kernel_rfl) (by kernel_rfl) (by kernel_rfl) (fun _ _ _ h => h) (Or.inr ⟨by rfl, rfl⟩) hHeld ?_
        try simp only [Act.put, List.setIfInBounds_toArray, List.set_cons_zero, List.set_cons_succ, List.getElem_toArray, List.getElem_cons_zero, List.getElem_cons_succ]
        refine wpAnyH_take (i := 11) (v := undef) rfl (by kernel_rfl) (by kernel_rfl) (by kernel_rfl) (fun _ _ _ h => h) (Or.inr ⟨by rfl, rfl⟩) hHeld ?_
        try simp only [Act.put, List.setIfInBounds_toArray, List.set_cons_zero, List.set_cons_succ, List.getElem_toArray, List.getElem_cons_zero, List.getElem_cons_succ]
        refine wpAnyH_take (i := 12) (v := undef) rfl (by kernel_rfl) (by kernel_rfl) (by kernel_rfl) (fun _ _ _ h => h) (Or.inr ⟨by rfl, rfl⟩) hHeld ?_
        try simp only [Act.put, List.setIfInBounds_toArray, List.set_cons_zero, List.set_cons_succ, List.getElem_toArray, List.getElem_cons_zero, List.getElem_cons_succ]
        refine wpAnyH_take (i := 13) (v := undef) rfl (by kernel_rfl) (by kernel_rfl) (by kernel_rfl) (fun _ _ _ h => h) (Or.inr ⟨by rfl, rfl⟩) hHeld ?_
        try simp only [Act.put, List.setIfInBounds_toArray, List.set_cons_zero, List.set_cons_succ, List.getElem_toArray, List.getElem_cons_zero, List.getElem_cons_succ]
        refine wpAnyH_take (i := 14) (v := undef) rfl (by kernel_rfl) (by kernel_rfl) (by kernel_rfl) (fun _ _ _ h => h) (Or.inr ⟨by rfl, rfl⟩) hHeld ?_
        try simp only [Act.put, List.setIfInBounds_toArray, List.set_cons_zero, List.set_cons_succ, List.getElem_toArray, List.getElem_cons_zero, List.getElem_cons_succ]
        refine wpAnyH_take (i := 15) (v := undef) rfl (by kernel_rfl) (by kernel_rfl) (by kernel_rfl) (fun _ _ _ h => h) (Or.inr ⟨by rfl, rfl⟩) hHeld ?_
        try simp only [Act.put, List.setIfInBounds_toArray, List.set_cons_zero, List.set_cons_succ, List.getElem_toArray, List.getElem_cons_zero, List.getElem_cons_succ]
        refine wpAnyH_take (i := 16) (v := undef) rfl (by kernel_rfl) (by kernel_rfl) (by kernel_rfl) (fun _ _ _ h => h) (Or.inr ⟨by rfl, rfl⟩) hHeld ?_
        try simp only [Act.put, List.setIfInBounds_toArray, List.set_cons_zero, List.set_cons_succ, List.getElem_toArray, List.getElem_cons_zero, List.getElem_cons_succ]
        refine wpAnyH_take (i := 17) (v := undef) rfl (by kernel_rfl) (by kernel_rfl) (by kernel_rfl) (fun _ _ _ h => h) (Or.inr ⟨by rfl, rfl⟩) hHeld ?_
        try simp only [Act.put, List.setIfInBounds_toArray, List.set_cons_zero, List.set_cons_succ, List.getElem_toArray, List.getElem_cons_zero, List.getElem_cons_succ]
        refine wpAnyH_take (i := 18) (v := undef) rfl (by kernel_rfl) (by kernel_rfl) (by kernel_rfl) (fun _ _ _ h => h) (Or.inr ⟨by rfl, rfl⟩) hHeld ?_
        try simp only [Act.put, List.setIfInBounds_toArray, List.set_cons_zero, List.set_cons_succ, List.getElem_toArray, List.getElem_cons_zero, List.getElem_cons_succ]
        refine wpAnyH_take (i := 19) (v := undef) rfl (by kernel_rfl) (by kernel_rfl) (by kernel_rfl) (fun _ _ _ h => h) (Or.inr ⟨by rfl, rfl⟩) hHeld ?_
        try simp only [Act.put, List.setIfInBounds_toArray, List.set_cons_zero, List.set_cons_succ, List.getElem_toArray, List.getElem_cons_zero, List.getElem_cons_succ]
        refine wpAnyH_take (i := 20) (v := undef) rfl (by kernel_rfl) (by kernel_rfl) (by kernel_rfl) (fun _ _ _ h => h) (Or.inr ⟨by rfl, rfl⟩) hHeld ?_
        try simp only [Act.put, List.setIfInBounds_toArray, List.set_cons_zero, List.set_cons_succ, List.getElem_toArray, List.getElem_cons_zero, List.getElem_cons_succ]
        refine wpAnyH_take (i := 21) (v := undef) rfl (by kernel_rfl) (by kernel_rfl) (by kernel_rfl) (fun _ _ _ h => h) (Or.inr ⟨by rfl, rfl⟩) hHeld ?_
        try simp only [Act.put, List.setIfInBounds_toArray, List.set_cons_zero, List.set_cons_succ, List.getElem_toArray, List.getElem_cons_zero, List.getElem_cons_succ]
        refine wpAnyH_take (i := 22) (v := undef) rfl (by kernel_rfl) (by kernel_rfl) (by kernel_rfl) (fun _ _ _ h => h) (Or.inr ⟨by rfl, rfl⟩) hHeld ?_
        try simp only [Act.put, List.setIfInBounds_toArray, List.set_cons_zero, List.set_cons_succ, List.getElem_toArray, List.getElem_cons_zero, List.getElem_cons_succ]
        refine wpAnyH_take (i := 23) (v := undef) rfl (by kernel_rfl) (by kernel_rfl) (by kernel_rfl) (fun _ _ _ h => h) (Or.inr ⟨by rfl, rfl⟩) hHeld ?_
        try simp only [Act.put, List.setIfInBounds_toArray, List.set_cons_zero, List.set_cons_succ, List.getElem_toArray, List.getElem_cons_zero, List.getElem_cons_succ]
        refine wpAnyH_take (i := 24) (v := undef) rfl (by kernel_rfl) (by kernel_rfl) (by kernel_rfl) (fun _ _ _ h => h) (Or.inr ⟨by rfl, rfl⟩) hHeld ?_
        try simp only [Act.put, List.setIfInBounds_toArray, List.set_cons_zero, List.set_cons_succ, List.getElem_toArray, List.getElem_cons_zero, List.getElem_cons_succ]
        refine wpAnyH_take (i := 25) (v := undef) rfl (by kernel_rfl) (by kernel_rfl) (by kernel_rfl) (fun _ _ _ h => h) (Or.inr ⟨by rfl, rfl⟩) hHeld ?_
        try simp only [Act.put, List.setIfInBounds_toArray, List.set_cons_zero, List.set_cons_succ, List.getElem_toArray, List.getElem_cons_zero, List.getElem_cons_succ]
        refine wpAnyH_take (i := 26) (v := undef) rfl (by kernel_rfl) (by kernel_rfl) (by kernel_rfl) (fun _ _ _ h => h) (Or.inr ⟨by rfl, rfl⟩) hHeld ?_
        try simp only [Act.put, List.setIfInBounds_toArray, List.set_cons_zero, List.set_cons_succ, List.getElem_toArray, List.getElem_cons_zero, List.getElem_cons_succ]
        refine wpAnyH_take (i := 27) (v := undef) rfl (by kernel_rfl) (by kernel_rfl) (by kernel_rfl) (fun _ _ _ h => h) (Or.inr ⟨by rfl, rfl⟩) hHeld ?_
        try simp only [Act.put, List.setIfInBounds_toArray, List.set_cons_zero, List.set_cons_succ, List.getElem_toArray, List.getElem_cons_zero, List.getElem_cons_succ]
        refine wpAnyH_take (i := 28) (v := undef) rfl (by kernel_rfl) (by kernel_rfl) (by kernel_rfl) (fun _ _ _ h => h) (Or.inr ⟨by rfl, rfl⟩) hHeld ?_
        try simp only [Act.put, List.setIfInBounds_toArray, List.set_cons_zero, List.set_cons_succ, List.getElem_toArray, List.getElem_cons_zero, List.getElem_cons_succ]
        refine wpAnyH_take (i := 29) (v := .bool false) rfl (by kernel_rfl) (by kernel_rfl) (by kernel_rfl) (fun _ _ _ h => h) (Or.inl ⟨by rfl, fun W hS => by clear hS hHeld; go_simp⟩) hHeld ?_
        try simp only [Act.put, List.setIfInBounds_toArray, List.set_cons_zero, List.set_cons_succ, List.getElem_toArray, List.getElem_cons_zero, List.getElem_cons_succ]
        refine wpAnyH_done (by kernel_rfl) ?_ _
        have HU := hide hHeld
        clear hHeld
        clear hwk
        have hc : ∀ d, l'[2 * j + 1 + 2 * j + 2 - k]? = some d → lt d b = false := fun d hd => by
          rw [List.getElem?_eq_none (by have := HU.out.len; have := HK.out; have := HK1.out; omega)] at hd
          cases hd
        have HCC := hide hc
        have HKK : Hid (k = 2 * j + 1 ∨ k = 2 * j + 2) := hide (by have := HK.out; omega)
        have hjk : j < k := by have := HK.out; omega
        clear hc
        go_upto_region 5 with fail
        refine wp_region_held_drew (S := fun W => DownLoop w W B Q t ex f lt (some ⟨g, 0, none⟩) n cap l l' j) (by kernel_rfl) (HU.out.step (Below.refl _ _).drew) (fun hHeld => ?_)
        clear HU
        generalize World.drew _ = wl8 at *
        refine wpAnyH_take (i := 0) (v := .pointer (some ⟨Q, 0, none⟩)) rfl (by kernel_rfl) (by kernel_rfl) (by kernel_rfl) (fun _ _ _ h => h) (Or.inl ⟨by rfl, fun W hS => by clear hS hHeld; go_simp⟩) hHeld ?_
        try simp only [Act.put, List.setIfInBounds_toArray, List.set_cons_zero, List.set_cons_succ, List.getElem_toArray, List.getElem_cons_zero, List.getElem_cons_succ]
        refine wpAnyH_take (i := 1) (v := .pointer (some ⟨Q, 0, none⟩)) rfl (by kernel_rfl) (by kernel_rfl) (by kernel_rfl) (fun _ _ _ h => h) (Or.inl ⟨by rfl, fun W hS => by clear hS hHeld; go_simp⟩) hHeld ?_
        try simp only [Act.put, List.setIfInBounds_toArray, List.set_cons_zero, List.set_cons_succ, List.getElem_toArray, List.getElem_cons_zero, List.getElem_cons_succ]
        refine wpAnyH_take (i := 2) (v := .pointer (some ⟨Q, 1, none⟩)) rfl (by kernel_rfl) (by kernel_rfl) (by kernel_rfl) (fun _ _ _ h => h) (Or.inl ⟨by rfl, fun W hS => by clear hS hHeld; go_simp⟩) hHeld ?_
        try simp only [Act.put, List.setIfInBounds_toArray, List.set_cons_zero, List.set_cons_succ, List.getElem_toArray, List.getElem_cons_zero, List.getElem_cons_succ]
        refine wpAnyH_take (i := 3) (v := .func (.func f) #[] #[]) rfl (by kernel_rfl) (by kernel_rfl) (by kernel_rfl) (fun _ _ _ h => h) (Or.inl ⟨by rfl, fun W hS => by have z0 := hS.hp.cells.1; have z1 := hS.hp.cells.2; clear hS hHeld; go_simp⟩) hHeld ?_
        try simp only [Act.put, List.setIfInBounds_toArray, List.set_cons_zero, List.set_cons_succ, List.getElem_toArray, List.getElem_cons_zero, List.getElem_cons_succ]
        refine wpAnyH_take (i := 4) (v := .pointer (some ⟨Q, 0, none⟩)) rfl (by kernel_rfl) (by kernel_rfl) (by kernel_rfl) (fun _ _ _ h => h) (Or.inl ⟨by rfl, fun W hS => by clear hS hHeld; go_simp⟩) hHeld ?_
        try simp only [Act.put, List.setIfInBounds_toArray, List.set_cons_zero, List.set_cons_succ, List.getElem_toArray, List.getElem_cons_zero, List.getElem_cons_succ]
        refine wpAnyH_take (i := 5) (v := .pointer (some ⟨Q, 0, none⟩)) rfl (by kernel_rfl) (by kernel_rfl) (by kernel_rfl) (fun _ _ _ h => h) (Or.inl ⟨by rfl, fun W hS => by clear hS hHeld; go_simp⟩) hHeld ?_
        try simp only [Act.put, List.setIfInBounds_toArray, List.set_cons_zero, List.set_cons_succ, List.getElem_toArray, List.getElem_cons_zero, List.getElem_cons_succ]
        refine wpAnyH_take (i := 6) (v := .pointer (some ⟨Q, 0, none⟩)) rfl (by kernel_rfl) (by kernel_rfl) (by kernel_rfl) (fun _ _ _ h => h) (Or.inl ⟨by rfl, fun W hS => by clear hS hHeld; go_simp⟩) hHeld ?_
        try simp only [Act.put, List.setIfInBounds_toArray, List.set_cons_zero, List.set_cons_succ, List.getElem_toArray, List.getElem_cons_zero, List.getElem_cons_succ]
        refine wpAnyH_take (i := 7) (v := .slice (some ⟨g, 0, none⟩) n cap) rfl (by kernel_rfl) (by kernel_rfl) (by kernel_rfl) (fun _ _ _ h => h) (Or.inl ⟨by rfl, fun W hS => by have z0 := hS.hp.cells.1; have z1 := hS.hp.cells.2; clear hS hHeld; go_simp⟩) hHeld ?_
        try simp only [Act.put, List.setIfInBounds_toArray, List.set_cons_zero, List.set_cons_succ, List.getElem_toArray, List.getElem_cons_zero, List.getElem_cons_succ]
        refine wpAnyH_take (i := 8) (v := .int .i64 k) rfl (by kernel_rfl) (by kernel_rfl) (by kernel_rfl) (fun _ _ _ h => h) (Or.inl ⟨by rfl, fun W hS => by clear hS hHeld; go_simp⟩) hHeld ?_
        try simp only [Act.put, List.setIfInBounds_toArray, List.set_cons_zero, List.set_cons_succ, List.getElem_toArray, List.getElem_cons_zero, List.getElem_cons_succ]
        refine wpAnyH_take (i := 9) (v := .pointer (some ⟨g, k * 3, none⟩)) rfl (by kernel_rfl) (by kernel_rfl) (by kernel_rfl) (fun _ _ _ h => h) (Or.inl ⟨by rfl, fun W hS => by clear hS hHeld; go_simp⟩) hHeld ?_
        try simp only [Act.put, List.setIfInBounds_toArray, List.set_cons_zero, List.set_cons_succ, List.getElem_toArray, List.getElem_cons_zero, List.getElem_cons_succ]
        refine wpAnyH_take (i := 10) (v := .agg #[.int .u64 b.1.1, .int .u64 b.1.2, .int .i64 b.2]) rfl (by kernel_rfl) (by kernel_rfl) (by kernel_rfl) (fun _ _ _ h => h) (Or.inl ⟨by rfl, fun W hS => by obtain ⟨z0, z1, z2⟩ := hS.cells Hb.out; clear hS hHeld; go_simp⟩) hHeld ?_
        try simp only [Act.put, List.setIfInBounds_toArray, List.set_cons_zero, List.set_cons_succ, List.getElem_toArray, List.getElem_cons_zero, List.getElem_cons_succ]
        refine wpAnyH_take (i := 11) (v := .pointer (some ⟨Q, 0, none⟩)) rfl (by kernel_rfl) (by kernel_rfl) (by kernel_rfl) (fun _ _ _ h => h) (Or.inl ⟨by rfl, fun W hS => by clear hS hHeld; go_simp⟩) hHeld ?_
        try simp only [Act.put, List.setIfInBounds_toArray, List.set_cons_zero, List.set_cons_succ, List.getElem_toArray, List.getElem_cons_zero, List.getElem_cons_succ]
        refine wpAnyH_take (i := 12) (v := .pointer (some ⟨Q, 0, none⟩)) rfl (by kernel_rfl) (by kernel_rfl) (by kernel_rfl) (fun _ _ _ h => h) (Or.inl ⟨by rfl, fun W hS => by clear hS hHeld; go_simp⟩) hHeld ?_
        try simp only [Act.put, List.setIfInBounds_toArray, List.set_cons_zero, List.set_cons_succ, List.getElem_toArray, List.getElem_cons_zero, List.getElem_cons_succ]
        refine wpAnyH_take (i := 13) (v := .pointer (some ⟨Q, 0, none⟩)) rfl (by kernel_rfl) (by kernel_rfl) (by kernel_rfl) (fun _ _ _ h => h) (Or.inl ⟨by rfl, fun W hS => by clear hS hHeld; go_simp⟩) hHeld ?_
        try simp only [Act.put, List.setIfInBounds_toArray, List.set_cons_zero, List.set_cons_succ, List.getElem_toArray, List.getElem_cons_zero, List.getElem_cons_succ]
        refine wpAnyH_take (i := 14) (v := .slice (some ⟨g, 0, none⟩) n cap) rfl (by kernel_rfl) (by kernel_rfl) (by kernel_rfl) (fun _ _ _ h => h) (Or.inl ⟨by rfl, fun W hS => by have z0 := hS.hp.cells.1; have z1 := hS.hp.cells.2; clear hS hHeld; go_simp⟩) hHeld ?_
        try simp only [Act.put, List.setIfInBounds_toArray, List.set_cons_zero, List.set_cons_succ, List.getElem_toArray, List.getElem_cons_zero, List.getElem_cons_succ]
        refine wpAnyH_take (i := 15) (v := .int .i64 j) rfl (by kernel_rfl) (by kernel_rfl) (by kernel_rfl) (fun _ _ _ h => h) (Or.inl ⟨by rfl, fun W hS => by clear hS hHeld; go_simp⟩) hHeld ?_
        try simp only [Act.put, List.setIfInBounds_toArray, List.set_cons_zero, List.set_cons_succ, List.getElem_toArray, List.getElem_cons_zero, List.getElem_cons_succ]
        refine wpAnyH_take (i := 16) (v := .pointer (some ⟨g, j * 3, none⟩)) rfl (by kernel_rfl) (by kernel_rfl) (by kernel_rfl) (fun _ _ _ h => h) (Or.inl ⟨by rfl, fun W hS => by clear hS hHeld; go_simp⟩) hHeld ?_
        try simp only [Act.put, List.setIfInBounds_toArray, List.set_cons_zero, List.set_cons_succ, List.getElem_toArray, List.getElem_cons_zero, List.getElem_cons_succ]
        refine wpAnyH_take (i := 17) (v := .agg #[.int .u64 a.1.1, .int .u64 a.1.2, .int .i64 a.2]) rfl (by kernel_rfl) (by kernel_rfl) (by kernel_rfl) (fun _ _ _ h => h) (Or.inl ⟨by rfl, fun W hS => by obtain ⟨z0, z1, z2⟩ := hS.cells Ha.out; clear hS hHeld; go_simp⟩) hHeld ?_
        try simp only [Act.put, List.setIfInBounds_toArray, List.set_cons_zero, List.set_cons_succ, List.getElem_toArray, List.getElem_cons_zero, List.getElem_cons_succ]
        refine wpAnyH_ready (rs := [18]) (by kernel_rfl) (by simp) ?_
        refine AllReadyH.cons rfl (fun K hK => ?_) AllReadyH.nil
        try simp only [Act.put, List.setIfInBounds_toArray, List.set_cons_zero, List.set_cons_succ, List.getElem_toArray, List.getElem_cons_zero, List.getElem_cons_succ]
        go_simp
        refine (HA.out b a _).mono ?_
        rintro e wl9 ⟨rfl, hbel⟩
        refine hK.out _ _ (hHeld.step hbel) (fun hHeld2 => ?_)
        clear hK K hHeld
        have hHeld := hHeld2
        clear hHeld2
        try simp only [Act.put, List.setIfInBounds_toArray, List.set_cons_zero, List.set_cons_succ, List.getElem_toArray, List.getElem_cons_zero, List.getElem_cons_succ]
        clear hbel
        obtain ⟨dd, hbb⟩ : ∃ dd, lt b a = dd := ⟨_, rfl⟩
        rw [hbb]
        have Hdd := hide hbb
        clear hbb
        refine wpAnyH_take (i := 19) (v := .bool (!dd)) rfl (by kernel_rfl) (by kernel_rfl) (by kernel_rfl) (fun _ _ _ h => h) (Or.inl ⟨by rfl, fun W hS => by clear hS hHeld; go_simp⟩) hHeld ?_
        try simp only [Act.put, List.setIfInBounds_toArray, List.set_cons_zero, List.set_cons_succ, List.getElem_toArray, List.getElem_cons_zero, List.getElem_cons_succ]
        refine wpAnyH_done (by kernel_rfl) ?_ _
        have HU := hide hHeld
        clear hHeld
        rcases dd with _ | _
        · have HF := hide (HU.out.down.stop Ha.out (fun i x h0 hi hx => HS.out.ntrans x b a (two_kids HS.out Hb.out HKK.out HCC.out i x h0 hi hx) Hdd.out))
          go_wp2
          exact bodyPost_ret (v := .tuple #[]) (by simp [results, Tryz.results114, go_sem]) rfl ⟨rfl, l', HF.out, HU.out.perm, HU.out.hp, HU.out.turn⟩
        · obtain ⟨z0, _⟩ := HU.out.hp.cells
          obtain ⟨x0, x1, x2⟩ := HU.out.cells Ha.out
          obtain ⟨y0, y1, y2⟩ := HU.out.cells Hb.out
          have f0 := HU.out.fz (j * 3)
          have f1 := HU.out.fz (j * 3 + 1)
          have f2 := HU.out.fz (j * 3 + 2)
          have f3 := HU.out.fz (k * 3)
          have f4 := HU.out.fz (k * 3 + 1)
          have f5 := HU.out.fz (k * 3 + 2)
          go_wp2
          go_region
          go_wp2
          have HN := hide (HU.out.swap HS.out HKK.out Ha.out Hb.out Hdd.out HCC.out)
          go_roundw
          case rel => exact ⟨k, _, by omega, by go_num, HN⟩
          case measure => simp [intOf]; omega
    · have HF := hide (HU.out.down.leaf fun i h0 hi => List.getElem?_eq_none (by have := HU.out.len; have := HK.out; omega))
      have hge : (n : Int) ≤ k := by omega
      have hge2 : n ≤ k := by omega
      clear hk
      go_wp2
      exact bodyPost_ret (v := .tuple #[]) (by simp [results, Tryz.results114, go_sem]) rfl ⟨rfl, l', HF.out, HU.out.perm, HU.out.hp, HU.out.turn⟩
end Go.Proofs.YtgiplahhalgbdaaGreat
