/-
  The package cluster: a step of the centers: first what is kept of the groups. Conditions: the slices read as lists of int32s.
-/
import Derived.Test.YtodlbbcgplhihagCluB
namespace Go.Proofs.Ytodlbbcgplhihag
open Go.RowKit

def vals (V : Nat → Value) (K : Nat) : Array Value := ((List.range K).map V).toArray
def upd {α : Type} (f : Nat → α) (q : Nat) (v : α) (i : Nat) : α := if i = q then v else f i
theorem upd_at {α : Type} (f : Nat → α) (q : Nat) (v : α) : upd f q v q = v := by simp [upd]
theorem upd_ne {α : Type} (f : Nat → α) {q i : Nat} (h : i ≠ q) (v : α) : upd f q v i = f i := by simp [upd, h]
theorem vals_get {V : Nat → Value} {K i : Nat} (h : i < K) : (vals V K)[i]? = some (V i) := by simp [vals, h]
theorem vals_set (V : Nat → Value) (K q : Nat) (v : Value) : (vals V K).setIfInBounds q v = vals (upd V q v) K := by
  unfold vals
  rw [List.setIfInBounds_toArray]
  congr 1
  apply List.ext_getElem
  · simp
  · intro i h1 h2
    rw [List.getElem_set]
    by_cases e : q = i
    · subst e; simp [upd]
    · simp [upd, e, Ne.symm e]
theorem vals_nil (K : Nat) : rep K (.slice none 0 0) = vals (fun _ => .slice none 0 0) K := by
  unfold rep vals
  congr 1
  apply List.ext_getElem
  · simp
  · intro i h1 h2; simp

/-- the groups as they are kept: the block M holds slices V i, each with its own row of the headers L i -/
structure Kept (w1 wr : World) (M K : Nat) (V : Nat → Value) (L : Nat → List Value) : Prop where
  blk : Blk wr M 22 (vals V K)
  own : ∀ i, i < K → wr.ownsRow w1.heap.size 27 1 (V i) (L i).length (L i)
  dis : ∀ i j b, i < K → j < K → i ≠ j → (V i).ownBlock = some b → (V j).ownBlock = some b → False
  only : w1.grownBy wr (some M)
  lt : M < w1.heap.size
section
variable {w1 wr wr' : World} {M K q : Nat} {V : Nat → Value} {L : Nat → List Value}
theorem Kept.drewN (h : Kept w1 wr M K V L) (n : Nat) : Kept w1 (wr.drewN n) M K V L := ⟨h.blk.drewN n, fun i hi => own_keep (h.own i hi) fun _ _ => rfl, h.dis, only_drewN h.only n, h.lt⟩
theorem Kept.neM (h : Kept w1 wr M K V L) {i : Nat} (hi : i < K) : (V i).ownBlock ≠ some M := own_blk_ne (h.own i hi) h.blk (by decide)
theorem Kept.push (h : Kept w1 wr M K V L) (hq : q < K) {o : Obj} {w2 : World} {v' : Value} {u : Value} {n : Nat} (ho : w2.ownsRow w1.heap.size 27 1 v' ((L q).length + 1) (L q ++ [u])) (hg : (wr.alloc o).grownBy w2 (V q).ownBlock)
    (hat : v'.ownBlock = (V q).ownBlock ∨ v'.ownBlock = some (wr.heap.size + 1)) : Kept w1 ((w2.setCell ⟨M, q, none⟩ v').drewN n) M K (upd V q v') (upd L q (L q ++ [u])) := by
  have hsz : w1.heap.size ≤ wr.heap.size := h.only.size
  have hblk : Blk w2 M 22 (vals V K) := (hg.block M (by simp; have := h.lt; omega) (fun e => h.neM hq e.symm)).trans (h.blk.alloc o)
  have hnM : v'.ownBlock ≠ some M := own_blk_ne ho hblk (by decide)
  refine Kept.drewN ⟨?_, ?_, ?_, ?_, h.lt⟩ n
  · rw [← vals_set]; exact hblk.set_ q v'
  · intro i hi
    by_cases e : i = q
    · subst e
      rw [upd_at, upd_at]
      simp only [List.length_append, List.length_singleton]
      exact own_keep ho fun b hb => Below.heap_setCell _ _ _ _ (by rintro rfl; exact hnM hb)
    · rw [upd_ne _ e, upd_ne _ e]
      refine own_keep (h.own i hi) fun b hb => ?_
      have hlt := ((h.own i hi).lt b hb).2
      rw [Below.heap_setCell _ _ _ _ (by rintro rfl; exact h.neM hi hb), hg.block b (by simp; omega) (fun e' => h.dis i q b hi hq e hb e'.symm), Below.heap_alloc _ _ _ hlt]
  · have fresh : ∀ j b, j < K → (V j).ownBlock = some b → v'.ownBlock = some b → j = q := by
      intro j b hj hb hv
      rcases hat with e | e
      · rcases Nat.decEq j q with hne | he
        · exact (h.dis j q b hj hq hne hb (by rw [← e]; exact hv)).elim
        · exact he
      · rw [e] at hv; injection hv with hv; have := ((h.own j hj).lt b hb).2; omega
    intro i j b hi hj hne h1 h2
    by_cases e1 : i = q
    · subst e1
      rw [upd_at] at h1
      rw [upd_ne _ (Ne.symm hne)] at h2
      exact hne (fresh j b hj h2 h1).symm
    · rw [upd_ne _ e1] at h1
      by_cases e2 : j = q
      · subst e2
        rw [upd_at] at h2
        exact hne (fresh i b hi h1 h2)
      · rw [upd_ne _ e2] at h2
        exact h.dis i j b hi hj hne h1 h2
  · refine ⟨hg.os.trans h.only.os, hg.tape.trans h.only.tape, hg.output.trans h.only.output, by have := hg.size; simp at this; simp; omega, fun b hb hne => ?_⟩
    have hbM : b ≠ M := fun e => hne (by rw [e])
    rw [Below.heap_setCell _ _ _ _ hbM, hg.block b (by simp; omega) (fun e => by have := ((h.own q hq).lt b e.symm).1; omega), Below.heap_alloc _ _ _ (by omega)]
    exact h.only.block b hb hne
end
theorem grown_undrew {a b : World} {row : Option Nat} (h : a.drew.grownBy b row) : a.grownBy b row := ⟨h.os, h.tape, h.output, h.size, h.block⟩
theorem Kept.app {w1 wr w2 : World} {M K q : Nat} {V : Nat → Value} {L : Nat → List Value} (h : Kept w1 wr M K V L) (hq : q < K) {o : Obj} (hg : (wr.alloc o).drew.grownBy w2 (V q).ownBlock) {u : Value} (hc : wr.cell? ⟨M, q, none⟩ = some u) :
    w2.cell? ⟨M, q, none⟩ = some u ∧ w2.frozen? ⟨M, q, none⟩ = false := by
  have e : w2.heap[M]? = wr.heap[M]? := (hg.block M (by show M < (wr.alloc o).heap.size; simp; have := h.lt; have := h.only.size; omega) (fun e => h.neM hq e.symm)).trans (Below.heap_alloc _ _ _ h.blk.lt)
  exact ⟨(World.cell?_of_block e).trans hc, (World.frozen?_of_block e).trans (h.blk.frozen q)⟩
theorem reads_new1 (w : World) (u : Value) (e : TypeId) : Reads (w.alloc (.cells #[u] e)).drew (w.heap.size + 1) 1 (some ⟨w.heap.size, 0, none⟩) 1 [u] :=
  ⟨rfl, fun _ => ⟨_, rfl, Nat.lt_succ_self _, fun j v hv => by
    rcases j with _ | j
    · simp at hv; subst hv
      rw [add_mk, World.cell?_drew, cell_of_row _ _ _ _ _ _ (heap_alloc_new w _)]; rfl
    · simp at hv⟩⟩
/-- the headers of a list of lists -/
theorem LL.hdrs {w : World} {B : Nat} {A : Option Addr} {l : List (List Int)} (h : LL w B A l) : ∃ hs : List Value, HdR .i32 w (fun b => b < B) hs l ∧ ∀ (j : Nat) (v : Value), hs[j]? = some v → ∃ ad, A = some ad ∧ ad.block < B ∧ w.cell? (ad.add j) = some v := by
  obtain ⟨hs, hl, hp⟩ := list_pick (p := fun j v => ∃ ad xs A' c', A = some ad ∧ ad.block < B ∧ l[j]? = some xs ∧ v = .slice A' xs.length c' ∧ w.cell? (ad.add j) = some v ∧ xs.length ≤ c' ∧ c' ≤ 9223372036854775807 ∧ RdR (Sh.int .i32) w (fun b => b < B) A' xs) l.length (fun j hj => by
    obtain ⟨ad, xs, A', c', h1, h2, h3, h4, h5, h6, h7⟩ := RdR.slc h hj
    exact ⟨_, ad, xs, A', c', h1, h2, h3, rfl, h4, h5, h6, h7⟩)
  refine ⟨hs, ⟨hl, fun k xs hx => ?_⟩, fun j v hv => ?_⟩
  · have hk : k < hs.length := by rw [hl]; exact (List.getElem?_eq_some_iff.1 hx).1
    obtain ⟨ad, xs', A', c', h1, h2, h3, h4, h5, h6, h7, h8⟩ := hp k _ (List.getElem?_eq_getElem hk)
    rw [hx] at h3
    injection h3 with h3
    subst h3
    exact ⟨A', c', by rw [List.getElem?_eq_getElem hk, h4], h6, h7, h8⟩
  · obtain ⟨ad, xs', A', c', h1, h2, h3, h4, h5, _⟩ := hp j v hv
    exact ⟨ad, h1, h2, h5⟩
/-- which of the first k vectors are of the group i -/
def ofGroup (l cs : List (List Int)) (i k : Nat) : List Nat := (List.range k).filter fun j => best (cAt l j) cs == i
theorem ofGroup_next (l cs : List (List Int)) (i k : Nat) : ofGroup l cs i (k + 1) = ofGroup l cs i k ++ if best (cAt l k) cs = i then [k] else [] := by
  unfold ofGroup
  rw [List.range_succ, List.filter_append]
  congr 1
  by_cases h : best (cAt l k) cs = i <;> simp [h]
theorem ofGroup_lt {l cs : List (List Int)} {i k j : Nat} (h : j ∈ ofGroup l cs i k) : j < k := by
  unfold ofGroup at h
  have := (List.mem_filter.1 h).1
  simpa using this
theorem ofGroup_len (l cs : List (List Int)) (i k : Nat) : (ofGroup l cs i k).length ≤ k := by
  unfold ofGroup
  exact Nat.le_trans (List.length_filter_le _ _) (by simp)
theorem range_cAt (l : List (List Int)) : (List.range l.length).map (cAt l) = l := by
  apply List.ext_getElem
  · simp
  · intro i h1 h2; simp [cAt, List.getD_eq_getElem?_getD, h2]
theorem ofGroup_memb (l cs : List (List Int)) (i : Nat) : (ofGroup l cs i l.length).map (cAt l) = memb l cs i := by
  unfold ofGroup memb
  have : (fun j => best (cAt l j) cs == i) = (fun v => best v cs == i) ∘ cAt l := rfl
  rw [this, ← List.filter_map, range_cAt]
def hdAt (hs : List Value) (j : Nat) : Value := hs.getD j undef
theorem HdR.pick {kd : IntKind} {w : World} {R : Nat → Prop} {hs : List Value} {l : List (List Int)} (h : HdR kd w R hs l) (js : List Nat) (hj : ∀ j ∈ js, j < l.length) : HdR kd w R (js.map (hdAt hs)) (js.map (cAt l)) := by
  refine ⟨by simp, fun k xs hx => ?_⟩
  rw [List.getElem?_map, Option.map_eq_some_iff] at hx
  obtain ⟨j, hk, rfl⟩ := hx
  have hlt := hj j (List.mem_of_getElem? hk)
  obtain ⟨A, c, h1, h2⟩ := h.2 j (cAt l j) (by simp [cAt, List.getD_eq_getElem?_getD, hlt])
  exact ⟨A, c, by rw [List.getElem?_map, hk]; simp [hdAt, List.getD_eq_getElem?_getD, h1], h2⟩
/-- the centers as they are laid: the block O holds the cells; hs read as xss, in later blocks -/
structure Outs (w2 wr : World) (O : Nat) (cells hs : List Value) (xss : List (List Int)) : Prop where
  hb : Below O w2 wr
  blk : Blk wr O 27 cells.toArray
  hd : HdR .i32 wr (fun b => O < b ∧ b < wr.heap.size) hs xss
section
variable {w2 wr wr' : World} {O : Nat} {cells hs : List Value} {xss : List (List Int)}
theorem Outs.below (h : Outs w2 wr O cells hs xss) (hb : Below wr.heap.size wr wr') : Outs w2 wr' O cells hs xss :=
  ⟨h.hb.trans (hb.mono (Nat.le_of_lt h.blk.lt)), h.blk.below hb h.blk.lt, (h.hd.keep fun b hb' => hb.block b hb'.2).more fun b hb' => ⟨hb'.1, Nat.lt_of_lt_of_le hb'.2 hb.size⟩⟩
theorem Outs.store (h : Outs w2 wr O cells hs xss) (i : Nat) (v : Value) : Outs w2 (wr.setCell ⟨O, i, none⟩ v) O (cells.set i v) hs xss :=
  ⟨h.hb.setCell (Nat.le_refl _) _, by have := h.blk.set_ i v; rwa [List.setIfInBounds_toArray] at this,
   (h.hd.keep fun b hb' => Below.heap_setCell _ _ _ _ (by intro e; have := hb'.1; simp at e; omega)).more fun b hb' => ⟨hb'.1, by simpa using hb'.2⟩⟩
theorem Outs.snoc (h : Outs w2 wr O cells hs xss) {A : Option Addr} {n c : Nat} {xs : List Int} (hl : xs.length = n) (hc : n ≤ c) (hm : c ≤ 9223372036854775807) (hr : RdR (Sh.int .i32) wr (fun b => O < b ∧ b < wr.heap.size) A xs) :
    Outs w2 wr O cells (hs ++ [.slice A n c]) (xss ++ [xs]) := ⟨h.hb, h.blk, h.hd.snoc hl hc hm hr⟩
end
theorem cells_set {hs : List Value} {k m : Nat} (hk : hs.length = k) (hm : k < m) (z v : Value) : (hs ++ List.replicate (m - k) z).set k v = (hs ++ [v]) ++ List.replicate (m - (k + 1)) z := by
  subst hk
  obtain ⟨j, hj⟩ : ∃ j, m - hs.length = j + 1 := ⟨m - hs.length - 1, by omega⟩
  rw [hj, show m - (hs.length + 1) = j by omega, List.replicate_succ]
  rw [List.set_append_right _ _ (Nat.le_refl _)]
  simp
theorem cells_at {hs : List Value} {k m : Nat} (hk : hs.length = k) (hm : k < m) (z : Value) : (hs ++ List.replicate (m - k) z)[k]? = some z := by
  subst hk
  rw [List.getElem?_append_right (Nat.le_refl _), Nat.sub_self, List.getElem?_replicate, if_pos (by omega)]
theorem step_take {l cs : List (List Int)} {k : Nat} (hk : k < cs.length) : (stepOfC l cs).take (k + 1) = (stepOfC l cs).take k ++ [moveC (memb l cs k) (cAt cs k)] := by
  rw [List.take_add_one]
  congr 1
  unfold stepOfC
  rw [List.getElem?_map, List.getElem?_range hk]
  rfl
theorem Kept.mem {w w1 wr : World} {M K i : Nat} {V : Nat → Value} {l cs : List (List Int)} {hs : List Value} (h : Kept w1 wr M K V (fun i => (ofGroup l cs i l.length).map (hdAt hs)))
    (hh : HdR .i32 w (fun b => b < w.heap.size) hs l) (hb : Below w.heap.size w wr) (hi : i < K) :
    ∃ A c, V i = .slice A (memb l cs i).length c ∧ (memb l cs i).length ≤ c ∧ c ≤ 9223372036854775807 ∧ LL wr wr.heap.size A (memb l cs i) := by
  have hl : ((ofGroup l cs i l.length).map (hdAt hs)).length = (memb l cs i).length := by rw [← ofGroup_memb]; simp
  have ho := h.own i hi
  obtain ⟨A, c, e, h1, h2⟩ := own_form ho
  rw [hl] at h1
  refine ⟨A, c, by rw [e, hl], h1, h2, ?_⟩
  have hp := hh.pick (ofGroup l cs i l.length) (fun j hj => ofGroup_lt hj)
  rw [ofGroup_memb] at hp
  rw [e] at ho
  exact (((hp.keep fun b hb' => hb.block b hb').more fun b hb' => Nat.lt_of_lt_of_le hb' hb.size) : HdR .i32 wr (fun b => b < wr.heap.size) _ _).own ho fun b _ hb' => hb'
theorem memb_i32 {l cs : List (List Int)} {i : Nat} (h : ∀ v ∈ l, I32 v) : ∀ v ∈ memb l cs i, I32 v := fun v hv => h v ((List.mem_filter.1 hv).1)
theorem memb_len {l cs : List (List Int)} {i : Nat} (h : ∀ v ∈ l, v.length ≤ 1000000) : ∀ v ∈ memb l cs i, v.length ≤ 1000000 := fun v hv => h v ((List.mem_filter.1 hv).1)
theorem memb_le (l cs : List (List Int)) (i : Nat) : (memb l cs i).length ≤ l.length := List.length_filter_le _ _
theorem moveC_yes {g : List (List Int)} {c : List Int} (h : meanB g = true) (hl : held (farOf g (meanR g)) < held (farOf g c)) : moveC g c = meanR g := by unfold moveC; rw [farOf_sum, farOf_sum] at hl; rw [if_pos ⟨h, hl⟩]
theorem moveC_no {g : List (List Int)} {c : List Int} (hl : ¬ held (farOf g (meanR g)) < held (farOf g c)) : moveC g c = c := by unfold moveC; rw [farOf_sum, farOf_sum] at hl; rw [if_neg (fun h => hl h.2)]
theorem moveC_none {g : List (List Int)} {c : List Int} (h : meanB g = false) : moveC g c = c := by unfold moveC; rw [if_neg (fun k => by rw [h] at k; exact absurd k.1 (by decide))]
theorem meanR_i32 {g : List (List Int)} (h : ∀ v ∈ g, I32 v) (hb : meanB g = true) : I32 (meanR g) := by
  have hl : 0 < g.length := by
    unfold meanB at hb
    rw [Bool.and_eq_true] at hb
    exact of_decide_eq_true hb.1
  unfold meanR; rw [if_pos hb]; exact meanOf_i32 h hl
end Go.Proofs.Ytodlbbcgplhihag
