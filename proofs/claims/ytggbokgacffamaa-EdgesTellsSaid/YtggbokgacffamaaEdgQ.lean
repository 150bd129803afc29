/-
  The package edges: the spots of a list of neighbours. Conditions: the slices read as lists of ints, of items, and as a vector; at most some hundred thousand ints.
-/
import Derived.Test.YtggbokgacffamaaEdgP
import Derived.Test.YtggbokgacffamaaEdgO
import Derived.Test.YtggbokgacffamaaRnkE
import Derived.Test.YtggbokgacffamaaVecE
import Derived.Deep.RegionHeld3
namespace Go.Proofs.Ytggbokgacffamaa
open Go.RowKit

abbrev ItemP : Type := Int × List Int × Int
def SItem : Sh ItemP := Sh.pair (Sh.int .u64) (Sh.pair (Sh.list (Sh.int .i32)) (Sh.int .u64))
theorem RdR.itcell {w : World} {R : Nat → Prop} {A : Option Addr} {l : List ItemP} (h : RdR SItem w R A l) {k : Nat} (hk : k < l.length) : ∃ ad x V c, A = some ad ∧ R ad.block ∧ l[k]? = some x ∧
    w.cell? (ad.add (k * 3)) = some (.int .u64 x.1) ∧ w.cell? ⟨(ad.add (k * 3)).block, (ad.add (k * 3)).off + 1, none⟩ = some (.slice V x.2.1.length c) ∧ w.cell? ⟨(ad.add (k * 3)).block, (ad.add (k * 3)).off + 2, none⟩ = some (.int .u64 x.2.2) ∧
    x.2.1.length ≤ c ∧ c ≤ 9223372036854775807 ∧ RdR (Sh.int .i32) w R V x.2.1 := by
  obtain ⟨ad, x, cs, e, hb, hx, hr, hc⟩ := h.at_ hk
  obtain ⟨b, d, rfl, hr1, b2, d2, rfl, ⟨V, c, hr3, h4, h5, h6⟩, hr4⟩ := hr
  have h1 : b = [.int .u64 x.1] := hr1
  have h3 : d2 = [.int .u64 x.2.2] := hr4
  subst h1 hr3 h3
  have c0 := hc 0 _ rfl
  have c1 := hc 1 _ rfl
  have c2 := hc 2 _ rfl
  rw [show SItem.size = 3 from rfl, ← add_of_add] at c1 c2
  refine ⟨ad, x, V, c, e, hb, hx, ?_, c1, c2, h4, h5, h6⟩
  simpa [SItem, Sh.pair, Sh.int, Sh.list] using c0
/-- all vectors are of int32s -/
def ItsI (l : List ItemP) : Prop := ∀ it ∈ l, I32 it.2.1
/-- the spot of the neighbour at i -/
def spotAt (q l : List Int) (its : List ItemP) (i : Nat) : Spt := ((distOf q (its.getD i (0, [], 0)).2.1, (its.getD i (0, [], 0)).1), l.getD i 0)
def spotsF (q l : List Int) (its : List ItemP) : List Spt := (List.range l.length).map (spotAt q l its)
/-- of n, those ahead of k are there -/
def spK (q l : List Int) (its : List ItemP) (n k : Nat) : List Spt := (List.range n).map fun i => if i < k then spotAt q l its i else ((0, 0), 0)
theorem spK_get {q l : List Int} {its : List ItemP} {n k i : Nat} (h : i < n) : (spK q l its n k)[i]? = some (if i < k then spotAt q l its i else ((0, 0), 0)) := by
  unfold spK; rw [List.getElem?_map, List.getElem?_range h]; rfl
theorem spK_set (q l : List Int) (its : List ItemP) (n k : Nat) : (spK q l its n k).set k (spotAt q l its k) = spK q l its n (k + 1) := by
  apply List.ext_getElem?
  intro i
  rw [List.getElem?_set]
  have hl : (spK q l its n k).length = n := by simp [spK]
  by_cases e : k = i
  · subst e
    rw [if_pos rfl, hl]
    by_cases h : k < n
    · rw [if_pos h, spK_get h, if_pos (Nat.lt_succ_self _)]
    · rw [if_neg h, List.getElem?_eq_none (by simp [spK]; omega)]
  · rw [if_neg e]
    by_cases h : i < n
    · rw [spK_get h, spK_get h]
      by_cases h1 : i < k
      · rw [if_pos h1, if_pos (by omega)]
      · rw [if_neg h1, if_neg (by omega)]
    · rw [List.getElem?_eq_none (by omega), List.getElem?_eq_none (by simp [spK]; omega)]
theorem spK_all (q l : List Int) (its : List ItemP) : spK q l its l.length l.length = spotsF q l its := by
  unfold spK spotsF
  exact List.map_congr_left fun i hi => if_pos (List.mem_range.1 hi)
theorem spK_zero (q l : List Int) (its : List ItemP) (n : Nat) : spK q l its n 0 = List.replicate n ((0, 0), 0) := by
  unfold spK
  rw [List.map_congr_left (g := fun _ => (((0, 0), 0) : Spt)) fun i _ => by simp]
  exact List.map_const' ..|>.trans (by simp)
theorem fcsS_zero (n : Nat) : (madeCells #[.int .u64 0, .int .u64 0, .int .i64 0] (n * 3)).toList = fcs encS (List.replicate n ((0, 0), 0)) := by
  apply List.ext_getElem?
  intro t
  by_cases ht : t < n * 3
  · obtain ⟨x, hx, he⟩ := flatS.split (l := List.replicate n ((0, 0), 0)) (t := t) (by rw [List.length_replicate]; exact ht)
    obtain rfl : x = ((0, 0), 0) := List.eq_of_mem_replicate (List.mem_of_getElem? hx)
    rw [he, Array.getElem?_toList, madeCells, Array.getElem?_map, Array.getElem?_range, if_pos ht]
    have : t % 3 = 0 ∨ t % 3 = 1 ∨ t % 3 = 2 := by omega
    show some _ = (encS ((0, 0), 0))[t % 3]?
    rcases this with e | e | e <;> simp [e, encS]
  · rw [List.getElem?_eq_none (by simp [size_madeCells]; omega), List.getElem?_eq_none (by rw [flatS.clen, List.length_replicate]; exact Nat.le_of_not_lt ht)]
theorem run_make_spots (n : Nat) (h6 : n ≤ 1000000) (w : World) :
    (Instr.makeSlice 46 (.int .i64 (n : Int)) (.int .i64 (n : Int))).run Try.prog w = .ok (.slice (some ⟨w.heap.size, 0, none⟩) n n) (w.alloc (.cells (madeCells #[.int .u64 0, .int .u64 0, .int .i64 0] (n * 3)) 30)) := by
  obtain ⟨i, hi, hz⟩ := Option.map_eq_some_iff.1 info_spot
  simp only [Prod.mk.injEq] at hz
  obtain ⟨h1, h2, h3⟩ := hz
  have := run_make_rowN (P := Try.prog) 46 30 i _ Try.underlying46 hi h1 .i64 .i64 n n (Nat.le_refl _) (by rw [h3]; omega) (by omega) w
  rw [h2] at this
  exact this
theorem rowS_made (q l : List Int) (its : List ItemP) (n : Nat) (h6 : n ≤ 1000000) (w : World) : RowS (w.alloc (.cells (madeCells #[.int .u64 0, .int .u64 0, .int .i64 0] (n * 3)) 30)) w.heap.size w.heap.size n n (spK q l its n 0) :=
  ⟨by rw [flatS.clen, spK_zero, List.length_replicate]; rfl, .inr ⟨w.heap.size, n, _, rfl, Nat.le_refl _, heap_alloc_new _ _, Nat.le_refl _, by simp only [maxLen]; omega, by rw [size_madeCells], by
    rw [spK_zero, ← fcsS_zero]; exact List.take_of_length_le (by rw [Array.length_toList, size_madeCells]; exact Nat.le_refl _)⟩⟩
set_option maxHeartbeats 8000000 in
set_option maxRecDepth 100000 in
theorem spots_any (A B C : Option Addr) (n c m d p r : Nat) (l q : List Int) (its : List ItemP) (w : World) (hx : Rd (Sh.int .i64) w w.heap.size A l) (hn : l.length = n) (hc : n ≤ c) (hm : c ≤ 9223372036854775807)
    (hy : Rd (Sh.int .i32) w w.heap.size B q) (hn' : q.length = m) (hyi : I32 q) (hd : m ≤ d) (hm' : d ≤ 9223372036854775807)
    (hz : Rd SItem w w.heap.size C its) (hn2 : its.length = p) (hzi : ItsI its) (hd2 : p ≤ r) (hm2 : r ≤ 9223372036854775807) (h6 : n ≤ 400000) :
    Calls Try.prog 23 #[.slice B m d, .slice A n c, .slice C p r] w fun e w' => e = .returned (.slice (some ⟨w.heap.size, 0, none⟩) n n) ∧ RowS w' w.heap.size w.heap.size n n (spotsF q l its) ∧ Below w.heap.size w w' := by
  have HX := hide hx
  have HY := hide hy
  have HZ := hide hz
  have Hn := hide hn
  have Hm := hide hn'
  have Hp := hide hn2
  have HYI := hide hyi
  have HZI := hide hzi
  have hmk := fun W => run_make_spots n (by omega) W
  have HO0 := hide (rowS_made q l its n (by omega) w)
  have HB0 := hide (below1 w (.cells (madeCells #[.int .u64 0, .int .u64 0, .int .i64 0] (n * 3)) 30))
  clear hx hn hy hn' hz hn2 hyi hzi
  go_enter Try.func23, Try.ntmps23
  go_wp2
  go_loopw [8, 9, 10, 16] (fun _ _ _ i wr => ∃ j : Nat, j ≤ n ∧ i = .int .i64 j ∧ Hid (RowS wr w.heap.size w.heap.size n n (spK q l its n j)) ∧ Hid (Below w.heap.size w wr)) (fun _ _ _ i _ => n - (intOf i).toNat)
  case atStart => exact ⟨0, by omega, rfl, HO0, HB0⟩
  case round =>
    obtain ⟨j, hj, rfl, HO, HB⟩ := hrel
    clear HO0 HB0
    by_cases hlt : j < n
    · obtain ⟨ad0, y, rfl, _, hv, q0⟩ := RdR.icell (HX.out.below HB.out (Nat.le_refl _)) (k := j) (by have := Hn.out; omega)
      have g0 : (0 : Int) ≤ j := by omega
      have g1 : (j : Int) < n := by omega
      have Hbx := hide (show wr.heap.size ≠ w.heap.size from fun e => absurd HO.out.lt (by rw [e]; exact Nat.lt_irrefl _))
      have HBl := hide HO.out.lt
      by_cases hit : j < p
      · obtain ⟨ad, ⟨id, vec, tags⟩, V, cv, rfl, had, hv2, i0, i1, i2, hcv, hcm, hR⟩ := RdR.itcell (HZ.out.below HB.out (Nat.le_refl _)) (k := j) (by have := Hp.out; omega)
        simp only at i0 i1 i2 hR hcv
        have g2 : (j : Int) < p := by omega
        have HVI := hide (HZI.out _ (List.mem_of_getElem? hv2))
        have HSp := hide (show spotAt q l its j = ((distOf q vec, id), y) by simp [spotAt, List.getD_eq_getElem?_getD, hv, hv2])
        generalize hvn : vec.length = nv at *
        have HVN := hide hvn
        have Hcv := hide (And.intro hcv hcm)
        have hbz := below1 wr (.cells #[.int .u64 0, .slice none 0 0, .int .u64 0] 44)
        have hab : ad.block < wr.heap.size := Nat.lt_of_lt_of_le had HB.out.size
        have i0' := (hbz.cell (p := ad.add (j * 3)) (by rw [block_of_add]; exact hab)).trans i0
        have i1' := (hbz.cell (p := ⟨(ad.add (j * 3)).block, (ad.add (j * 3)).off + 1, none⟩) (by show (ad.add (j * 3)).block < _; rw [block_of_add]; exact hab)).trans i1
        have i2' := (hbz.cell (p := ⟨(ad.add (j * 3)).block, (ad.add (j * 3)).off + 2, none⟩) (by show (ad.add (j * 3)).block < _; rw [block_of_add]; exact hab)).trans i2
        clear hv hbz i0 i1 i2 had
        have HN := hide (Blk.new wr 44 #[.int .u64 id, .slice V nv cv, .int .u64 tags])
        have HB1 := hide (HB.out.alloc HB.out.size (.cells #[.int .u64 id, .slice V nv cv, .int .u64 tags] 44))
        have HV := hide ((RdR.rd (B := w.heap.size) hR fun _ h => h).below (below1 wr (.cells #[.int .u64 id, .slice V nv cv, .int .u64 tags] 44)) HB.out.size)
        have HO1 := hide (HO.out.below (below1 wr (.cells #[.int .u64 id, .slice V nv cv, .int .u64 tags] 44)) HO.out.lt)
        clear hR
        go_upto_region 8 with fail
        clear i0' i1' i2' hab
        generalize wr.alloc (.cells #[.int .u64 id, .slice V nv cv, .int .u64 tags] 44) = w2 at *
        generalize wr.heap.size = bx at *
        refine wp_region_held_drew (S := fun W => Blk W bx 44 #[.int .u64 id, .slice V nv cv, .int .u64 tags]) (by kernel_rfl) (HN.out.drew) (fun hHeld => ?_)
        have HBd := hide (show Below w.heap.size w w2.drew from HB1.out.drew)
        have HVd := hide (show Rd (Sh.int .i32) w2.drew w.heap.size V vec from HV.out)
        have HOd := hide (show RowS w2.drew w.heap.size w.heap.size n n (spK q l its n j) from HO1.out)
        clear HN HO1 HV HB1
        generalize w2.drew = w3 at *
        refine wpAnyH_take (i := 0) (v := .slice (some ⟨w.heap.size, 0, none⟩) n n) rfl (by kernel_rfl) (by kernel_rfl) (by kernel_rfl) (fun _ _ _ h => h) (Or.inl ⟨by rfl, fun W hS => by clear hS hHeld; go_simp⟩) hHeld ?_
        try simp only [Act.put, List.setIfInBounds_toArray, List.set_cons_zero, List.set_cons_succ, List.getElem_toArray, List.getElem_cons_zero, List.getElem_cons_succ]
        refine wpAnyH_take (i := 1) (v := .int .i64 j) rfl (by kernel_rfl) (by kernel_rfl) (by kernel_rfl) (fun _ _ _ h => h) (Or.inl ⟨by rfl, fun W hS => by clear hS hHeld; go_simp⟩) hHeld ?_
        try simp only [Act.put, List.setIfInBounds_toArray, List.set_cons_zero, List.set_cons_succ, List.getElem_toArray, List.getElem_cons_zero, List.getElem_cons_succ]
        refine wpAnyH_take (i := 2) (v := .slice B m d) rfl (by kernel_rfl) (by kernel_rfl) (by kernel_rfl) (fun _ _ _ h => h) (Or.inl ⟨by rfl, fun W hS => by clear hS hHeld; go_simp⟩) hHeld ?_
        try simp only [Act.put, List.setIfInBounds_toArray, List.set_cons_zero, List.set_cons_succ, List.getElem_toArray, List.getElem_cons_zero, List.getElem_cons_succ]
        refine wpAnyH_take (i := 3) (v := .pointer (some ⟨bx, 1, none⟩)) rfl (by kernel_rfl) (by kernel_rfl) (by kernel_rfl) (fun _ _ _ h => h) (Or.inl ⟨by rfl, fun W hS => by clear hS hHeld; go_simp⟩) hHeld ?_
        try simp only [Act.put, List.setIfInBounds_toArray, List.set_cons_zero, List.set_cons_succ, List.getElem_toArray, List.getElem_cons_zero, List.getElem_cons_succ]
        refine wpAnyH_take (i := 4) (v := .slice V nv cv) rfl (by kernel_rfl) (by kernel_rfl) (by kernel_rfl) (fun _ _ _ h => h) (Or.inl ⟨by rfl, fun W hS => by have z0 : W.cell? ⟨bx, 0, none⟩ = some (.int .u64 id) := Blk.cell hS 0; have z1 : W.cell? ⟨bx, 1, none⟩ = some (.slice V nv cv) := Blk.cell hS 1; clear hS hHeld; go_simp⟩) hHeld ?_
        try simp only [Act.put, List.setIfInBounds_toArray, List.set_cons_zero, List.set_cons_succ, List.getElem_toArray, List.getElem_cons_zero, List.getElem_cons_succ]
        refine wpAnyH_take (i := 6) (v := .pointer (some ⟨bx, 0, none⟩)) rfl (by kernel_rfl) (by kernel_rfl) (by kernel_rfl) (fun _ _ _ h => h) (Or.inl ⟨by rfl, fun W hS => by clear hS hHeld; go_simp⟩) hHeld ?_
        try simp only [Act.put, List.setIfInBounds_toArray, List.set_cons_zero, List.set_cons_succ, List.getElem_toArray, List.getElem_cons_zero, List.getElem_cons_succ]
        refine wpAnyH_take (i := 7) (v := .int .u64 id) rfl (by kernel_rfl) (by kernel_rfl) (by kernel_rfl) (fun _ _ _ h => h) (Or.inl ⟨by rfl, fun W hS => by have z0 : W.cell? ⟨bx, 0, none⟩ = some (.int .u64 id) := Blk.cell hS 0; have z1 : W.cell? ⟨bx, 1, none⟩ = some (.slice V nv cv) := Blk.cell hS 1; clear hS hHeld; go_simp⟩) hHeld ?_
        try simp only [Act.put, List.setIfInBounds_toArray, List.set_cons_zero, List.set_cons_succ, List.getElem_toArray, List.getElem_cons_zero, List.getElem_cons_succ]
        refine wpAnyH_take (i := 9) (v := .int .i64 y) rfl (by kernel_rfl) (by kernel_rfl) (by kernel_rfl) (fun _ _ _ h => h) (Or.inl ⟨by rfl, fun W hS => by clear hS hHeld; go_simp⟩) hHeld ?_
        try simp only [Act.put, List.setIfInBounds_toArray, List.set_cons_zero, List.set_cons_succ, List.getElem_toArray, List.getElem_cons_zero, List.getElem_cons_succ]
        refine wpAnyH_ready (rs := [5]) (by kernel_rfl) (by simp) ?_
        refine AllReadyH.cons rfl (fun K hK => ?_) AllReadyH.nil
        try simp only [Act.put, List.setIfInBounds_toArray, List.set_cons_zero, List.set_cons_succ, List.getElem_toArray, List.getElem_cons_zero, List.getElem_cons_succ]
        go_simp
        go_at_call 33
        refine (dist_any B V m d nv cv q vec w3 (HY.out.below HBd.out (Nat.le_refl _) |> fun h => RdR.rd h fun b hb => Nat.lt_of_lt_of_le hb HBd.out.size) Hm.out HYI.out hd hm' (RdR.rd HVd.out fun b hb => Nat.lt_of_lt_of_le hb HBd.out.size) HVN.out HVI.out Hcv.out.1 Hcv.out.2).mono ?_
        rintro e wq ⟨rfl, rfl⟩
        refine hK.out _ _ hHeld (fun hHeld2 => ?_)
        clear hK K hHeld
        have hHeld := hHeld2
        clear hHeld2
        try simp only [Act.put, List.setIfInBounds_toArray, List.set_cons_zero, List.set_cons_succ, List.getElem_toArray, List.getElem_cons_zero, List.getElem_cons_succ]
        refine wpAnyH_take (i := 8) (v := .agg #[.int .u64 (distOf q vec), .int .u64 id]) rfl (by kernel_rfl) (by kernel_rfl) (by kernel_rfl) (fun _ _ _ h => h) (Or.inl ⟨by rfl, fun W hS => by clear hS hHeld; go_simp⟩) hHeld ?_
        try simp only [Act.put, List.setIfInBounds_toArray, List.set_cons_zero, List.set_cons_succ, List.getElem_toArray, List.getElem_cons_zero, List.getElem_cons_succ]
        refine wpAnyH_take (i := 10) (v := .agg #[.int .u64 (distOf q vec), .int .u64 id, .int .i64 y]) rfl (by kernel_rfl) (by kernel_rfl) (by kernel_rfl) (fun _ _ _ h => h) (Or.inl ⟨by rfl, fun W hS => by clear hS hHeld; go_simp⟩) hHeld ?_
        try simp only [Act.put, List.setIfInBounds_toArray, List.set_cons_zero, List.set_cons_succ, List.getElem_toArray, List.getElem_cons_zero, List.getElem_cons_succ]
        refine wpAnyH_take (i := 11) (v := .pointer (some ⟨w.heap.size, j * 3, none⟩)) rfl (by kernel_rfl) (by kernel_rfl) (by kernel_rfl) (fun _ _ _ h => h) (Or.inl ⟨by rfl, fun W hS => by clear hS hHeld; go_simp⟩) hHeld ?_
        try simp only [Act.put, List.setIfInBounds_toArray, List.set_cons_zero, List.set_cons_succ, List.getElem_toArray, List.getElem_cons_zero, List.getElem_cons_succ]
        refine wpAnyH_ready (rs := [12]) (by kernel_rfl) (by simp) ?_
        refine AllReadyH.cons rfl (fun K hK => ?_) AllReadyH.nil
        have hcl := HOd.out.cells (spK_get (q := q) (l := l) (its := its) (k := j) hlt)
        obtain ⟨k0, k1, k2⟩ := hcl
        have f0 := HOd.out.frozen (j * 3)
        have f1 := HOd.out.frozen (j * 3 + 1)
        have f2 := HOd.out.frozen (j * 3 + 2)
        have HO9 := hide (HOd.out.set hlt ((distOf q vec, id), y))
        have HB9 := hide (((HBd.out.setCell (p := ⟨w.heap.size, j * 3, none⟩) (Nat.le_refl _) (.int .u64 (distOf q vec))).setCell (p := ⟨w.heap.size, j * 3 + 1, none⟩) (Nat.le_refl _) (.int .u64 id)).setCell (p := ⟨w.heap.size, j * 3 + 2, none⟩) (Nat.le_refl _) (.int .i64 y))
        have HN9 := ((Blk.far hHeld (p := ⟨w.heap.size, j * 3, none⟩) Hbx.out (.int .u64 (distOf q vec))).far (p := ⟨w.heap.size, j * 3 + 1, none⟩) Hbx.out (.int .u64 id)).far (p := ⟨w.heap.size, j * 3 + 2, none⟩) Hbx.out (.int .i64 y)
        try simp only [Act.put, List.setIfInBounds_toArray, List.set_cons_zero, List.set_cons_succ, List.getElem_toArray, List.getElem_cons_zero, List.getElem_cons_succ]
        go_simp
        refine hK.out _ _ HN9 (fun hHeld2 => ?_)
        clear hK K hHeld
        have hHeld := hHeld2
        clear hHeld2
        try simp only [Act.put, List.setIfInBounds_toArray, List.set_cons_zero, List.set_cons_succ, List.getElem_toArray, List.getElem_cons_zero, List.getElem_cons_succ]
        refine wpAnyH_done (by kernel_rfl) ?_ _
        go_wp2
        go_roundw
        case rel => exact ⟨j + 1, by omega, by go_num, hide (by rw [← spK_set, HSp.out]; exact HO9.out), HB9⟩
        case measure => simp [intOf]; omega

      · have HVI := hide (show I32 [] from fun x hx => by simp at hx)
        have HSp := hide (show spotAt q l its j = ((distOf q [], 0), y) by simp [spotAt, List.getD_eq_getElem?_getD, hv, List.getElem?_eq_none (show its.length ≤ j by have := Hp.out; omega)])
        have HVN := hide (rfl : ([] : List Int).length = 0)
        have Hcv := hide (show 0 ≤ 0 ∧ (0 : Nat) ≤ 9223372036854775807 from ⟨Nat.le_refl _, by omega⟩)
        have hR : RdR (Sh.int .i32) wr (fun b => b < w.heap.size) none [] := RdR.nil
        clear hv
        have HN := hide (Blk.new wr 44 #[.int .u64 0, .slice none 0 0, .int .u64 0])
        have HB1 := hide (HB.out.alloc HB.out.size (.cells #[.int .u64 0, .slice none 0 0, .int .u64 0] 44))
        have HV := hide ((RdR.rd (B := w.heap.size) hR fun _ h => h).below (below1 wr (.cells #[.int .u64 0, .slice none 0 0, .int .u64 0] 44)) HB.out.size)
        have HO1 := hide (HO.out.below (below1 wr (.cells #[.int .u64 0, .slice none 0 0, .int .u64 0] 44)) HO.out.lt)
        clear hR
        go_upto_region 8 with fail
        generalize wr.alloc (.cells #[.int .u64 0, .slice none 0 0, .int .u64 0] 44) = w2 at *
        generalize wr.heap.size = bx at *
        refine wp_region_held_drew (S := fun W => Blk W bx 44 #[.int .u64 0, .slice none 0 0, .int .u64 0]) (by kernel_rfl) (HN.out.drew) (fun hHeld => ?_)
        have HBd := hide (show Below w.heap.size w w2.drew from HB1.out.drew)
        have HVd := hide (show Rd (Sh.int .i32) w2.drew w.heap.size none [] from HV.out)
        have HOd := hide (show RowS w2.drew w.heap.size w.heap.size n n (spK q l its n j) from HO1.out)
        clear HN HO1 HV HB1
        generalize w2.drew = w3 at *
        refine wpAnyH_take (i := 0) (v := .slice (some ⟨w.heap.size, 0, none⟩) n n) rfl (by kernel_rfl) (by kernel_rfl) (by kernel_rfl) (fun _ _ _ h => h) (Or.inl ⟨by rfl, fun W hS => by clear hS hHeld; go_simp⟩) hHeld ?_
        try simp only [Act.put, List.setIfInBounds_toArray, List.set_cons_zero, List.set_cons_succ, List.getElem_toArray, List.getElem_cons_zero, List.getElem_cons_succ]
        refine wpAnyH_take (i := 1) (v := .int .i64 j) rfl (by kernel_rfl) (by kernel_rfl) (by kernel_rfl) (fun _ _ _ h => h) (Or.inl ⟨by rfl, fun W hS => by clear hS hHeld; go_simp⟩) hHeld ?_
        try simp only [Act.put, List.setIfInBounds_toArray, List.set_cons_zero, List.set_cons_succ, List.getElem_toArray, List.getElem_cons_zero, List.getElem_cons_succ]
        refine wpAnyH_take (i := 2) (v := .slice B m d) rfl (by kernel_rfl) (by kernel_rfl) (by kernel_rfl) (fun _ _ _ h => h) (Or.inl ⟨by rfl, fun W hS => by clear hS hHeld; go_simp⟩) hHeld ?_
        try simp only [Act.put, List.setIfInBounds_toArray, List.set_cons_zero, List.set_cons_succ, List.getElem_toArray, List.getElem_cons_zero, List.getElem_cons_succ]
        refine wpAnyH_take (i := 3) (v := .pointer (some ⟨bx, 1, none⟩)) rfl (by kernel_rfl) (by kernel_rfl) (by kernel_rfl) (fun _ _ _ h => h) (Or.inl ⟨by rfl, fun W hS => by clear hS hHeld; go_simp⟩) hHeld ?_
        try simp only [Act.put, List.setIfInBounds_toArray, List.set_cons_zero, List.set_cons_succ, List.getElem_toArray, List.getElem_cons_zero, List.getElem_cons_succ]
        refine wpAnyH_take (i := 4) (v := .slice none 0 0) rfl (by kernel_rfl) (by kernel_rfl) (by kernel_rfl) (fun _ _ _ h => h) (Or.inl ⟨by rfl, fun W hS => by have z0 : W.cell? ⟨bx, 0, none⟩ = some (.int .u64 0) := Blk.cell hS 0; have z1 : W.cell? ⟨bx, 1, none⟩ = some (.slice none 0 0) := Blk.cell hS 1; clear hS hHeld; go_simp⟩) hHeld ?_
        try simp only [Act.put, List.setIfInBounds_toArray, List.set_cons_zero, List.set_cons_succ, List.getElem_toArray, List.getElem_cons_zero, List.getElem_cons_succ]
        refine wpAnyH_take (i := 6) (v := .pointer (some ⟨bx, 0, none⟩)) rfl (by kernel_rfl) (by kernel_rfl) (by kernel_rfl) (fun _ _ _ h => h) (Or.inl ⟨by rfl, fun W hS => by clear hS hHeld; go_simp⟩) hHeld ?_
        try simp only [Act.put, List.setIfInBounds_toArray, List.set_cons_zero, List.set_cons_succ, List.getElem_toArray, List.getElem_cons_zero, List.getElem_cons_succ]
        refine wpAnyH_take (i := 7) (v := .int .u64 0) rfl (by kernel_rfl) (by kernel_rfl) (by kernel_rfl) (fun _ _ _ h => h) (Or.inl ⟨by rfl, fun W hS => by have z0 : W.cell? ⟨bx, 0, none⟩ = some (.int .u64 0) := Blk.cell hS 0; have z1 : W.cell? ⟨bx, 1, none⟩ = some (.slice none 0 0) := Blk.cell hS 1; clear hS hHeld; go_simp⟩) hHeld ?_
        try simp only [Act.put, List.setIfInBounds_toArray, List.set_cons_zero, List.set_cons_succ, List.getElem_toArray, List.getElem_cons_zero, List.getElem_cons_succ]
        refine wpAnyH_take (i := 9) (v := .int .i64 y) rfl (by kernel_rfl) (by kernel_rfl) (by kernel_rfl) (fun _ _ _ h => h) (Or.inl ⟨by rfl, fun W hS => by clear hS hHeld; go_simp⟩) hHeld ?_
        try simp only [Act.put, List.setIfInBounds_toArray, List.set_cons_zero, List.set_cons_succ, List.getElem_toArray, List.getElem_cons_zero, List.getElem_cons_succ]
        refine wpAnyH_ready (rs := [5]) (by kernel_rfl) (by simp) ?_
        refine AllReadyH.cons rfl (fun K hK => ?_) AllReadyH.nil
        try simp only [Act.put, List.setIfInBounds_toArray, List.set_cons_zero, List.set_cons_succ, List.getElem_toArray, List.getElem_cons_zero, List.getElem_cons_succ]
        go_simp
        go_at_call 33
        refine (dist_any B none m d 0 0 q [] w3 (HY.out.below HBd.out (Nat.le_refl _) |> fun h => RdR.rd h fun b hb => Nat.lt_of_lt_of_le hb HBd.out.size) Hm.out HYI.out hd hm' (RdR.rd HVd.out fun b hb => Nat.lt_of_lt_of_le hb HBd.out.size) HVN.out HVI.out Hcv.out.1 Hcv.out.2).mono ?_
        rintro e wq ⟨rfl, rfl⟩
        refine hK.out _ _ hHeld (fun hHeld2 => ?_)
        clear hK K hHeld
        have hHeld := hHeld2
        clear hHeld2
        try simp only [Act.put, List.setIfInBounds_toArray, List.set_cons_zero, List.set_cons_succ, List.getElem_toArray, List.getElem_cons_zero, List.getElem_cons_succ]
        refine wpAnyH_take (i := 8) (v := .agg #[.int .u64 (distOf q []), .int .u64 0]) rfl (by kernel_rfl) (by kernel_rfl) (by kernel_rfl) (fun _ _ _ h => h) (Or.inl ⟨by rfl, fun W hS => by clear hS hHeld; go_simp⟩) hHeld ?_
        try simp only [Act.put, List.setIfInBounds_toArray, List.set_cons_zero, List.set_cons_succ, List.getElem_toArray, List.getElem_cons_zero, List.getElem_cons_succ]
        refine wpAnyH_take (i := 10) (v := .agg #[.int .u64 (distOf q []), .int .u64 0, .int .i64 y]) rfl (by kernel_rfl) (by kernel_rfl) (by kernel_rfl) (fun _ _ _ h => h) (Or.inl ⟨by rfl, fun W hS => by clear hS hHeld; go_simp⟩) hHeld ?_
        try simp only [Act.put, List.setIfInBounds_toArray, List.set_cons_zero, List.set_cons_succ, List.getElem_toArray, List.getElem_cons_zero, List.getElem_cons_succ]
        refine wpAnyH_take (i := 11) (v := .pointer (some ⟨w.heap.size, j * 3, none⟩)) rfl (by kernel_rfl) (by kernel_rfl) (by kernel_rfl) (fun _ _ _ h => h) (Or.inl ⟨by rfl, fun W hS => by clear hS hHeld; go_simp⟩) hHeld ?_
        try simp only [Act.put, List.setIfInBounds_toArray, List.set_cons_zero, List.set_cons_succ, List.getElem_toArray, List.getElem_cons_zero, List.getElem_cons_succ]
        refine wpAnyH_ready (rs := [12]) (by kernel_rfl) (by simp) ?_
        refine AllReadyH.cons rfl (fun K hK => ?_) AllReadyH.nil
        have hcl := HOd.out.cells (spK_get (q := q) (l := l) (its := its) (k := j) hlt)
        obtain ⟨k0, k1, k2⟩ := hcl
        have f0 := HOd.out.frozen (j * 3)
        have f1 := HOd.out.frozen (j * 3 + 1)
        have f2 := HOd.out.frozen (j * 3 + 2)
        have HO9 := hide (HOd.out.set hlt ((distOf q [], 0), y))
        have HB9 := hide (((HBd.out.setCell (p := ⟨w.heap.size, j * 3, none⟩) (Nat.le_refl _) (.int .u64 (distOf q []))).setCell (p := ⟨w.heap.size, j * 3 + 1, none⟩) (Nat.le_refl _) (.int .u64 0)).setCell (p := ⟨w.heap.size, j * 3 + 2, none⟩) (Nat.le_refl _) (.int .i64 y))
        have HN9 := ((Blk.far hHeld (p := ⟨w.heap.size, j * 3, none⟩) Hbx.out (.int .u64 (distOf q []))).far (p := ⟨w.heap.size, j * 3 + 1, none⟩) Hbx.out (.int .u64 0)).far (p := ⟨w.heap.size, j * 3 + 2, none⟩) Hbx.out (.int .i64 y)
        try simp only [Act.put, List.setIfInBounds_toArray, List.set_cons_zero, List.set_cons_succ, List.getElem_toArray, List.getElem_cons_zero, List.getElem_cons_succ]
        go_simp
        refine hK.out _ _ HN9 (fun hHeld2 => ?_)
        clear hK K hHeld
        have hHeld := hHeld2
        clear hHeld2
        try simp only [Act.put, List.setIfInBounds_toArray, List.set_cons_zero, List.set_cons_succ, List.getElem_toArray, List.getElem_cons_zero, List.getElem_cons_succ]
        refine wpAnyH_done (by kernel_rfl) ?_ _
        go_wp2
        go_roundw
        case rel => exact ⟨j + 1, by omega, by go_num, hide (by rw [← spK_set, HSp.out]; exact HO9.out), HB9⟩
        case measure => simp [intOf]; omega

    · obtain rfl : j = n := by omega
      have HO2 := hide (show RowS wr w.heap.size w.heap.size j j (spotsF q l its) by have h := HO.out; have e := Hn.out; subst e; rwa [spK_all] at h)
      go_wp2
      go_ret
      exact ⟨rfl, HO2.out, HB.out⟩
end Go.Proofs.Ytggbokgacffamaa
