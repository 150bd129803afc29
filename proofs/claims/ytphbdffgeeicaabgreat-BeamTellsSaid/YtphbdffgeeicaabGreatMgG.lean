/-
  Texts of one part, put together. No condition.
-/
import Derived.Test.YtphbdffgeeicaabGreatBmQ
import Derived.Test.YtphbdffgeeicaabGreatMgF
import Derived.Test.YtphbdffgeeicaabGreatMgC
import Derived.Test.YtphbdffgeeicaabGreatHitS
/-
  Two small planes, plainly: that they are right, and what searches find there. No program in sight.
-/
namespace Go.Proofs.YtphbdffgeeicaabGreat
set_option linter.unusedSimpArgs false
set_option linter.unusedVariables false

def bl1 : List NodeP := [((0, [], 0), 0, [], 1, 1), ((7, [4], 1), 0, [[]], 0, 0)]
def bl2 : List NodeP := [((0, [], 0), 0, [], 2, 1), ((7, [4], 1), 0, [[]], 0, 2), ((8, [1], 0), 0, [[]], 1, 0)]
theorem put_bl1 : putNs [headN] (7, [4], 1) = bl1 := by decide
theorem put_bl2 : putNs bl1 (8, [1], 0) = bl2 := by decide
theorem node0 {ns : List NodeP} {s links : Int} (h1 : (nodeF ns s).2.1 = 0) (h2 : (nodeF ns s).2.2.1 = [[]]) : nodeOk ns links s := by
  refine ⟨by omega, by omega, by rw [h2, h1]; rfl, fun lev hl => ?_⟩
  rw [h2] at hl
  obtain rfl : lev = 0 := by simpa using hl
  refine ⟨[], by rw [h2]; rfl, ⟨by simp, by simp, ?_⟩, by simp⟩
  unfold mostF
  simp
  omega
theorem ck0 (links : Int) : CheckP [headN] 0 0 links := by
  refine ⟨by decide, ⟨fun k x h => ?_, by decide⟩, fun s hs => by rw [show liveF [headN] = [] by decide] at hs; simp at hs, by decide, .inl ⟨rfl, rfl⟩⟩
  rcases k with _ | k
  · obtain rfl : headN = x := by simpa using h
    decide
  · simp at h
theorem ck1 (links : Int) : CheckP bl1 0 0 links := by
  refine ⟨by decide, ⟨fun k x h => ?_, by decide⟩, fun s hs => ?_, by decide, .inl ⟨rfl, rfl⟩⟩
  · rcases k with _ | _ | k
    · obtain rfl : (((0, [], 0), 0, [], 1, 1) : NodeP) = x := by simpa [bl1] using h
      decide
    · obtain rfl : (((7, [4], 1), 0, [[]], 0, 0) : NodeP) = x := by simpa [bl1] using h
      decide
    · simp [bl1] at h
  · rw [show liveF bl1 = [1] by decide] at hs
    obtain rfl : s = 1 := by simpa using hs
    exact node0 (by decide) (by decide)
theorem ck2 (links : Int) : CheckP bl2 0 0 links := by
  refine ⟨by decide, ⟨fun k x h => ?_, by decide⟩, fun s hs => ?_, by decide, .inl ⟨rfl, rfl⟩⟩
  · rcases k with _ | _ | _ | k
    · obtain rfl : (((0, [], 0), 0, [], 2, 1) : NodeP) = x := by simpa [bl2] using h
      decide
    · obtain rfl : (((7, [4], 1), 0, [[]], 0, 2) : NodeP) = x := by simpa [bl2] using h
      decide
    · obtain rfl : (((8, [1], 0), 0, [[]], 1, 0) : NodeP) = x := by simpa [bl2] using h
      decide
    · simp [bl2] at h
  · rw [show liveF bl2 = [1, 2] by decide] at hs
    have : s = 1 ∨ s = 2 := by simpa using hs
    rcases this with rfl | rfl <;> exact node0 (by decide) (by decide)
theorem start_no {ns : List NodeP} {q : List Int} {l : List Int} (h : StartR ns q 0 0 l) : l = nearF ns 0 0 := by
  obtain ⟨d, h⟩ := h
  rw [if_neg (by unfold thereF; simp)] at h
  exact h
/-- a search in the plane of two -/
theorem bl_all {K : Nat} (hK : 2 ≤ K) {mask : Int} {l : List Int} (hs : StartR bl2 [0] 0 0 l) {t : PrS} {c : Nat} (h : LookR bl2 [0] mask K 0 (offL bl2 [0] mask K noS l) t c) : c = 2 ∧ ∀ k, (t.2.2.take k).map (·.1) = (hitsM [0] mask [(7, [4], 1), (8, [1], 0)]).take k := by
  have e := start_no hs
  have hl : liveF bl2 = [1, 2] := by decide
  obtain ⟨dn, h1, h2, h3, h4, h5⟩ := know_all (ck2 0) (l := l) (fun x hx => e ▸ hx) (by rw [hl]; exact hK) h
  refine ⟨?_, fun k => ?_⟩
  · have := h4.length_eq
    have := h5.length_eq
    rw [hl] at *
    simp at *
    omega
  · have := found_all h1 h4 (by rw [hl]; exact hK) k
    rw [hl] at this
    exact this
theorem srtH_is {l m : List Hit} (h : m.Perm l) (hp : m.Pairwise fun a b => hitLt b a = false) : srtH l = m := (srt_eq swoH totH h hp).symm
theorem bl_h0 : hitsM [0] 0 [(7, [4], 1), (8, [1], 0)] = [(1, 8), (16, 7)] := by
  unfold hitsM
  rw [show cntM [0] 0 [(7, [4], 1), (8, [1], 0)] = [(16, 7), (1, 8)] by decide]
  exact srtH_is (List.Perm.swap _ _ _) (by decide)
theorem bl_h1 : hitsM [0] 1 [(7, [4], 1), (8, [1], 0)] = [(16, 7)] := by
  unfold hitsM
  rw [show cntM [0] 1 [(7, [4], 1), (8, [1], 0)] = [(16, 7)] by decide]
  exact srtH_is (List.Perm.refl _) (by decide)
theorem srtS1 (x : Spt) : srtS [x] = [x] := (srtS_eq (List.Perm.refl _) (by simp)).symm
/-- a look around from one slot, with room for one -/
theorem bl_one {t : PrS} {c : Nat} (h : LookR bl2 [0] 0 1 1 (offL bl2 [0] 0 1 noS [1]) t c) : t.2.2 = [((16, 7), 1)] := by
  have e : offL bl2 [0] 0 1 noS [1] = ([1], [((16, 7), 1)], [((16, 7), 1)]) := by
    show offS bl2 [0] 0 1 noS 1 = _
    unfold offS
    rw [if_pos (by decide)]
    have hsp : spotF bl2 [0] 1 = ((16, 7), 1) := by decide
    rw [hsp]
    unfold offKn offWt offBs noS
    simp only [List.not_mem_nil, if_false, List.nil_append, srtS1]
    rw [if_pos (by decide)]
    have := off_best (k := 1) [] ((16, 7), 1)
    rw [srtS_nilP] at this
    simp only [List.take_nil, List.nil_append, srtS1] at this
    rw [this]; rfl
  rw [e] at h
  have h2 : LookR bl2 [0] 0 1 1 ([1], [((16, 7), 1)], [((16, 7), 1)]) ([1], [], [((16, 7), 1)]) 1 := by
    refine .more _ _ 0 (by decide) ?_
    rw [show nearF bl2 (fstS [((16, 7), (1 : Int))]).2 1 = [] by decide]
    exact .stop _ (by decide)
  rw [(h.same h2).1]
/-- a search in the plane of none -/
theorem bl_none {K : Nat} {mask : Int} {l : List Int} (hs : StartR [headN] [0] 0 0 l) {t : PrS} {c : Nat} (h : LookR [headN] [0] mask K 0 (offL [headN] [0] mask K noS l) t c) : c = 0 ∧ t.2.2 = [] := by
  have e := start_no hs
  rw [show nearF [headN] 0 0 = [] by decide] at e
  subst e
  have h2 : LookR [headN] [0] mask K 0 noS noS 0 := .stop _ (by unfold doneR noS; rfl)
  obtain ⟨h3, h4⟩ := LookR.same (s := noS) h h2
  exact ⟨h4, by rw [h3]; rfl⟩
end Go.Proofs.YtphbdffgeeicaabGreat

/-
  lives of the law's package beam. No condition.
-/
namespace Go.Proofs.YtphbdffgeeicaabGreat
set_option linter.unusedSimpArgs false
set_option linter.unusedVariables false
open Go.RowKit

theorem small_bl {x : NodeP} {ns : List NodeP} (hn : ns = [headN] ∨ ns = bl1 ∨ ns = bl2) (h : x ∈ ns) : OkN x ∧ SmN x ∧ (Lit.int .u64 x.1.1).wf = true := by
  have h2 : x = headN ∨ x = ((0, [], 0), 0, [], 1, 1) ∨ x = ((7, [4], 1), 0, [[]], 0, 0) ∨ x = ((0, [], 0), 0, [], 2, 1) ∨ x = ((7, [4], 1), 0, [[]], 0, 2) ∨ x = ((8, [1], 0), 0, [[]], 1, 0) := by
    rcases hn with rfl | rfl | rfl
    · simp at h; simp [h]
    · simp [bl1] at h; rcases h with rfl | rfl <;> simp
    · simp [bl2] at h; rcases h with rfl | rfl | rfl <;> simp
  rcases h2 with rfl | rfl | rfl | rfl | rfl | rfl <;> refine ⟨⟨fun y hy => ?_, fun l hl y hy => ?_, by decide, by decide⟩, ⟨by decide, by decide, fun l hl => ?_⟩, by decide⟩ <;> simp [headN] at * <;> (try subst hl) <;> (try simp at hy) <;> (try subst hy) <;> (try simp) <;> (try omega)
theorem pl_bl {w W : World} {Z : Nat → Prop} {A : Option Addr} {n c : Nat} {ns : List NodeP} (h : OwnR w Z A n c ns W) (hn : ns = [headN] ∨ ns = bl1 ∨ ns = bl2) (hl : ns.length = n) (h20 : n ≤ 20) : PlN W A n ns :=
  h.pl hl (fun x hx => (small_bl hn hx).1) (fun x hx => (small_bl hn hx).2.1) h20 fun x hx => (small_bl hn hx).2.2
theorem PlN.plw {w : World} {N : Option Addr} {nn : Nat} {ns : List NodeP} (h : PlN w N nn ns) {Aq : Option Addr} {nq cq : Nat} {qs : List Int} (hq : Rd (Sh.int .i32) w w.heap.size Aq qs) (hl : qs.length = nq) (h1 : nq ≤ cq) (h2 : cq ≤ 9223372036854775807) (hi : I32 qs) : PlW w N nn ns Aq nq cq qs := ⟨h.nd, h.len, h.ok, h.sm, h.n20, hq, hl, h1, h2, hi⟩
theorem bl1_ids : ∀ s ∈ liveF bl1, idF bl1 s ≠ 8 := by
  rw [show liveF bl1 = [1] by decide]
  intro s hs
  obtain rfl : s = 1 := by simpa using hs
  decide
section
variable {W : World} {N Aq A : Option Addr} {cN cq c : Nat}
theorem blPut1 (h : PlN W N 1 [headN]) (hq : Rd (Sh.int .i32) W W.heap.size Aq [4]) : Calls Tryz.prog 16 #[.agg #[.slice N 1 cN, .int .i64 0, .int .i64 0], .agg #[.int .u64 7, .slice Aq 1 1, .int .u64 1], .int .i64 0, .int .i64 2] W fun e w' => ∃ A c, e = .returned (.tuple #[.agg #[.slice A 2 c, .int .i64 0, .int .i64 0], .int .i64 1, .int .i64 0]) ∧ PlN w' A 2 bl1 ∧ Below W.heap.size W w' := by
  refine (put_any h (ck0 2) (id := 7) (tg := 1) (nv := 1) hq rfl (by omega) (by rw [show liveF [headN] = [] by decide]; simp) (by decide) (by omega)).mono ?_
  rintro e w' ⟨A, c, rfl, ho⟩
  rw [put_bl1] at ho
  exact ⟨A, c, rfl, pl_bl ho (.inr (.inl rfl)) rfl (by omega), ho.bel⟩
theorem blPut2 (h : PlN W N 2 bl1) (hq : Rd (Sh.int .i32) W W.heap.size Aq [1]) : Calls Tryz.prog 16 #[.agg #[.slice N 2 cN, .int .i64 0, .int .i64 0], .agg #[.int .u64 8, .slice Aq 1 1, .int .u64 0], .int .i64 0, .int .i64 2] W fun e w' => ∃ A c, e = .returned (.tuple #[.agg #[.slice A 3 c, .int .i64 0, .int .i64 0], .int .i64 2, .int .i64 0]) ∧ PlN w' A 3 bl2 ∧ Below W.heap.size W w' := by
  refine (put_any h (ck1 2) (id := 8) (tg := 0) (nv := 1) hq rfl (by omega) bl1_ids (by decide) (by omega)).mono ?_
  rintro e w' ⟨A, c, rfl, ho⟩
  rw [put_bl2] at ho
  exact ⟨A, c, rfl, pl_bl ho (.inr (.inr rfl)) rfl (by omega), ho.bel⟩
theorem blSearch (h : PlW W N 3 bl2 Aq 1 cq [0]) (mask kk ef : Int) (r : List Hit) (n : Nat) (hK : 2 ≤ mostB (max kk ef)) (hr : (hitsM [0] mask [(7, [4], 1), (8, [1], 0)]).take kk.toNat = r) (hn : r.length = n) : Calls Tryz.prog 12 #[.agg #[.slice N 3 cN, .int .i64 0, .int .i64 0], .slice Aq 1 cq, .int .u64 mask, .int .i64 kk, .int .i64 ef] W fun e w' => ∃ A c, e = .returned (.slice A n c) ∧ n ≤ c ∧ c ≤ 9223372036854775807 ∧ Rd SH w' w'.heap.size A r ∧ Below W.heap.size W w' := by
  refine (bSearch_any h (by omega) kk (mask := mask) (ef := ef) (en := 0) (top := 0)).mono ?_
  rintro e w' ⟨l, t, k, A, n', c, rfl, h1, h2, h3, h4, h5, h6, h7, h8⟩
  rw [(bl_all hK h1 h2).2, hr] at h3 h7
  obtain rfl : n = n' := hn.symm.trans h3
  exact ⟨A, c, rfl, h5, h6, h7.rd fun d hd => hd.2, h8⟩
theorem blAround (h : PlW W N 3 bl2 Aq 1 cq [0]) {Al : Option Addr} (hl : Rd (Sh.int .i64) W W.heap.size Al [1]) : Calls Tryz.prog 7 #[.agg #[.slice N 3 cN, .int .i64 0, .int .i64 0], .slice Aq 1 cq, .int .u64 0, .int .i64 1, .slice Al 1 1, .int .i64 1] W fun e w' => ∃ A c, e = .returned (.slice A 1 c) ∧ 1 ≤ c ∧ c ≤ 9223372036854775807 ∧ Rd SP w' w'.heap.size A [((16, 7), 1)] ∧ Below W.heap.size W w' := by
  refine (around_any h (by omega) (nl := 1) hl rfl (by omega) (level := 1) (mask := 0) (ef := 1) (en := 0) (top := 0)).mono ?_
  rintro e w' ⟨l, t, k, A, n', c, rfl, rfl, h2, h3, h4, h5, h6, h7, h8⟩
  rw [show mostB 1 = 1 from rfl] at h2
  rw [bl_one h2] at h3 h7
  obtain rfl : 1 = n' := h3
  exact ⟨A, c, rfl, h5, h6, h7.rd fun d hd => hd.2, h8⟩
theorem blCost (h : PlW W N 3 bl2 Aq 1 cq [0]) : Calls Tryz.prog 14 #[.agg #[.slice N 3 cN, .int .i64 0, .int .i64 0], .slice Aq 1 cq, .int .u64 0, .int .i64 9] W fun e w' => e = .returned (.int .i64 2) ∧ Below W.heap.size W w' := by
  refine (bCost_any h (by omega) (mask := 0) (ef := 9) (en := 0) (top := 0)).mono ?_
  rintro e w' ⟨l, t, k, rfl, h1, h2, h3⟩
  rw [(bl_all (by decide) h1 h2).1]
  exact ⟨rfl, h3⟩
theorem blCost0 (h : PlW W N 1 [headN] Aq 1 cq [0]) : Calls Tryz.prog 14 #[.agg #[.slice N 1 cN, .int .i64 0, .int .i64 0], .slice Aq 1 cq, .int .u64 0, .int .i64 9] W fun e w' => e = .returned (.int .i64 0) ∧ Below W.heap.size W w' := by
  refine (bCost_any h (by omega) (mask := 0) (ef := 9) (en := 0) (top := 0)).mono ?_
  rintro e w' ⟨l, t, k, rfl, h1, h2, h3⟩
  rw [(bl_none h1 h2).1]
  exact ⟨rfl, h3⟩
theorem blFind0 (h : PlW W N 1 [headN] Aq 1 cq [0]) : Calls Tryz.prog 9 #[.agg #[.slice N 1 cN, .int .i64 0, .int .i64 0], .slice Aq 1 cq, .int .u64 0, .int .i64 9] W fun e w' => ∃ A c, e = .returned (.slice A 0 c) ∧ Below W.heap.size W w' := by
  refine (bFind_any h (by omega) (mask := 0) (ef := 9) (en := 0) (top := 0)).mono ?_
  rintro e w' ⟨l, t, k, A, n', c, rfl, h1, h2, h3, h4, h5, h6, h7, h8⟩
  rw [(bl_none h1 h2).2] at h3
  obtain rfl : 0 = n' := h3
  exact ⟨A, c, rfl, h8⟩
theorem blSameH (g : Nat) (n : Nat) (l : List Hit) (cs : Array Value) (hx : Rd SH W W.heap.size A l) (hn : l.length = n) (hc : n ≤ c) (hm : c ≤ 9223372036854775807) (h6 : n ≤ 1000) (hg : Blk W g 49 cs) (he : cs.toList = fcs encH l) :
    Calls Tryz.prog 11 #[.slice A n c, .slice (some ⟨g, 0, none⟩) n n] W fun e w' => e = .returned (.bool true) ∧ Below W.heap.size W w' :=
  (sameHits_any A (some ⟨g, 0, none⟩) n c n n l l W hx hn hc hm (flatH.blk hg he) hn (Nat.le_refl _) (by omega)).mono fun _ _ ⟨h, hd⟩ => ⟨by rw [h]; simp, hd.below⟩
theorem blSame (g : Nat) (n : Nat) (l : List Spt) (cs : Array Value) (hx : Rd SP W W.heap.size A l) (hn : l.length = n) (hc : n ≤ c) (hm : c ≤ 9223372036854775807) (h6 : n ≤ 1000) (hg : Blk W g 51 cs) (he : cs.toList = fcs encS l) :
    Calls Tryz.prog 6 #[.slice A n c, .slice (some ⟨g, 0, none⟩) n n] W fun e w' => e = .returned (.bool true) ∧ Below W.heap.size W w' :=
  (same_any A (some ⟨g, 0, none⟩) n c n n l l W hx hn hc hm (flatS.blk hg he) hn (Nat.le_refl _) (by omega)).mono fun _ _ ⟨h, hd⟩ => ⟨by rw [h]; simp, hd.below⟩
end
end Go.Proofs.YtphbdffgeeicaabGreat

/-
  lives of the law's package beam. No condition.
-/
namespace Go.Proofs.YtphbdffgeeicaabGreat
set_option linter.unusedSimpArgs false
set_option linter.unusedVariables false
open Go.RowKit

theorem plane_stored (w : World) (v : Value) : Blk ((((w.alloc (.cells #[.slice none 0 0, .int .i64 0, .int .i64 0] 24)).setCell ⟨w.heap.size, 0, none⟩ v).setCell ⟨w.heap.size, 1, none⟩ (.int .i64 0)).setCell ⟨w.heap.size, 2, none⟩ (.int .i64 0)) w.heap.size 24 #[v, .int .i64 0, .int .i64 0] ∧ Below w.heap.size w ((((w.alloc (.cells #[.slice none 0 0, .int .i64 0, .int .i64 0] 24)).setCell ⟨w.heap.size, 0, none⟩ v).setCell ⟨w.heap.size, 1, none⟩ (.int .i64 0)).setCell ⟨w.heap.size, 2, none⟩ (.int .i64 0)) := by
  have h := (((Blk.new w 24 #[.slice none 0 0, .int .i64 0, .int .i64 0]).set_ 0 v).set_ 1 (.int .i64 0)).set_ 2 (.int .i64 0)
  simp only [List.setIfInBounds_toArray, List.set_cons_zero, List.set_cons_succ] at h
  exact ⟨h, (((below1 w _).setCell (Nat.le_refl _) _).setCell (Nat.le_refl _) _).setCell (Nat.le_refl _) _⟩
/-- the plane's variable, the plane, a vector -/
structure BL (w : World) (b : Nat) (N : Option Addr) (cN : Nat) (Aq : Option Addr) (W : World) : Prop where
  bel : Below w.heap.size w W
  p : Blk W b 24 #[.slice N 3 cN, .int .i64 0, .int .i64 0]
  pl : PlW W N 3 bl2 Aq 1 1 [0]
theorem BL.step {w W W' : World} {b : Nat} {N Aq : Option Addr} {cN : Nat} (h : BL w b N cN Aq W) (hb : Below W.heap.size W W') : BL w b N cN Aq W' := ⟨Below.step h.bel hb, h.p.below hb h.p.lt, h.pl.at_ hb⟩
theorem BL.cells {w W : World} {b : Nat} {N Aq : Option Addr} {cN : Nat} (h : BL w b N cN Aq W) : W.cell? ⟨b, 0, none⟩ = some (.slice N 3 cN) ∧ W.cell? ⟨b, 1, none⟩ = some (.int .i64 0) ∧ W.cell? ⟨b, 2, none⟩ = some (.int .i64 0) := h.p.cell3
set_option maxHeartbeats 8000000 in
set_option maxRecDepth 100000 in
theorem lives_any (w : World) : Calls Tryz.prog 5 #[] w fun e w' => e = .returned (.bool true) ∧ Below w.heap.size w w' := by
  go_enter Tryz.func5, Tryz.ntmps5
  go_wp2_with fail
  refine (pNew_any _).mono ?_
  rintro e w1 ⟨g1, c1, rfl, ho⟩
  have HP := hide (pl_bl ho (.inl rfl) rfl (by omega))
  have HB := hide ho.bel
  clear ho
  go_wp2_with fail
  have hb := below1 w1 (.cells #[.int .i32 4] 21)
  have HQ := hide ((flatInt .i32).blk (l := [4]) (Blk.new w1 21 #[.int .i32 4]) rfl)
  replace HP := hide (HP.out.at_ hb)
  replace HB := hide (Below.step HB.out hb)
  clear hb
  generalize World.alloc w1 _ = w2 at *
  generalize w1.heap.size = gq1 at *
  refine (blPut1 HP.out HQ.out).mono ?_
  rintro e w3 ⟨A3, c3, rfl, hp, hb⟩
  replace HP := hide hp
  replace HB := hide (Below.step HB.out hb)
  clear hp hb HQ
  go_upto_region 2 with fail
  have hb := below1 w3 (.cells #[.slice A3 2 c3, .int .i64 0, .int .i64 0] 24)
  have hq := Blk.new w3 24 #[.slice A3 2 c3, .int .i64 0, .int .i64 0]
  replace HP := hide (HP.out.at_ hb)
  replace HB := hide (Below.step HB.out hb)
  have HV := hide hq
  clear hq hb
  generalize World.alloc w3 _ = w4 at *
  generalize w3.heap.size = b1 at *
  obtain ⟨p0, p1, p2⟩ := HV.out.cell3
  go_wp2_with fail
  have hb := below1 w4 (.cells #[.int .i32 1] 21)
  have HQ := hide ((flatInt .i32).blk (l := [1]) (Blk.new w4 21 #[.int .i32 1]) rfl)
  replace HP := hide (HP.out.at_ hb)
  replace HB := hide (Below.step HB.out hb)
  clear hb p0 p1 p2 HV
  generalize World.alloc w4 _ = w5 at *
  generalize w4.heap.size = gq2 at *
  refine (blPut2 HP.out HQ.out).mono ?_
  rintro e w6 ⟨A6, c6, rfl, hp, hb⟩
  replace HP := hide hp
  replace HB := hide (Below.step HB.out hb)
  clear hp hb HQ
  go_upto_region 3 with fail
  have hb := below1 w6 (.cells #[.slice A6 3 c6, .int .i64 0, .int .i64 0] 24)
  have hq := Blk.new w6 24 #[.slice A6 3 c6, .int .i64 0, .int .i64 0]
  replace HP := hide (HP.out.at_ hb)
  replace HB := hide (Below.step HB.out hb)
  have HV := hide hq
  clear hq hb
  generalize World.alloc w6 _ = w7 at *
  generalize w6.heap.size = b4 at *
  go_upto_region 4 with fail
  have hb := below1 w7 (.cells #[.int .i32 0] 21)
  have HL := hide (show BL w b4 A6 c6 (some ⟨w7.heap.size, 0, none⟩) (w7.alloc (.cells #[.int .i32 0] 21)) from ⟨Below.step HB.out hb, HV.out.below hb HV.out.lt, (HP.out.at_ hb).plw ((flatInt .i32).blk (l := [0]) (Blk.new w7 21 #[.int .i32 0]) rfl) rfl (by omega) (by omega) (fun y hy => by obtain rfl := List.mem_singleton.1 hy; omega)⟩)
  clear hb HP HB HV
  generalize World.alloc w7 _ = w8 at *
  generalize w7.heap.size = gq at *
  obtain ⟨p0, p1, p2⟩ := HL.out.cells
  go_wp2_with fail
  refine (blSearch HL.out.pl 0 2 0 [(1, 8), (16, 7)] 2 (by decide) (by rw [bl_h0]; decide) rfl).mono ?_
  rintro e w9 ⟨A9, c9, rfl, q1, q2, hr, hb⟩
  replace HL := hide (HL.out.step hb)
  have HR := hide hr
  clear hr hb p0 p1 p2
  obtain ⟨p0, p1, p2⟩ := HL.out.cells
  go_wp2_with fail
  have hb := below1 w9 (.cells #[.int .u64 1, .int .u64 8, .int .u64 16, .int .u64 7] 49)
  have HG := hide (Blk.new w9 49 #[.int .u64 1, .int .u64 8, .int .u64 16, .int .u64 7])
  replace HL := hide (HL.out.step hb)
  replace HR := hide (HR.out.at_world hb)
  clear hb p0 p1 p2
  generalize World.alloc w9 _ = w10 at *
  generalize w9.heap.size = gh9 at *
  refine (blSameH gh9 2 _ _ HR.out rfl q1 q2 (by omega) HG.out rfl).mono ?_
  rintro e w11 ⟨rfl, hb⟩
  replace HL := hide (HL.out.step hb)
  clear hb HR HG q1 q2
  obtain ⟨p0, p1, p2⟩ := HL.out.cells
  go_wp2_with fail
  refine (blSearch HL.out.pl 1 2 2 [(16, 7)] 1 (by decide) (by rw [bl_h1]; decide) rfl).mono ?_
  rintro e w12 ⟨A9, c9, rfl, q1, q2, hr, hb⟩
  replace HL := hide (HL.out.step hb)
  have HR := hide hr
  clear hr hb p0 p1 p2
  obtain ⟨p0, p1, p2⟩ := HL.out.cells
  go_wp2_with fail
  have hb := below1 w12 (.cells #[.int .u64 16, .int .u64 7] 49)
  have HG := hide (Blk.new w12 49 #[.int .u64 16, .int .u64 7])
  replace HL := hide (HL.out.step hb)
  replace HR := hide (HR.out.at_world hb)
  clear hb p0 p1 p2
  generalize World.alloc w12 _ = w13 at *
  generalize w12.heap.size = gh12 at *
  refine (blSameH gh12 1 _ _ HR.out rfl q1 q2 (by omega) HG.out rfl).mono ?_
  rintro e w14 ⟨rfl, hb⟩
  replace HL := hide (HL.out.step hb)
  clear hb HR HG q1 q2
  obtain ⟨p0, p1, p2⟩ := HL.out.cells
  go_wp2_with fail
  refine (blSearch HL.out.pl 0 (-1) 9 [] 0 (by decide) (by rw [bl_h0]; decide) rfl).mono ?_
  rintro e w15 ⟨A9, c9, rfl, q1, q2, hr, hb⟩
  replace HL := hide (HL.out.step hb)
  have HR := hide hr
  clear hr hb p0 p1 p2
  clear HR
  obtain ⟨p0, p1, p2⟩ := HL.out.cells
  go_wp2_with fail
  have hb := below1 w15 (.cells #[.int .i64 1] 3)
  have HF := hide ((flatInt .i64).blk (l := [1]) (Blk.new w15 3 #[.int .i64 1]) rfl)
  replace HL := hide (HL.out.step hb)
  clear hb p0 p1 p2 q1 q2
  generalize World.alloc w15 _ = w16 at *
  generalize w15.heap.size = gf at *
  refine (blAround HL.out.pl HF.out).mono ?_
  rintro e w17 ⟨A9, c9, rfl, q1, q2, hr, hb⟩
  replace HL := hide (HL.out.step hb)
  have HR := hide hr
  clear hr hb HF
  obtain ⟨p0, p1, p2⟩ := HL.out.cells
  go_wp2_with fail
  have hb := below1 w17 (.cells #[.int .u64 16, .int .u64 7, .int .i64 1] 51)
  have HG := hide (Blk.new w17 51 #[.int .u64 16, .int .u64 7, .int .i64 1])
  replace HL := hide (HL.out.step hb)
  replace HR := hide (HR.out.at_world hb)
  clear hb p0 p1 p2
  generalize World.alloc w17 _ = w18 at *
  generalize w17.heap.size = gs at *
  refine (blSame gs 1 _ _ HR.out rfl q1 q2 (by omega) HG.out rfl).mono ?_
  rintro e w19 ⟨rfl, hb⟩
  replace HL := hide (HL.out.step hb)
  clear hb HR HG q1 q2
  obtain ⟨p0, p1, p2⟩ := HL.out.cells
  go_wp2_with fail
  refine (blCost HL.out.pl).mono ?_
  rintro e w20 ⟨rfl, hb⟩
  replace HL := hide (HL.out.step hb)
  clear hb p0 p1 p2
  go_wp2_with fail
  refine (pNew_any _).mono ?_
  rintro e w21 ⟨g1, c1, rfl, ho⟩
  have HP := hide ((pl_bl ho (.inl rfl) rfl (by omega)).plw (nq := 1) (cq := 1) (HL.out.step ho.bel).pl.q rfl (by omega) (by omega) HL.out.pl.qi)
  replace HL := hide (HL.out.step ho.bel)
  clear ho
  go_wp2_with fail
  refine (blCost0 HP.out).mono ?_
  rintro e w22 ⟨rfl, hb⟩
  replace HL := hide (HL.out.step hb)
  clear hb HP
  go_wp2_with fail
  refine (pNew_any _).mono ?_
  rintro e w23 ⟨g2, c2, rfl, ho⟩
  have HP := hide ((pl_bl ho (.inl rfl) rfl (by omega)).plw (nq := 1) (cq := 1) (HL.out.step ho.bel).pl.q rfl (by omega) (by omega) HL.out.pl.qi)
  replace HL := hide (HL.out.step ho.bel)
  clear ho
  go_wp2_with fail
  refine (blFind0 HP.out).mono ?_
  rintro e w24 ⟨A9, c9, rfl, hb⟩
  replace HL := hide (HL.out.step hb)
  clear hb HP
  go_wp2
  go_ret
  exact ⟨rfl, HL.out.bel⟩
end Go.Proofs.YtphbdffgeeicaabGreat
