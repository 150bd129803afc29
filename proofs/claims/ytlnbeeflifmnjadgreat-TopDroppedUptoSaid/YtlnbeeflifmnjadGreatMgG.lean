/-
  Texts of one part, put together. No condition.
-/
import Derived.Test.YtlnbeeflifmnjadGreatBmQ
import Derived.Test.YtlnbeeflifmnjadGreatMgF
import Derived.Test.YtlnbeeflifmnjadGreatMgC
import Derived.Test.YtlnbeeflifmnjadGreatHitS
/-
  Two small planes, plainly: that they are right, and what searches find there. No program in sight.
-/
namespace Go.Proofs.YtlnbeeflifmnjadGreat
set_option linter.unusedSimpArgs false
set_option linter.unusedVariables false

def bl1 : List NodeP := [((0, [], 0), 0, [], 1, 1), ((7, [4], 1), 0, [[]], 0, 0)]
def bl2 : List NodeP := [((0, [], 0), 0, [], 2, 1), ((7, [4], 1), 0, [[]], 0, 2), ((8, [1], 0), 0, [[]], 1, 0)]
theorem put_bl1 : putNs [headN] (7, [4], 1) = bl1 := by decide
theorem put_bl2 : putNs bl1 (8, [1], 0) = bl2 := by decide
theorem node0 {ns : List NodeP} {s links : Int} (h1 : (nodeF ns s).2.1 = 0) (h2 : (nodeF ns s).2.2.1 = [[]]) : nodeOk ns links s := by
  refine ⟨by omega, by omega, by rw [h2, h1]; rfl, fun lev hl => ?_⟩
  rw [h2] at hl
  obtain rfl : lev = 0 := by simpa using hl
  refine ⟨[], by rw [h2]; rfl, ⟨by simp, by simp, ?_⟩, by simp⟩
  unfold mostF
  simp
  omega
theorem ck0 (links : Int) : CheckP [headN] 0 0 links := by
  refine ⟨by decide, ⟨fun k x h => ?_, by decide⟩, fun s hs => by rw [show liveF [headN] = [] by decide] at hs; simp at hs, by decide, .inl ⟨rfl, rfl⟩⟩
  rcases k with _ | k
  · obtain rfl : headN = x := by simpa using h
    decide
  · simp at h
theorem ck1 (links : Int) : CheckP bl1 0 0 links := by
  refine ⟨by decide, ⟨fun k x h => ?_, by decide⟩, fun s hs => ?_, by decide, .inl ⟨rfl, rfl⟩⟩
  · rcases k with _ | _ | k
    · obtain rfl : (((0, [], 0), 0, [], 1, 1) : NodeP) = x := by simpa [bl1] using h
      decide
    · obtain rfl : (((7, [4], 1), 0, [[]], 0, 0) : NodeP) = x := by simpa [bl1] using h
      decide
    · simp [bl1] at h
  · rw [show liveF bl1 = [1] by decide] at hs
    obtain rfl : s = 1 := by simpa using hs
    exact node0 (by decide) (by decide)
theorem ck2 (links : Int) : CheckP bl2 0 0 links := by
  refine ⟨by decide, ⟨fun k x h => ?_, by decide⟩, fun s hs => ?_, by decide, .inl ⟨rfl, rfl⟩⟩
  · rcases k with _ | _ | _ | k
    · obtain rfl : (((0, [], 0), 0, [], 2, 1) : NodeP) = x := by simpa [bl2] using h
      decide
    · obtain rfl : (((7, [4], 1), 0, [[]], 0, 2) : NodeP) = x := by simpa [bl2] using h
      decide
    · obtain rfl : (((8, [1], 0), 0, [[]], 1, 0) : NodeP) = x := by simpa [bl2] using h
      decide
    · simp [bl2] at h
  · rw [show liveF bl2 = [1, 2] by decide] at hs
    have : s = 1 ∨ s = 2 := by simpa using hs
    rcases this with rfl | rfl <;> exact node0 (by decide) (by decide)
theorem start_no {ns : List NodeP} {q : List Int} {l : List Int} (h : StartR ns q 0 0 l) : l = nearF ns 0 0 := by
  obtain ⟨d, h⟩ := h
  rw [if_neg (by unfold thereF; simp)] at h
  exact h
/-- a search in the plane of two -/
theorem bl_all {K : Nat} (hK : 2 ≤ K) {mask : Int} {l : List Int} (hs : StartR bl2 [0] 0 0 l) {t : PrS} {c : Nat} (h : LookR bl2 [0] mask K 0 (offL bl2 [0] mask K noS l) t c) : c = 2 ∧ ∀ k, (t.2.2.take k).map (·.1) = (hitsM [0] mask [(7, [4], 1), (8, [1], 0)]).take k := by
  have e := start_no hs
  have hl : liveF bl2 = [1, 2] := by decide
  obtain ⟨dn, h1, h2, h3, h4, h5⟩ := know_all (ck2 0) (l := l) (fun x hx => e ▸ hx) (by rw [hl]; exact hK) h
  refine ⟨?_, fun k => ?_⟩
  · have := h4.length_eq
    have := h5.length_eq
    rw [hl] at *
    simp at *
    omega
  · have := found_all h1 h4 (by rw [hl]; exact hK) k
    rw [hl] at this
    exact this
theorem srtH_is {l m : List Hit} (h : m.Perm l) (hp : m.Pairwise fun a b => hitLt b a = false) : srtH l = m := (srt_eq swoH totH h hp).symm
theorem bl_h0 : hitsM [0] 0 [(7, [4], 1), (8, [1], 0)] = [(1, 8), (16, 7)] := by
  unfold hitsM
  rw [show cntM [0] 0 [(7, [4], 1), (8, [1], 0)] = [(16, 7), (1, 8)] by decide]
  exact srtH_is (List.Perm.swap _ _ _) (by decide)
theorem bl_h1 : hitsM [0] 1 [(7, [4], 1), (8, [1], 0)] = [(16, 7)] := by
  unfold hitsM
  rw [show cntM [0] 1 [(7, [4], 1), (8, [1], 0)] = [(16, 7)] by decide]
  exact srtH_is (List.Perm.refl _) (by decide)
theorem srtS1 (x : Spt) : srtS [x] = [x] := (srtS_eq (List.Perm.refl _) (by simp)).symm
/-- a look around from one slot, with room for one -/
theorem bl_one {t : PrS} {c : Nat} (h : LookR bl2 [0] 0 1 1 (offL bl2 [0] 0 1 noS [1]) t c) : t.2.2 = [((16, 7), 1)] := by
  have e : offL bl2 [0] 0 1 noS [1] = ([1], [((16, 7), 1)], [((16, 7), 1)]) := by
    show offS bl2 [0] 0 1 noS 1 = _
    unfold offS
    rw [if_pos (by decide)]
    have hsp : spotF bl2 [0] 1 = ((16, 7), 1) := by decide
    rw [hsp]
    unfold offKn offWt offBs noS
    simp only [List.not_mem_nil, if_false, List.nil_append, srtS1]
    rw [if_pos (by decide)]
    have := off_best (k := 1) [] ((16, 7), 1)
    rw [srtS_nilP] at this
    simp only [List.take_nil, List.nil_append, srtS1] at this
    rw [this]; rfl
  rw [e] at h
  have h2 : LookR bl2 [0] 0 1 1 ([1], [((16, 7), 1)], [((16, 7), 1)]) ([1], [], [((16, 7), 1)]) 1 := by
    refine .more _ _ 0 (by decide) ?_
    rw [show nearF bl2 (fstS [((16, 7), (1 : Int))]).2 1 = [] by decide]
    exact .stop _ (by decide)
  rw [(h.same h2).1]
/-- a search in the plane of none -/
theorem bl_none {K : Nat} {mask : Int} {l : List Int} (hs : StartR [headN] [0] 0 0 l) {t : PrS} {c : Nat} (h : LookR [headN] [0] mask K 0 (offL [headN] [0] mask K noS l) t c) : c = 0 ∧ t.2.2 = [] := by
  have e := start_no hs
  rw [show nearF [headN] 0 0 = [] by decide] at e
  subst e
  have h2 : LookR [headN] [0] mask K 0 noS noS 0 := .stop _ (by unfold doneR noS; rfl)
  obtain ⟨h3, h4⟩ := LookR.same (s := noS) h h2
  exact ⟨h4, by rw [h3]; rfl⟩
end Go.Proofs.YtlnbeeflifmnjadGreat

/-
  lives of the law's package beam. No condition.
-/
namespace Go.Proofs.YtlnbeeflifmnjadGreat
set_option linter.unusedSimpArgs false
set_option linter.unusedVariables false
open Go.RowKit

theorem small_bl {x : NodeP} {ns : List NodeP} (hn : ns = [headN] ∨ ns = bl1 ∨ ns = bl2) (h : x ∈ ns) : OkN x ∧ SmN x ∧ (Lit.int .u64 x.1.1).wf = true := by
  have h2 : x = headN ∨ x = ((0, [], 0), 0, [], 1, 1) ∨ x = ((7, [4], 1), 0, [[]], 0, 0) ∨ x = ((0, [], 0), 0, [], 2, 1) ∨ x = ((7, [4], 1), 0, [[]], 0, 2) ∨ x = ((8, [1], 0), 0, [[]], 1, 0) := by
    rcases hn with rfl | rfl | rfl
    · simp at h; simp [h]
    · simp [bl1] at h; rcases h with rfl | rfl <;> simp
    · simp [bl2] at h; rcases h with rfl | rfl | rfl <;> simp
  rcases h2 with rfl | rfl | rfl | rfl | rfl | rfl <;> refine ⟨⟨fun y hy => ?_, fun l hl y hy => ?_, by decide, by decide⟩, ⟨by decide, by decide, fun l hl => ?_⟩, by decide⟩ <;> simp [headN] at * <;> (try subst hl) <;> (try simp at hy) <;> (try subst hy) <;> (try simp) <;> (try omega)
theorem pl_bl {w W : World} {Z : Nat → Prop} {A : Option Addr} {n c : Nat} {ns : List NodeP} (h : OwnR w Z A n c ns W) (hn : ns = [headN] ∨ ns = bl1 ∨ ns = bl2) (hl : ns.length = n) (h20 : n ≤ 20) : PlN W A n ns :=
  h.pl hl (fun x hx => (small_bl hn hx).1) (fun x hx => (small_bl hn hx).2.1) h20 fun x hx => (small_bl hn hx).2.2
theorem PlN.plw {w : World} {N : Option Addr} {nn : Nat} {ns : List NodeP} (h : PlN w N nn ns) {Aq : Option Addr} {nq cq : Nat} {qs : List Int} (hq : Rd (Sh.int .i32) w w.heap.size Aq qs) (hl : qs.length = nq) (h1 : nq ≤ cq) (h2 : cq ≤ 9223372036854775807) (hi : I32 qs) : PlW w N nn ns Aq nq cq qs := ⟨h.nd, h.len, h.ok, h.sm, h.n20, hq, hl, h1, h2, hi⟩
theorem bl1_ids : ∀ s ∈ liveF bl1, idF bl1 s ≠ 8 := by
  rw [show liveF bl1 = [1] by decide]
  intro s hs
  obtain rfl : s = 1 := by simpa using hs
  decide
section
variable {W : World} {N Aq A : Option Addr} {cN cq c : Nat}
theorem blPut1 (h : PlN W N 1 [headN]) (hq : Rd (Sh.int .i32) W W.heap.size Aq [4]) : Calls Tryz.prog 16 #[.agg #[.slice N 1 cN, .int .i64 0, .int .i64 0], .agg #[.int .u64 7, .slice Aq 1 1, .int .u64 1], .int .i64 0, .int .i64 2] W fun e w' => ∃ A c, e = .returned (.tuple #[.agg #[.slice A 2 c, .int .i64 0, .int .i64 0], .int .i64 1, .int .i64 0]) ∧ PlN w' A 2 bl1 ∧ Below W.heap.size W w' := by
  refine (put_any h (ck0 2) (id := 7) (tg := 1) (nv := 1) hq rfl (by omega) (by rw [show liveF [headN] = [] by decide]; simp) (by decide) (by omega)).mono ?_
  rintro e w' ⟨A, c, rfl, ho⟩
  rw [put_bl1] at ho
  exact ⟨A, c, rfl, pl_bl ho (.inr (.inl rfl)) rfl (by omega), ho.bel⟩
theorem blPut2 (h : PlN W N 2 bl1) (hq : Rd (Sh.int .i32) W W.heap.size Aq [1]) : Calls Tryz.prog 16 #[.agg #[.slice N 2 cN, .int .i64 0, .int .i64 0], .agg #[.int .u64 8, .slice Aq 1 1, .int .u64 0], .int .i64 0, .int .i64 2] W fun e w' => ∃ A c, e = .returned (.tuple #[.agg #[.slice A 3 c, .int .i64 0, .int .i64 0], .int .i64 2, .int .i64 0]) ∧ PlN w' A 3 bl2 ∧ Below W.heap.size W w' := by
  refine (put_any h (ck1 2) (id := 8) (tg := 0) (nv := 1) hq rfl (by omega) bl1_ids (by decide) (by omega)).mono ?_
  rintro e w' ⟨A, c, rfl, ho⟩
  rw [put_bl2] at ho
  exact ⟨A, c, rfl, pl_bl ho (.inr (.inr rfl)) rfl (by omega), ho.bel⟩
theorem blSearch (h : PlW W N 3 bl2 Aq 1 cq [0]) (mask kk ef : Int) (r : List Hit) (n : Nat) (hK : 2 ≤ mostB (max kk ef)) (hr : (hitsM [0] mask [(7, [4], 1), (8, [1], 0)]).take kk.toNat = r) (hn : r.length = n) : Calls Tryz.prog 10 #[.agg #[.slice N 3 cN, .int .i64 0, .int .i64 0], .slice Aq 1 cq, .int .u64 mask, .int .i64 kk, .int .i64 ef] W fun e w' => ∃ A c, e = .returned (.slice A n c) ∧ n ≤ c ∧ c ≤ 9223372036854775807 ∧ Rd SH w' w'.heap.size A r ∧ Below W.heap.size W w' := by
  refine (bSearch_any h (by omega) kk (mask := mask) (ef := ef) (en := 0) (top := 0)).mono ?_
  rintro e w' ⟨l, t, k, A, n', c, rfl, h1, h2, h3, h4, h5, h6, h7, h8⟩
  rw [(bl_all hK h1 h2).2, hr] at h3 h7
  obtain rfl : n = n' := hn.symm.trans h3
  exact ⟨A, c, rfl, h5, h6, h7.rd fun d hd => hd.2, h8⟩
theorem blAround (h : PlW W N 3 bl2 Aq 1 cq [0]) {Al : Option Addr} (hl : Rd (Sh.int .i64) W W.heap.size Al [1]) : Calls Tryz.prog 14 #[.agg #[.slice N 3 cN, .int .i64 0, .int .i64 0], .slice Aq 1 cq, .int .u64 0, .int .i64 1, .slice Al 1 1, .int .i64 1] W fun e w' => ∃ A c, e = .returned (.slice A 1 c) ∧ 1 ≤ c ∧ c ≤ 9223372036854775807 ∧ Rd SP w' w'.heap.size A [((16, 7), 1)] ∧ Below W.heap.size W w' := by
  refine (around_any h (by omega) (nl := 1) hl rfl (by omega) (level := 1) (mask := 0) (ef := 1) (en := 0) (top := 0)).mono ?_
  rintro e w' ⟨l, t, k, A, n', c, rfl, rfl, h2, h3, h4, h5, h6, h7, h8⟩
  rw [show mostB 1 = 1 from rfl] at h2
  rw [bl_one h2] at h3 h7
  obtain rfl : 1 = n' := h3
  exact ⟨A, c, rfl, h5, h6, h7.rd fun d hd => hd.2, h8⟩
theorem blFind0 (h : PlW W N 1 [headN] Aq 1 cq [0]) : Calls Tryz.prog 22 #[.agg #[.slice N 1 cN, .int .i64 0, .int .i64 0], .slice Aq 1 cq, .int .u64 0, .int .i64 9] W fun e w' => ∃ A c, e = .returned (.slice A 0 c) ∧ Below W.heap.size W w' := by
  refine (bFind_any h (by omega) (mask := 0) (ef := 9) (en := 0) (top := 0)).mono ?_
  rintro e w' ⟨l, t, k, A, n', c, rfl, h1, h2, h3, h4, h5, h6, h7, h8⟩
  rw [(bl_none h1 h2).2] at h3
  obtain rfl : 0 = n' := h3
  exact ⟨A, c, rfl, h8⟩
end
end Go.Proofs.YtlnbeeflifmnjadGreat
