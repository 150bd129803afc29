/-
  The package idmap: New. No condition.
-/
import Derived.Test.YtoadcfjkommlkaaIdmC
namespace Go.Proofs.Ytoadcfjkommlkaa
set_option linter.unusedSimpArgs false
set_option linter.unusedVariables false
open Go.RowKit

/-- a row of maps: some are made, m are not -/
def rowM (hs : List Nat) (m : Nat) : List Value := hs.map (fun h => Value.map (some h)) ++ List.replicate m (.map none)
theorem rowM_step (hs : List Nat) (h m : Nat) : (rowM hs (m + 1)).set hs.length (.map (some h)) = rowM (hs ++ [h]) m := by
  simp [rowM, List.replicate_succ, List.set_append_right]
/-- while New goes on: M the object, g the row, hs the maps that are made, m to come -/
structure NewI (w wr : World) (M g n : Nat) (hs : List Nat) (m : Nat) : Prop where
  obj : Blk wr M 59 #[.slice (some ⟨g, 0, none⟩) n n, .int .i64 0]
  row : Blk wr g 60 (rowM hs m).toArray
  maps : ∀ h ∈ hs, MapA .u64 encR wr h ([] : List (Int × RefV))
  lo : ∀ h ∈ hs, w.heap.size ≤ h
  nd : hs.Nodup
  bel : Below w.heap.size w wr
  loM : w.heap.size ≤ M
  log : w.heap.size ≤ g
theorem NewI.step {w wr : World} {M g n m : Nat} {hs : List Nat} (h : NewI w wr M g n hs (m + 1)) : NewI w ((wr.setCell ⟨g, hs.length, none⟩ (.map (some wr.heap.size))).alloc (.map #[] 0)) M g n (hs ++ [wr.heap.size]) m := by
  have hgl := h.row.lt
  have hMl := h.obj.lt
  have hgM : M ≠ g := h.obj.ne_ h.row (by decide)
  have hB1 := h.bel.setCell (p := ⟨g, hs.length, none⟩) h.log (.map (some wr.heap.size))
  have hs1 : (wr.setCell ⟨g, hs.length, none⟩ (.map (some wr.heap.size))).heap.size = wr.heap.size := by simp
  have o1 := h.obj.far (p := ⟨g, hs.length, none⟩) (fun e => hgM e) (.map (some wr.heap.size))
  have r1 := h.row.set_ hs.length (.map (some wr.heap.size))
  rw [show (rowM hs (m + 1)).toArray.setIfInBounds hs.length (.map (some wr.heap.size)) = (rowM (hs ++ [wr.heap.size]) m).toArray by rw [← rowM_step]; simp] at r1
  have m1 : ∀ x ∈ hs, MapA .u64 encR (wr.setCell ⟨g, hs.length, none⟩ (.map (some wr.heap.size))) x ([] : List (Int × RefV)) := fun x hx => (h.maps x hx).block (Below.heap_setCell _ _ _ _ (by
    show x ≠ g
    rintro rfl
    obtain ⟨es, cl, h1, _⟩ := h.maps x hx
    have hq := h.row
    unfold Blk at hq
    rw [h1] at hq
    cases hq))
  have lo := h.lo
  have nd := h.nd
  have hlt : ∀ x ∈ hs, x < wr.heap.size := fun x hx => (h.maps x hx).lt
  have hsz := h.bel.size
  have hlM := h.loM
  have hlg := h.log
  clear h
  generalize wr.setCell ⟨g, hs.length, none⟩ (.map (some wr.heap.size)) = w1 at *
  generalize wr.heap.size = q at *
  have hb := below1 w1 (.map #[] 0)
  refine ⟨o1.below hb o1.lt, r1.below hb r1.lt, fun x hx => ?_, fun x hx => ?_, ?_, Below.step hB1 hb, hlM, hlg⟩
  · rcases List.mem_append.1 hx with hx | hx
    · exact (m1 x hx).below hb (m1 x hx).lt
    · rw [List.mem_singleton.1 hx, ← hs1]; exact MapA.new w1
  · rcases List.mem_append.1 hx with hx | hx
    · exact lo x hx
    · rw [List.mem_singleton.1 hx]; exact hsz
  · refine List.nodup_append.2 ⟨nd, by simp, fun a ha b hb2 e => ?_⟩
    rw [List.mem_singleton.1 hb2] at e
    have := hlt a ha
    omega
theorem NewI.done {w wr : World} {M g n : Nat} {hs : List Nat} (h : NewI w wr M g n hs 0) (hl : hs.length = n) (h1 : 0 < n) (h2 : n ≤ 64) : IdAt wr w.heap.size M g hs (List.replicate n []) 0 := by
  subst hl
  refine ⟨h.obj, by have := h.row; unfold rowM at this; simpa using this, by simp, fun i hh l h3 h4 => ?_, h.nd, h.loM, h.log, h.lo, h1, h2, fun i l h3 p hp => ?_⟩
  · have e : l = [] := by
      have := List.mem_of_getElem? h4
      exact (List.mem_replicate.1 this).2
    subst e
    exact h.maps hh (List.mem_of_getElem? h3)
  · have e : l = [] := (List.mem_replicate.1 (List.mem_of_getElem? h3)).2
    subst e
    simp at hp
set_option maxHeartbeats 2000000 in
theorem new_bad (n : Int) (hn : n < 1 ∨ 64 < n) (w : World) : Calls Try.prog 6 #[.int .i64 n] w fun e w' => e = .returned (.tuple #[.pointer none, .int .i64 6]) ∧ w = w' := by
  by_cases h1 : n < 1
  · have b1 : decide (n < 1) = true := decide_eq_true h1
    clear hn
    go_enter Try.func6, Try.ntmps6
    go_wp2
    go_ret2
    exact ⟨rfl, rfl⟩
  · have b1 : decide (n < 1) = false := decide_eq_false h1
    have h2 : 64 < n := by omega
    have b2 : decide (64 < n) = true := decide_eq_true h2
    clear hn
    go_enter Try.func6, Try.ntmps6
    go_wp2
    go_ret2
    exact ⟨rfl, rfl⟩
set_option maxHeartbeats 2000000 in
theorem new_any (n : Nat) (h1 : 1 ≤ n) (h2 : n ≤ 64) (w : World) : Calls Try.prog 6 #[.int .i64 n] w fun e w' => ∃ M g hs, e = .returned (.tuple #[.pointer (some ⟨M, 0, none⟩), .int .i64 0]) ∧ IdAt w' w.heap.size M g hs (List.replicate n []) 0 ∧ hs.length = n ∧ Below w.heap.size w w' := by
  have hmm := @run_makeMap Try.prog
  have hmk : (Instr.makeSlice 57 (.int .i64 (n : Int)) (.int .i64 (n : Int))).run Try.prog w = .ok (.slice (some ⟨w.heap.size, 0, none⟩) n n) (w.alloc (.cells (rep n (.map none)) 60)) :=
    run_make_rep (P := Try.prog) Try.underlying57 (e := 60) (z := .map none) (by_ := 8) (by kernel_rfl) rfl .i64 .i64 n n (by omega) (by omega) (by omega) w
  have b1 : ¬ ((n : Int) < 1) := by omega
  have b2 : decide ((n : Int) < 1) = false := decide_eq_false b1
  have b3 : ¬ ((64 : Int) < n) := by omega
  have b4 : decide ((64 : Int) < n) = false := decide_eq_false b3
  go_enter Try.func6, Try.ntmps6
  go_upto_region 4 with fail
  obtain ⟨k1, k2, kB⟩ := blk2 w (rep n (.map none)) #[.slice (some ⟨w.heap.size, 0, none⟩) n n, .int .i64 0] 60 59
  have HS := hide (show NewI w ((w.alloc (.cells (rep n (.map none)) 60)).alloc (.cells #[.slice (some ⟨w.heap.size, 0, none⟩) n n, .int .i64 0] 59)) (w.heap.size + 1) w.heap.size n [] n from
    ⟨k2, by rw [show (rowM [] n).toArray = rep n (.map none) by simp [rowM, rep]]; exact k1, by simp, by simp, by simp, kB, by omega, by omega⟩)
  clear k1 k2 kB hmk
  generalize World.alloc (World.alloc w _) _ = w2 at *
  generalize w.heap.size + 1 = M at *
  have z0 : w2.cell? ⟨M, 0, none⟩ = some (.slice (some ⟨w.heap.size, 0, none⟩) n n) := by rw [HS.out.obj.cell]; rfl
  go_wp2
  clear z0
  go_loopw [21] (fun i wr => ∃ (k : Nat) (hs : List Nat), k ≤ n ∧ i = .int .i64 k ∧ Hid (hs.length = k) ∧ Hid (NewI w wr M w.heap.size n hs (n - k))) (fun i _ => n - (intOf i).toNat)
  case atStart => exact ⟨0, [], by omega, rfl, hide rfl, HS⟩
  case round =>
    obtain ⟨k, hs, hk, rfl, Hl, HN⟩ := hrel
    clear HS
    have z0 : wr.cell? ⟨M, 0, none⟩ = some (.slice (some ⟨w.heap.size, 0, none⟩) n n) := by rw [HN.out.obj.cell]; rfl
    by_cases hlt : k < n
    · obtain ⟨m, hm⟩ : ∃ m, n - k = m + 1 := ⟨n - k - 1, by omega⟩
      rw [hm] at HN
      have y0 : wr.cell? ⟨w.heap.size, k, none⟩ = some (.map none) := by
        rw [HN.out.row.cell]
        have e := Hl.out
        subst e
        simp [rowM, List.replicate_succ]
      have f0 := HN.out.row.frozen k
      have hgl := HN.out.row.lt
      have hMl := HN.out.obj.lt
      have g1 : (k : Int) < n := by omega
      have g0 : (0 : Int) ≤ k := by omega
      have HE := hide (show n - (k + 1) = m by omega)
      have HSt := hide HN.out.step
      clear hm
      go_wp2
      go_roundw
      case rel => exact ⟨k + 1, hs ++ [wr.heap.size], by omega, by go_num, hide (by rw [List.length_append, Hl.out]; rfl), hide (by rw [HE.out]; have k := HSt.out; rwa [Hl.out] at k)⟩
      case measure => simp [intOf]; omega
    · obtain rfl : k = n := by omega
      rw [Nat.sub_self] at HN
      go_wp2
      go_ret2
      exact ⟨_, _, _, rfl, HN.out.done Hl.out (by omega) h2, Hl.out, HN.out.bel⟩
end Go.Proofs.Ytoadcfjkommlkaa
