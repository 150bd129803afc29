/-
  The package explore: Acts, and the equality of calls at the zero call. Condition: the slice reads as a list of ints.
-/
import Derived.Test.YtpnekmkbedhooaaExpI
import Derived.Test.YtpnekmkbedhooaaVecD
import Derived.Test.YtpnekmkbedhooaaEqI
namespace Go.Proofs.Ytpnekmkbedhooaa
open Go.RowKit

/-- a block of cells, given by a function -/
def vcs (f : Nat → Value) (m : Nat) : Array Value := ((List.range m).map f).toArray
theorem vcs_size (f : Nat → Value) (m : Nat) : (vcs f m).size = m := by simp [vcs]
theorem vcs_get (f : Nat → Value) (m k : Nat) (h : k < m) : (vcs f m)[k]? = some (f k) := by simp [vcs, h]
theorem vcs_set (f g : Nat → Value) (m k : Nat) (v : Value) (h : ∀ i, i < m → g i = if i = k then v else f i) : (vcs f m).setIfInBounds k v = vcs g m := by
  unfold vcs
  rw [List.setIfInBounds_toArray]
  congr 1
  apply List.ext_getElem
  · simp
  · intro i h1 h2
    simp only [List.getElem_set, List.getElem_map, List.getElem_range]
    rw [h i (by simpa using h2)]
    by_cases e : i = k
    · subst e; simp
    · rw [if_neg e, if_neg (Ne.symm e)]
/-- the cells of an act: a worker, and the zero call -/
def actZ : Nat → Value
  | 2 => .int .u64 0
  | 3 => .slice none 0 0
  | 4 => .int .u64 0
  | 7 => .int .u64 0
  | _ => .int .i64 0
def actC (os : List Int) (k i : Nat) : Value := if i % 8 = 0 then .int .i64 (if i / 8 < k then os.getD (i / 8) 0 else 0) else actZ (i % 8)
def callZ : Array Value := #[.int .i64 0, .int .u64 0, .slice none 0 0, .int .u64 0, .int .i64 0, .int .i64 0, .int .u64 0]
theorem acts_zero (os : List Int) (m : Nat) : madeCells #[.int .i64 0, .int .i64 0, .int .u64 0, .slice none 0 0, .int .u64 0, .int .i64 0, .int .i64 0, .int .u64 0] m = vcs (actC os 0) m := by
  apply Array.ext
  · simp [size_madeCells, vcs]
  · intro i h1 h2
    simp [madeCells, vcs, actC]
    have : i % 8 = 0 ∨ i % 8 = 1 ∨ i % 8 = 2 ∨ i % 8 = 3 ∨ i % 8 = 4 ∨ i % 8 = 5 ∨ i % 8 = 6 ∨ i % 8 = 7 := by omega
    rcases this with e | e | e | e | e | e | e | e <;> simp [e, actZ]
theorem acts_set {os : List Int} {k : Nat} {x : Int} (h : os[k]? = some x) (m : Nat) : (vcs (actC os k) m).setIfInBounds (k * 8) (.int .i64 x) = vcs (actC os (k + 1)) m :=
  vcs_set _ _ _ _ _ fun i _ => by
    by_cases e : i = k * 8
    · subst e
      rw [if_pos rfl, actC, if_pos (by omega), if_pos (by omega), show k * 8 / 8 = k by omega, List.getD_eq_getElem?_getD, h]; rfl
    · rw [if_neg e]
      unfold actC
      by_cases h8 : i % 8 = 0
      · rw [if_pos h8, if_pos h8]
        by_cases l : i / 8 < k
        · rw [if_pos l, if_pos (by omega)]
        · rw [if_neg l, if_neg (by omega)]
      · rw [if_neg h8, if_neg h8]
/-- what 'Acts' tells -/
def ActsGives (w : World) (os : List Int) (e : Ending) (w' : World) : Prop :=
  ∃ g, e = .returned (.slice (some ⟨g, 0, none⟩) os.length os.length) ∧ w.heap.size ≤ g ∧ Blk w' g 39 (vcs (actC os os.length) (os.length * 8)) ∧ Below w.heap.size w w'
theorem info_act : (Try.prog.info? 39).map (fun i => (i.zero, i.size)) = some (some (.agg #[.int .i64 0, .int .i64 0, .int .u64 0, .slice none 0 0, .int .u64 0, .int .i64 0, .int .i64 0, .int .u64 0]), 8) := by kernel_rfl
theorem run_make_acts (n : Nat) (hn : n ≤ 1000) (os : List Int) (w : World) :
    (Instr.makeSlice 31 (.int .i64 (n : Int)) (.int .i64 (n : Int))).run Try.prog w = .ok (.slice (some ⟨w.heap.size, 0, none⟩) n n) (w.alloc (.cells (vcs (actC os 0) (n * 8)) 39)) := by
  obtain ⟨i, hi, h1, h2, h3⟩ : ∃ i, Try.prog.info? 39 = some i ∧ i.zero = some (.agg #[.int .i64 0, .int .i64 0, .int .u64 0, .slice none 0 0, .int .u64 0, .int .i64 0, .int .i64 0, .int .u64 0]) ∧ i.size = 8 ∧ i.bytes ≤ 1000 := by
    have h : (Try.prog.info? 39).map (fun i => (i.zero, i.size, decide (i.bytes ≤ 1000))) = some (some (.agg #[.int .i64 0, .int .i64 0, .int .u64 0, .slice none 0 0, .int .u64 0, .int .i64 0, .int .i64 0, .int .u64 0]), 8, true) := by kernel_rfl
    cases hq : Try.prog.info? 39 with
    | none => simp [hq] at h
    | some i => simp [hq] at h; exact ⟨i, rfl, h.1, h.2.1, h.2.2⟩
  have hb : i.bytes * n ≤ 281474976710656 := Nat.le_trans (Nat.mul_le_mul h3 hn) (by decide)
  rw [run_make_rowN 31 39 i _ Try.underlying31 hi h1 .i64 .i64 n n (Nat.le_refl _) hb (by omega), h2]
  show _ = _
  rw [← acts_zero os]
  rfl

set_option maxHeartbeats 2000000 in
theorem acts_any (A : Option Addr) (n c : Nat) (os : List Int) (w : World) (hx : I64s w w.heap.size A os) (hn : os.length = n) (hc : n ≤ c) (hm : c ≤ 9223372036854775807) (h6 : n ≤ 1000) :
    Calls Try.prog 11 #[.slice A n c] w (ActsGives w os) := by
  have hmk := run_make_acts n h6 os w
  have HX := hide hx
  have Hn := hide hn
  have HB0 := hide (show Blk (w.alloc (.cells (vcs (actC os 0) (n * 8)) 39)) w.heap.size 39 (vcs (actC os 0) (n * 8)) from Blk.new _ _ _)
  have HL0 := hide (below1 w (.cells (vcs (actC os 0) (n * 8)) 39))
  clear hx hn
  go_enter Try.func11, Try.ntmps11
  go_wp2
  generalize w.alloc (.cells (vcs (actC os 0) (n * 8)) 39) = w1 at *
  generalize hG : w.heap.size = g at *
  have HGE := hide hG
  clear hG
  go_loopw [4, 5, 11] (fun _ _ i wr => ∃ k : Nat, k ≤ n ∧ i = .int .i64 k ∧ Hid (Blk wr g 39 (vcs (actC os k) (n * 8))) ∧ Hid (Below g w wr)) (fun _ _ i _ => n - (intOf i).toNat)
  case atStart => exact ⟨0, by omega, rfl, HB0, HL0⟩
  case round =>
    obtain ⟨k, hk, rfl, hB, hL⟩ := hrel
    by_cases hlt : k < n
    · obtain ⟨ad, x, rfl, _, hv, q0⟩ := (RdR.below HX.out hL.out (fun b hb => hb)).icell (k := k) (by have := Hn.out; omega)
      have g0 : (0 : Int) ≤ k := by omega
      have g1 : (k : Int) < n := by omega
      have f0 := hB.out.frozen (k * 8)
      have q1 : wr.cell? ⟨g, k * 8, none⟩ = some (.int .i64 0) := by
        rw [hB.out.cell, vcs_get _ _ _ (by omega), actC, if_pos (by omega), if_neg (by omega)]
      have HB1 := hide (hB.out.set_ (k * 8) (.int .i64 x))
      rw [acts_set hv] at HB1
      have HL1 := hide (hL.out.setCell (p := ⟨g, k * 8, none⟩) (Nat.le_refl _) (.int .i64 x))
      clear hv HX
      go_wp2
      go_roundw
      case rel => exact ⟨k + 1, by omega, by go_num, HB1, HL1⟩
      case measure => simp [intOf]; omega
    · obtain rfl : n = k := by omega
      go_wp2
      go_ret
      exact ⟨g, by rw [Hn.out]; rfl, by rw [HGE.out]; exact Nat.le_refl _, by rw [Hn.out]; exact hB.out, by rw [HGE.out]; exact hL.out⟩

theorem sameNil (w : World) : Calls Try.prog 30 #[.slice none 0 0, .slice none 0 0] w fun e w' => e = .returned (.bool true) ∧ Drew w w' :=
  refSame_any none none 0 0 0 0 [] [] w Rd.nil rfl (by omega) (by omega) Rd.nil rfl (by omega) (by omega)
theorem sameItemZ (w : World) : Calls Try.prog 25 #[.agg #[.int .u64 0, .slice none 0 0, .int .u64 0], .agg #[.int .u64 0, .slice none 0 0, .int .u64 0]] w fun e w' => e = .returned (.bool true) ∧ Below w.heap.size w w' := by
  have HB := hide (below2 w (.cells #[.int .u64 0, .slice none 0 0, .int .u64 0] 35) (.cells #[.int .u64 0, .slice none 0 0, .int .u64 0] 35))
  go_enter Try.func25, Try.ntmps25
  go_wp2_with (go_at_call 30; refine (sameNil _).mono ?_; rintro e w1 ⟨rfl, k, rfl⟩)
  go_ret
  exact ⟨rfl, below_drewN HB.out _⟩
theorem sameCallZ (w : World) : Calls Try.prog 12 #[.agg callZ, .agg callZ] w fun e w' => e = .returned (.bool true) ∧ Below w.heap.size w w' := by
  have HB := hide (below2 w (.cells callZ 37) (.cells callZ 37))
  have HA := hide (Blk.alloc (Blk.new w 37 callZ) (.cells callZ 37))
  have HC := hide (show Blk ((w.alloc (.cells callZ 37)).alloc (.cells callZ 37)) (w.heap.size + 1) 37 callZ from heap_alloc2_new w _ _)
  unfold callZ at *
  go_enter Try.func12, Try.ntmps12
  go_wp2_with (go_at_call 25; refine (sameItemZ _).mono ?_; rintro e w1 ⟨rfl, hb⟩; have HB1 := hide (HB.out.trans (hb.mono HB.out.size)); have h1 := HA.out.below hb HA.out.lt; have h2 := HC.out.below hb HC.out.lt; have a4 : w1.cell? ⟨w.heap.size, 4, none⟩ = some (.int .i64 0) := h1.cell 4; have a5 : w1.cell? ⟨w.heap.size, 5, none⟩ = some (.int .i64 0) := h1.cell 5; have a6 : w1.cell? ⟨w.heap.size, 6, none⟩ = some (.int .u64 0) := h1.cell 6; have b4 : w1.cell? ⟨w.heap.size + 1, 4, none⟩ = some (.int .i64 0) := h2.cell 4; have b5 : w1.cell? ⟨w.heap.size + 1, 5, none⟩ = some (.int .i64 0) := h2.cell 5; have b6 : w1.cell? ⟨w.heap.size + 1, 6, none⟩ = some (.int .u64 0) := h2.cell 6; clear h1 h2 hb)
  go_ret
  exact ⟨rfl, HB1.out⟩
end Go.Proofs.Ytpnekmkbedhooaa
