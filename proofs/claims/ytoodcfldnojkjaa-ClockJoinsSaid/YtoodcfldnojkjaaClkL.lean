/-
  The law ClockTells: for every input it returns true. No condition.
-/
import Derived.Test.YtoodcfldnojkjaaClkR
namespace Go.Proofs.Ytoodcfldnojkjaa
open Go.RowKit

theorem stepOf_pos (f : Nat → Int) (hf : ∀ i, 0 ≤ f i) (i : Int) (q : Nat) : 0 ≤ stepOf f i q := by
  have := hf q
  unfold stepOf
  split
  · dsimp only; split <;> omega
  · exact this
set_option maxHeartbeats 1000000 in
theorem refTick_any (A : Option Addr) (n c : Nat) (xs : List Int) (i : Int) (w : World) (hx : Ints w w.heap.size A xs) (hn : xs.length = n) (hc : n ≤ c) (hm : c ≤ 9223372036854775807) :
    Calls Try.prog 12 #[.slice A n c, .int .i64 i] w (GivesInts w (shortOf (stepOf (clkAt xs) i))) := by
  have Hn := hide hn
  clear hn
  by_cases hgo : 0 ≤ i ∧ i ≤ 64 ∧ atSpec (clkAt xs) i < 4611686018427387904
  · obtain ⟨h0, h64, hlt⟩ := hgo
    obtain ⟨j, rfl⟩ := Int.eq_ofNat_of_zero_le h0
    have hfj : clkAt xs j < 4611686018427387904 := by rwa [atSpec_in _ _ h64] at hlt
    have hpj : 0 ≤ clkAt xs j := pos_pos _
    have hmk := fun W => run_make_rep (P := Try.prog) Try.underlying22 (e := 3) (z := .int .i64 0) (by_ := 8) (by kernel_rfl) rfl .i64 .i64 65 65 (Nat.le_refl _) (by omega) (by omega) W
    rw [rep65] at hmk
    simp only [Int.cast_ofNat_Int] at hmk
    have F0 := hide (⟨Blk.new w _ _, Nat.le_refl _, (Below.refl _ _).alloc (Nat.le_refl _) _⟩ : Filled w (w.alloc (.cells (arr fun _ => 0) 3)) w.heap.size (fun _ => 0))
    have HJ := hide hfj
    have HP := hide hpj
    clear hfj hpj
    go_enter Try.func12, Try.ntmps12
    go_wp2_with (go_at_call 7; ((with_reducible refine (refAt_any A n c xs _ _ hx Hn.out).mono ?_); rintro e w' ⟨rfl, rfl⟩))
    go_loopw [6, 24] (fun _ i wr => ∃ k : Nat, (k : Int) ≤ 65 ∧ i = .int .i64 k ∧ Filled w wr w.heap.size (part (clkAt xs) k)) (fun _ i _ => 65 - (intOf i).toNat)
    case atStart => exact ⟨0, by omega, rfl, by have := F0.out; unfold Filled at this ⊢; rwa [part_zero]⟩
    case round =>
      obtain ⟨k, hk, rfl, hF⟩ := hrel
      have HF := hide hF
      clear hF
      by_cases hlk : (k : Int) < 65
      · have C1 := hide (fun i : Int => refAt_any A n c xs i wr ((hx.below HF.out.2.2 (Nat.le_refl _)).more HF.out.2.2.size) Hn.out)
        have s1 : Value.int .i64 (atSpec (clkAt xs) k) = Value.int .i64 (clkAt xs k) := by rw [atSpec_in _ _ (by omega)]
        have hcell : wr.cell? ⟨w.heap.size, k, none⟩ = some (.int .i64 (part (clkAt xs) k k)) := by rw [HF.out.1.cell, arr_get _ k (by omega)]
        have hfr := HF.out.1.frozen k
        have HN := hide (HF.out.set_ k _ (part_step (clkAt xs) k))
        clear hx hlt
        go_wp2_with (go_at_call 7; ((with_reducible refine (C1.out _).mono ?_); rintro e w' ⟨rfl, rfl⟩))
        all_goals
          go_roundw
          case rel => exact ⟨k + 1, by omega, by go_num, HN.out⟩
          case measure => first | (simp [intOf]; done) | (simp [intOf]; omega)
      · obtain rfl : k = 65 := by omega
        have e0 : part (clkAt xs) 65 j = clkAt xs j := if_pos (by omega)
        have hcell : wr.cell? ⟨w.heap.size, j, none⟩ = some (.int .i64 (clkAt xs j)) := by rw [HF.out.1.cell, arr_get _ j (by omega), e0]
        have hfr := HF.out.1.frozen j
        have hset : (arr (part (clkAt xs) 65)).setIfInBounds j (.int .i64 (clkAt xs j + 1)) = arr (stepOf (clkAt xs) j) := by
          rw [← step_set (clkAt xs) j (by omega) HJ.out, arr_congr (part (clkAt xs) 65) (clkAt xs) (fun i hi => if_pos hi)]
        have HN := hide (HF.out.set_ j _ hset)
        have hsh : shortOf (clkAt ((List.range 65).map (stepOf (clkAt xs) j))) = shortOf (stepOf (clkAt xs) j) := by
          apply shortOf_congr
          intro q hq
          rw [clkAt_range (stepOf (clkAt xs) j) (stepOf_pos (clkAt xs) (fun i => pos_pos (xs.getD i 0)) j) q hq]
        have hj1 := HJ.out
        have hj2 := HP.out
        have hlt' := hlt
        clear hx hlt hset e0
        go_wp2_with fail
        refine (refShort_any _ _ _ ((List.range 65).map (stepOf (clkAt xs) j)) _ HN.out.ints (by simp) (Nat.le_refl _) (by omega)).mono ?_
        rintro e w2 ⟨A', n', c', rfl, hl, h1, h2, h3, hb2⟩
        rw [hsh] at hl h3
        have HL := hide hl
        clear hl hsh
        go_wp2_with fail
        go_ret
        exact ⟨_, _, _, rfl, HL.out, h1, h2, h3, HN.out.2.2.trans (hb2.mono HN.out.2.2.size)⟩
  · have hs : stepOf (clkAt xs) i = clkAt xs := by
      unfold stepOf
      rw [if_neg]
      intro h
      refine hgo ⟨h.1, h.2.1, ?_⟩
      unfold atSpec
      rw [if_neg (by omega)]
      exact h.2.2
    rw [hs]
    have hcs : i < 0 ∨ (0 ≤ i ∧ 64 < i) ∨ (0 ≤ i ∧ i ≤ 64 ∧ 4611686018427387904 ≤ atSpec (clkAt xs) i) := by
      by_cases h0 : i < 0
      · exact .inl h0
      · by_cases h1 : 64 < i
        · exact .inr (.inl ⟨by omega, h1⟩)
        · exact .inr (.inr ⟨by omega, by omega, by
            rcases Int.lt_or_le (atSpec (clkAt xs) i) 4611686018427387904 with h | h
            · exact absurd ⟨by omega, by omega, h⟩ hgo
            · exact h⟩)
    clear hgo hs
    rcases hcs with h0 | ⟨h0, h1⟩ | ⟨h0, h1, h2⟩
    all_goals
      go_enter Try.func12, Try.ntmps12
      go_wp2_with (first
        | (go_at_call 7; ((with_reducible refine (refAt_any A n c xs _ _ hx Hn.out).mono ?_); rintro e w' ⟨rfl, rfl⟩))
        | (go_at_call 10; ((with_reducible refine (refShort_any A n c xs _ hx Hn.out hc hm).mono ?_); rintro e w2 ⟨A', n', c', rfl, hl, h1', h2', h3, hb2⟩; have HL := hide hl; clear hl)))
      go_ret
      exact ⟨_, _, _, rfl, HL.out, h1', h2', h3, hb2⟩

theorem at_lit (xs : List Int) (i r : Int) (h : atSpec (clkAt xs) i = r) {A : Option Addr} {n c : Nat} (w : World) (hx : Ints w w.heap.size A xs) (hn : xs.length = n) (hc : n ≤ c) (hm : c ≤ 9223372036854775807) :
    Calls Try.prog 6 #[.slice A n c, .int .i64 i] w fun e w' => e = .returned (.int .i64 r) ∧ Below w.heap.size w w' := by subst h; exact at_any A n c xs i w hx hn hc hm
theorem tick_lit (xs : List Int) (i : Int) (r : List Int) (h : shortOf (stepOf (clkAt xs) i) = r) {A : Option Addr} {n c : Nat} (w : World) (hx : Ints w w.heap.size A xs) (hn : xs.length = n) (hc : n ≤ c) (hm : c ≤ 9223372036854775807) :
    Calls Try.prog 11 #[.slice A n c, .int .i64 i] w (GivesInts w r) := by subst h; exact tick_any A n c xs i w hx hn hc hm
theorem short_lit (xs : List Int) (r : List Int) (h : shortOf (clkAt xs) = r) {A : Option Addr} {n c : Nat} (w : World) (hx : Ints w w.heap.size A xs) (hn : xs.length = n) (hc : n ≤ c) (hm : c ≤ 9223372036854775807) :
    Calls Try.prog 9 #[.slice A n c] w (GivesInts w r) := by subst h; exact short_any A n c xs w hx hn hc hm
theorem join_lit (xs ys : List Int) (r : List Int) (h : shortOf (withOf (clkAt xs) (clkAt ys)) = r) {A B : Option Addr} {n c m d : Nat} (w : World) (hx : Ints w w.heap.size A xs) (hn : xs.length = n) (hc : n ≤ c) (hm : c ≤ 9223372036854775807)
    (hy : Ints w w.heap.size B ys) (hn' : ys.length = m) (hc' : m ≤ d) (hm' : d ≤ 9223372036854775807) :
    Calls Try.prog 13 #[.slice A n c, .slice B m d] w (GivesInts w r) := by subst h; exact join_any A B n c m d xs ys w hx hn hc hm hy hn' hc' hm'
theorem cmp_lit (xs ys : List Int) (r : Int) (h : cmp (clkAt xs) (clkAt ys) = r) {A B : Option Addr} {n c m d : Nat} (w : World) (hx : Ints w w.heap.size A xs) (hn : xs.length = n) (hc : n ≤ c) (hm : c ≤ 9223372036854775807)
    (hy : Ints w w.heap.size B ys) (hn' : ys.length = m) (hc' : m ≤ d) (hm' : d ≤ 9223372036854775807) :
    Calls Try.prog 15 #[.slice A n c, .slice B m d] w fun e w' => e = .returned (.int .i64 r) ∧ Below w.heap.size w w' := by subst h; exact compare_any A B n c m d xs ys w hx hn hc hm hy hn' hc' hm'
theorem same_lit (xs ys : List Int) {A B : Option Addr} {n c m d : Nat} (w : World) (hx : Ints w w.heap.size A xs) (hn : xs.length = n) (hc : n ≤ c) (hm : c ≤ 9223372036854775807) (hy : Ints w w.heap.size B ys) (hn' : ys.length = m) (h : xs = ys := by rfl) :
    Calls Try.prog 8 #[.slice A n c, .slice B m d] w fun e w' => e = .returned (.bool true) ∧ Below w.heap.size w w' :=
  (same_any A B n c m d xs ys w hx hn hc hm hy hn').mono fun e w' ⟨h1, q, h2⟩ => ⟨by rw [h1, decide_eq_true h], by rw [h2]; exact below_drewN (Below.refl _ _) q⟩


end Go.Proofs.Ytoodcfldnojkjaa
