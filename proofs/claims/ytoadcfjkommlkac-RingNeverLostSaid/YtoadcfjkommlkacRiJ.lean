/-
  The document's ring: the mutexes; New, and the document's. Conditions: the slice reads as a list of words.
-/
import Derived.Test.YtoadcfjkommlkacRiI
namespace Go.Proofs.Ytoadcfjkommlkac
set_option linter.unusedSimpArgs false
set_option linter.unusedVariables false
open Go.RowKit

/-- up to a number, those asked for -/
def pickTo (s n p : Int) (j : Nat) : List Int := ((List.range j).map Int.ofNat).filter fun i => decide (i = 0 ∨ i = s ∨ i = n ∨ i = p)
theorem pickTo_succ (s n p : Int) (j : Nat) : pickTo s n p (j + 1) = pickTo s n p j ++ if ((j : Int) = 0 ∨ (j : Int) = s ∨ (j : Int) = n ∨ (j : Int) = p) then [(j : Int)] else [] := by
  unfold pickTo
  rw [List.range_succ, List.map_append, List.filter_append]
  congr 1
  show List.filter _ [(j : Int)] = _
  by_cases h : ((j : Int) = 0 ∨ (j : Int) = s ∨ (j : Int) = n ∨ (j : Int) = p)
  · rw [if_pos h, List.filter_cons, if_pos (decide_eq_true h)]; rfl
  · rw [if_neg h, List.filter_cons, if_neg (by simpa using h)]; rfl
theorem pickTo_le (s n p : Int) (j : Nat) : (pickTo s n p j).length ≤ j := by
  have := List.length_filter_le (fun i => decide (i = 0 ∨ i = s ∨ i = n ∨ i = p)) ((List.range j).map Int.ofNat)
  unfold pickTo
  simpa using this
section
variable (A : Option Addr) (n c : Nat) (ws : List Int) (s : Int) (w : World) (hx : Rd (Sh.int .u64) w w.heap.size A ws) (hn : ws.length = n) (hu : ∀ x ∈ ws, U64 x) (h6 : n ≤ 1000000)
include hx hn hu h6
set_option maxHeartbeats 4000000 in
theorem refLocks_any : Calls Try.prog 22 #[.slice A n c, .int .i64 s] w fun e w' => ∃ v, e = .returned v ∧ NewInts .i64 w (lockW ws s) v w' := by
  have HAs := hide (refAt_any A n c ws s w hx hn hu)
  have HN0 := hide (refAt_any A n c ws 0 w hx hn hu)
  have HJ := hide (show lockW ws s = _ by unfold lockW nearW; rfl)
  have hr0 := atW_range ws 0
  have hrs := atW_range ws s
  rw [hn] at HJ
  generalize (atW ws 0).1 = m0 at *
  generalize (atW ws 0).2 = m1 at *
  generalize ha : atW ws s = r at *
  obtain ⟨n0, p0⟩ := r
  simp only at *
  clear hx hn hu ha
  by_cases h1 : s < 1
  · have b1 : decide (s < 1) = true := decide_eq_true h1
    have HE := hide (HJ.out.trans (if_pos (.inl h1)))
    rw [HE.out]
    go_enter Try.func22, Try.ntmps22
    go_wp2
    go_ret
    exact ⟨_, rfl, NewInts.nil (Below.refl _ _)⟩
  have b1 : decide (s < 1) = false := decide_eq_false h1
  obtain ⟨k, rfl⟩ : ∃ k : Nat, s = k := ⟨s.toNat, by omega⟩
  by_cases h2 : n ≤ k
  · have b2 : decide (n ≤ k) = true := decide_eq_true h2
    have b3 : decide ((n : Int) ≤ k) = true := decide_eq_true (by omega)
    have HE := hide (HJ.out.trans (if_pos (.inr (by omega))))
    rw [HE.out]
    go_enter Try.func22, Try.ntmps22
    go_wp2
    go_ret
    exact ⟨_, rfl, NewInts.nil (Below.refl _ _)⟩
  have b2 : decide (n ≤ k) = false := decide_eq_false h2
  have b3 : decide ((n : Int) ≤ k) = false := decide_eq_false (by omega)
  have HE := hide (HJ.out.trans (if_neg (fun h => by omega)))
  rw [HE.out]
  by_cases h3 : n0 < 0
  · have b4 : decide (n0 < 0) = true := decide_eq_true h3
    rw [if_pos h3]
    simp only
    rw [lock_eq (show (1 : Int) ≤ k by omega)]
    have hmx : ∃ M : Nat, (M : Int) = max (max m0 (-1)) (k : Int) + 1 ∧ M ≤ 2000000 := ⟨(max (max m0 (-1)) (k : Int) + 1).toNat, by omega, by omega⟩
    obtain ⟨M, hM, hM2⟩ := hmx
    have HF := hide (show refLockW (k : Int) m0 (-1) = pickTo (k : Int) m0 (-1) M by unfold refLockW pickTo; rw [← hM]; simp)
    have HMx := hide hM
    obtain ⟨MX, hMX⟩ : ∃ MX : Int, max (max m0 (-1)) (k : Int) = MX := ⟨_, rfl⟩
    have hmax : ∀ (ts : Array TypeId) (t : TypeId) (W : World), (Builtin.max_ ts t #[.int .i64 m0, .int .i64 (-1), .int .i64 (k : Int)]).run Try.prog W = .ok (.int .i64 MX) W := fun ts t W => by
      rw [run_max_int3, ← hMX]
      congr 2
      split <;> split <;> omega
    have cw : IntKind.i64.wrap (MX + 1) = (M : Int) := by rw [hM, hMX]; exact IntWalk.i64_in _ (by omega)
    clear hMX
    clear hM h3 hr0 hrs h1 h2
    go_enter Try.func22, Try.ntmps22
    go_wp2_with (first
      | (go_at_call 7; with_reducible refine Calls.mono HAs.out ?_; rintro e _ ⟨rfl, rfl⟩)
      | (go_at_call 7; refine Calls.mono HN0.out ?_; rintro e _ ⟨rfl, rfl⟩))
    go_loopw [7, 8] (fun v i wr => ∃ j : Nat, j ≤ M ∧ i = .int .i64 j ∧ Hid (wr.ownsRow w.heap.size 3 1 v (pickTo (k : Int) m0 (-1) j).length (fcs encI (pickTo (k : Int) m0 (-1) j))) ∧ Hid (Below w.heap.size w wr)) (fun _ i _ => M - (intOf i).toNat)
    case atStart => exact ⟨0, by omega, rfl, hide (World.ownsRow_nil _ _ _ _), hide (Below.refl _ _)⟩
    case round =>
      obtain ⟨j, hj, rfl, HOr, HBr⟩ := hrel
      by_cases hlt : j < M
      · have g0 : (0 : Int) ≤ j := by omega
        have g1 : (j : Int) < M := by omega
        have HS := hide (pickTo_succ (k : Int) m0 (-1) j)
        have hul := pickTo_le (k : Int) m0 (-1) j
        generalize pickTo (k : Int) m0 (-1) j = u at *
        obtain ⟨AV, cV, rfl, o1, o2⟩ := own_form HOr.out
        by_cases c0 : (j : Int) = 0
        · rw [if_pos (.inl c0)] at HS
          have e0 : ((j : Int) == 0) = true := by simpa using c0
          clear c0
          go_wp2_with (at_builtin; refine wpList_append_elem rfl _ _ 28 rfl w.heap.size Try.underlying28 info_intE rfl (by decide) (.slice AV u.length cV) u.length _ rfl HOr.out _ _ rfl rfl (by simp [Value.oneCell']) (by simp only [maxLen]; omega) (by omega) HBr.out.size ?_; intro v9 w9 hown9 hgr9 _; have HO9 := hide hown9; have HB9 := hide (below_own HBr.out HOr.out HBr.out.size hgr9); clear hown9 hgr9)
          go_roundw
          case rel => exact ⟨j + 1, by omega, by go_num, hide (by rw [HS.out, fcsI, List.map_append, List.length_append, ← fcsI]; exact HO9.out), HB9⟩
          case measure => simp [intOf]; omega
        have e0 : ((j : Int) == 0) = false := by simpa using c0
        by_cases c1 : (j : Int) = k
        · rw [if_pos (.inr (.inl c1))] at HS
          have e1 : ((j : Int) == k) = true := by simpa using c1
          have e1' : (j == k) = true := by simp; omega
          clear c0 c1
          go_wp2_with (at_builtin; refine wpList_append_elem rfl _ _ 28 rfl w.heap.size Try.underlying28 info_intE rfl (by decide) (.slice AV u.length cV) u.length _ rfl HOr.out _ _ rfl rfl (by simp [Value.oneCell']) (by simp only [maxLen]; omega) (by omega) HBr.out.size ?_; intro v9 w9 hown9 hgr9 _; have HO9 := hide hown9; have HB9 := hide (below_own HBr.out HOr.out HBr.out.size hgr9); clear hown9 hgr9)
          go_roundw
          case rel => exact ⟨j + 1, by omega, by go_num, hide (by rw [HS.out, fcsI, List.map_append, List.length_append, ← fcsI]; exact HO9.out), HB9⟩
          case measure => simp [intOf]; omega
        have e1 : ((j : Int) == k) = false := by simpa using c1
        have e1' : (j == k) = false := by simp; omega
        by_cases c2 : (j : Int) = m0
        · rw [if_pos (.inr (.inr (.inl c2)))] at HS
          have e2 : ((j : Int) == m0) = true := by simpa using c2
          clear c0 c1 c2
          go_wp2_with (at_builtin; refine wpList_append_elem rfl _ _ 28 rfl w.heap.size Try.underlying28 info_intE rfl (by decide) (.slice AV u.length cV) u.length _ rfl HOr.out _ _ rfl rfl (by simp [Value.oneCell']) (by simp only [maxLen]; omega) (by omega) HBr.out.size ?_; intro v9 w9 hown9 hgr9 _; have HO9 := hide hown9; have HB9 := hide (below_own HBr.out HOr.out HBr.out.size hgr9); clear hown9 hgr9)
          go_roundw
          case rel => exact ⟨j + 1, by omega, by go_num, hide (by rw [HS.out, fcsI, List.map_append, List.length_append, ← fcsI]; exact HO9.out), HB9⟩
          case measure => simp [intOf]; omega
        have e2 : ((j : Int) == m0) = false := by simpa using c2
        have c3 : ¬ ((j : Int) = -1) := by omega
        have e3 : ((j : Int) == -1) = false := by first | (simp; done) | (simp; omega)
        rw [if_neg (fun h => by rcases h with h | h | h | h <;> contradiction), List.append_nil] at HS
        clear c0 c1 c2 c3
        go_wp2
        go_roundw
        case rel => exact ⟨j + 1, by omega, by go_num, hide (by rw [HS.out]; exact HOr.out), HBr⟩
        case measure => simp [intOf]; omega
      · obtain rfl : j = M := by omega
        have g1 : ¬ ((j : Int) < j) := by omega
        have HN := hide (NewInts.of_own (w := w) (xs := pickTo (k : Int) m0 (-1) j) (by have h := HOr.out; rwa [fcsI] at h) HBr.out)
        go_wp2
        go_ret
        exact ⟨_, rfl, by rw [HF.out]; exact HN.out⟩
  · have b4 : decide (n0 < 0) = false := decide_eq_false h3
    rw [if_neg h3]
    simp only
    rw [lock_eq (show (1 : Int) ≤ k by omega)]
    have hmx : ∃ M : Nat, (M : Int) = max (max n0 p0) (k : Int) + 1 ∧ M ≤ 2000000 := ⟨(max (max n0 p0) (k : Int) + 1).toNat, by omega, by omega⟩
    obtain ⟨M, hM, hM2⟩ := hmx
    have HF := hide (show refLockW (k : Int) n0 p0 = pickTo (k : Int) n0 p0 M by unfold refLockW pickTo; rw [← hM]; simp)
    have HMx := hide hM
    obtain ⟨MX, hMX⟩ : ∃ MX : Int, max (max n0 p0) (k : Int) = MX := ⟨_, rfl⟩
    have hmax : ∀ (ts : Array TypeId) (t : TypeId) (W : World), (Builtin.max_ ts t #[.int .i64 n0, .int .i64 p0, .int .i64 (k : Int)]).run Try.prog W = .ok (.int .i64 MX) W := fun ts t W => by
      rw [run_max_int3, ← hMX]
      congr 2
      split <;> split <;> omega
    have cw : IntKind.i64.wrap (MX + 1) = (M : Int) := by rw [hM, hMX]; exact IntWalk.i64_in _ (by omega)
    clear hMX
    clear hM h3 hr0 hrs h1 h2
    go_enter Try.func22, Try.ntmps22
    go_wp2_with (first
      | (go_at_call 7; with_reducible refine Calls.mono HAs.out ?_; rintro e _ ⟨rfl, rfl⟩)
      | (go_at_call 7; refine Calls.mono HN0.out ?_; rintro e _ ⟨rfl, rfl⟩))
    go_loopw [7, 8] (fun v i wr => ∃ j : Nat, j ≤ M ∧ i = .int .i64 j ∧ Hid (wr.ownsRow w.heap.size 3 1 v (pickTo (k : Int) n0 p0 j).length (fcs encI (pickTo (k : Int) n0 p0 j))) ∧ Hid (Below w.heap.size w wr)) (fun _ i _ => M - (intOf i).toNat)
    case atStart => exact ⟨0, by omega, rfl, hide (World.ownsRow_nil _ _ _ _), hide (Below.refl _ _)⟩
    case round =>
      obtain ⟨j, hj, rfl, HOr, HBr⟩ := hrel
      by_cases hlt : j < M
      · have g0 : (0 : Int) ≤ j := by omega
        have g1 : (j : Int) < M := by omega
        have HS := hide (pickTo_succ (k : Int) n0 p0 j)
        have hul := pickTo_le (k : Int) n0 p0 j
        generalize pickTo (k : Int) n0 p0 j = u at *
        obtain ⟨AV, cV, rfl, o1, o2⟩ := own_form HOr.out
        by_cases c0 : (j : Int) = 0
        · rw [if_pos (.inl c0)] at HS
          have e0 : ((j : Int) == 0) = true := by simpa using c0
          clear c0
          go_wp2_with (at_builtin; refine wpList_append_elem rfl _ _ 28 rfl w.heap.size Try.underlying28 info_intE rfl (by decide) (.slice AV u.length cV) u.length _ rfl HOr.out _ _ rfl rfl (by simp [Value.oneCell']) (by simp only [maxLen]; omega) (by omega) HBr.out.size ?_; intro v9 w9 hown9 hgr9 _; have HO9 := hide hown9; have HB9 := hide (below_own HBr.out HOr.out HBr.out.size hgr9); clear hown9 hgr9)
          go_roundw
          case rel => exact ⟨j + 1, by omega, by go_num, hide (by rw [HS.out, fcsI, List.map_append, List.length_append, ← fcsI]; exact HO9.out), HB9⟩
          case measure => simp [intOf]; omega
        have e0 : ((j : Int) == 0) = false := by simpa using c0
        by_cases c1 : (j : Int) = k
        · rw [if_pos (.inr (.inl c1))] at HS
          have e1 : ((j : Int) == k) = true := by simpa using c1
          have e1' : (j == k) = true := by simp; omega
          clear c0 c1
          go_wp2_with (at_builtin; refine wpList_append_elem rfl _ _ 28 rfl w.heap.size Try.underlying28 info_intE rfl (by decide) (.slice AV u.length cV) u.length _ rfl HOr.out _ _ rfl rfl (by simp [Value.oneCell']) (by simp only [maxLen]; omega) (by omega) HBr.out.size ?_; intro v9 w9 hown9 hgr9 _; have HO9 := hide hown9; have HB9 := hide (below_own HBr.out HOr.out HBr.out.size hgr9); clear hown9 hgr9)
          go_roundw
          case rel => exact ⟨j + 1, by omega, by go_num, hide (by rw [HS.out, fcsI, List.map_append, List.length_append, ← fcsI]; exact HO9.out), HB9⟩
          case measure => simp [intOf]; omega
        have e1 : ((j : Int) == k) = false := by simpa using c1
        have e1' : (j == k) = false := by simp; omega
        by_cases c2 : (j : Int) = n0
        · rw [if_pos (.inr (.inr (.inl c2)))] at HS
          have e2 : ((j : Int) == n0) = true := by simpa using c2
          clear c0 c1 c2
          go_wp2_with (at_builtin; refine wpList_append_elem rfl _ _ 28 rfl w.heap.size Try.underlying28 info_intE rfl (by decide) (.slice AV u.length cV) u.length _ rfl HOr.out _ _ rfl rfl (by simp [Value.oneCell']) (by simp only [maxLen]; omega) (by omega) HBr.out.size ?_; intro v9 w9 hown9 hgr9 _; have HO9 := hide hown9; have HB9 := hide (below_own HBr.out HOr.out HBr.out.size hgr9); clear hown9 hgr9)
          go_roundw
          case rel => exact ⟨j + 1, by omega, by go_num, hide (by rw [HS.out, fcsI, List.map_append, List.length_append, ← fcsI]; exact HO9.out), HB9⟩
          case measure => simp [intOf]; omega
        have e2 : ((j : Int) == n0) = false := by simpa using c2
        by_cases c3 : (j : Int) = p0
        · rw [if_pos (.inr (.inr (.inr c3)))] at HS
          have e3 : ((j : Int) == p0) = true := by simpa using c3
          clear c0 c1 c2 c3
          go_wp2_with (at_builtin; refine wpList_append_elem rfl _ _ 28 rfl w.heap.size Try.underlying28 info_intE rfl (by decide) (.slice AV u.length cV) u.length _ rfl HOr.out _ _ rfl rfl (by simp [Value.oneCell']) (by simp only [maxLen]; omega) (by omega) HBr.out.size ?_; intro v9 w9 hown9 hgr9 _; have HO9 := hide hown9; have HB9 := hide (below_own HBr.out HOr.out HBr.out.size hgr9); clear hown9 hgr9)
          go_roundw
          case rel => exact ⟨j + 1, by omega, by go_num, hide (by rw [HS.out, fcsI, List.map_append, List.length_append, ← fcsI]; exact HO9.out), HB9⟩
          case measure => simp [intOf]; omega
        have e3 : ((j : Int) == p0) = false := by simpa using c3
        rw [if_neg (fun h => by rcases h with h | h | h | h <;> contradiction), List.append_nil] at HS
        clear c0 c1 c2 c3
        go_wp2
        go_roundw
        case rel => exact ⟨j + 1, by omega, by go_num, hide (by rw [HS.out]; exact HOr.out), HBr⟩
        case measure => simp [intOf]; omega
      · obtain rfl : j = M := by omega
        have g1 : ¬ ((j : Int) < j) := by omega
        have HN := hide (NewInts.of_own (w := w) (xs := pickTo (k : Int) n0 p0 j) (by have h := HOr.out; rwa [fcsI] at h) HBr.out)
        go_wp2
        go_ret
        exact ⟨_, rfl, by rw [HF.out]; exact HN.out⟩
end
end Go.Proofs.Ytoadcfjkommlkac
