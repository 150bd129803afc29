/-
  The document's clock (ganglionref17) and SameInts: what each call computes. Conditions: the slices read as lists of ints.
-/
import Derived.Test.YtoodcfldnojkjaaClkC
namespace Go.Proofs.Ytoodcfldnojkjaa
open Go.RowKit

set_option maxHeartbeats 1000000 in
theorem same_any (A B : Option Addr) (n c m d : Nat) (xs ys : List Int) (w : World) (hx : Ints w w.heap.size A xs) (hn : xs.length = n) (hc : n ≤ c) (hm : c ≤ 9223372036854775807)
    (hy : Ints w w.heap.size B ys) (hn' : ys.length = m) :
    Calls Try.prog 8 #[.slice A n c, .slice B m d] w fun e w' => e = .returned (.bool (decide (xs = ys))) ∧ ∃ q, w' = w.drewN q := by
  by_cases hnm : n = m
  · subst hnm
    have Hn := hide hn
    have Hn' := hide hn'
    clear hn hn'
    go_enter Try.func8, Try.ntmps8
    go_wp2
    go_loopw [5, 13] (fun _ i wr => ∃ k q : Nat, k ≤ n ∧ i = .int .i64 k ∧ xs.take k = ys.take k ∧ wr = w.drewN q) (fun _ i _ => n - (intOf i).toNat)
    case atStart => exact ⟨0, 0, by omega, rfl, rfl, rfl⟩
    case round =>
      obtain ⟨k, q, hk, rfl, he, rfl⟩ := hrel
      have He := hide he
      clear he
      by_cases hlt : k < n
      · obtain ⟨ad, x, rfl, _, hx1, c1⟩ := hx.cell (k := k) (by have := Hn.out; omega)
        obtain ⟨bd, y, rfl, _, hy1, c2⟩ := hy.cell (k := k) (by have := Hn'.out; omega)
        have i1 : (0 : Int) ≤ (k : Int) := by omega
        have i2 : (k : Int) < (n : Int) := by omega
        have Hx1 := hide hx1
        have Hy1 := hide hy1
        clear hx hy hx1 hy1
        by_cases hxy : x = y
        · subst hxy
          go_wp2
          go_quiet (fail)
          go_wp2
          go_roundw
          case rel => exact ⟨k + 1, _, by omega, by go_num, by rw [List.take_add_one, List.take_add_one, He.out, Hx1.out, Hy1.out], rfl⟩
          case measure => first | (simp [intOf]; done) | (simp [intOf]; omega)
        · have hne : xs ≠ ys := by
            intro e
            have h1 := Hx1.out
            rw [e, Hy1.out] at h1
            exact hxy (by injection h1 with h1; exact h1.symm)
          have Hne := hide (decide_eq_false hne)
          clear hne
          go_wp2
          go_quiet (fail)
          go_wp2
          go_ret
          exact ⟨by rw [Hne.out]; rfl, _, World.drewN_drewN _ _ _⟩
      · have he : xs = ys := by
          have h1 := He.out
          rw [List.take_of_length_le (by have := Hn.out; omega), List.take_of_length_le (by have := Hn'.out; omega)] at h1
          exact h1
        have He := hide (decide_eq_true he)
        clear he hx hy
        go_wp2
        go_ret
        exact ⟨by rw [He.out]; rfl, _, rfl⟩
  · have hne := decide_eq_false (p := xs = ys) (by rintro rfl; omega)
    have Hne := hide hne
    clear hne hn hn'
    go_enter Try.func8, Try.ntmps8
    go_wp2
    go_ret
    exact ⟨by rw [Hne.out]; rfl, 0, rfl⟩

theorem atSpec_in (f : Nat → Int) (k : Nat) (h : (k : Int) ≤ 64) : atSpec f (k : Int) = f k := by
  unfold atSpec
  rw [if_neg (by omega), Int.toNat_natCast]

set_option maxHeartbeats 1000000 in
theorem refCompare_any (A B : Option Addr) (n c m d : Nat) (xs ys : List Int) (w : World) (hx : Ints w w.heap.size A xs) (hn : xs.length = n)
    (hy : Ints w w.heap.size B ys) (hn' : ys.length = m) :
    Calls Try.prog 16 #[.slice A n c, .slice B m d] w fun e w' => e = .returned (.int .i64 (cmp (clkAt xs) (clkAt ys))) ∧ w = w' := by
  have C1 := hide (fun i : Int => refAt_any A n c xs i w hx hn)
  have C2 := hide (fun i : Int => refAt_any B m d ys i w hy hn')
  clear hx hy hn hn'
  go_enter Try.func16, Try.ntmps16
  go_wp2
  go_loop [5, 6, 7] (fun l m i => ∃ k : Nat, (k : Int) ≤ 65 ∧ i = .int .i64 k ∧ l = .bool (anyLt (clkAt xs) (clkAt ys) k) ∧ m = .bool (anyLt (clkAt ys) (clkAt xs) k)) (fun _ _ i => 65 - (intOf i).toNat)
  case atStart => exact ⟨0, by omega, rfl, rfl, rfl⟩
  case round =>
    obtain ⟨k, hk, rfl, rfl, rfl⟩ := hrel
    by_cases hlt : (k : Int) ≤ 64
    · have e1 := anyLt_succ (clkAt xs) (clkAt ys) k
      have e2 := anyLt_succ (clkAt ys) (clkAt xs) k
      rw [← atSpec_in (clkAt xs) k hlt, ← atSpec_in (clkAt ys) k hlt] at e1 e2
      have E1 := hide e1
      have E2 := hide e2
      clear e1 e2
      generalize hl : anyLt (clkAt xs) (clkAt ys) k = l at *
      generalize hg : anyLt (clkAt ys) (clkAt xs) k = g at *
      clear hl hg
      cases l <;> cases g
      all_goals
        go_wp2_with (go_at_call 7; first
          | ((with_reducible refine (C1.out _).mono ?_); rintro e w' ⟨rfl, rfl⟩)
          | ((with_reducible refine (C2.out _).mono ?_); rintro e w' ⟨rfl, rfl⟩))
        go_round
        case rel => exact ⟨k + 1, by omega, by go_num, by rw [E1.out]; first | rfl | simp, by rw [E2.out]; first | rfl | simp⟩
        case measure => first | (simp [intOf]; done) | (simp [intOf]; omega)
    · obtain rfl : k = 65 := by omega
      have hlt' : ¬ (65 : Int) ≤ 64 := by omega
      obtain ⟨l, Hl⟩ : ∃ l, Hid (anyLt (clkAt xs) (clkAt ys) 65 = l) := ⟨_, rfl⟩
      obtain ⟨g, Hg⟩ : ∃ g, Hid (anyLt (clkAt ys) (clkAt xs) 65 = g) := ⟨_, rfl⟩
      rw [Hl.out, Hg.out]
      clear hlt
      cases l <;> cases g
      all_goals
        go_wp2_with fail
        go_ret
        exact ⟨by rw [cmp, Hl.out, Hg.out]; rfl, rfl⟩

theorem info_int : (Try.prog.info? 3).map (fun i => (i.zero, i.size, i.bytes)) = some (some (.int .i64 0), 1, 8) := by kernel_rfl
theorem cellsTo_succ (f : Nat → Int) (k : Nat) : cellsTo f (k + 1) = cellsTo f k ++ [.int .i64 (f k)] := by simp [cellsTo, List.range_succ]
theorem cellsTo_map (f : Nat → Int) (k : Nat) : cellsTo f k = ((List.range k).map f).map (Value.int .i64) := by simp [cellsTo]
theorem shortOf_to (xs : List Int) (M : Nat) (h65 : M ≤ 65) (h : xs.length ≤ M ∨ 65 ≤ M) : lenOf (clkAt xs) M = lenOf (clkAt xs) 65 := by
  obtain ⟨j, hj⟩ : ∃ j, M + j = 65 := ⟨65 - M, by omega⟩
  have : ∀ j, M + j ≤ 65 → lenOf (clkAt xs) (M + j) = lenOf (clkAt xs) M := by
    intro j
    induction j with
    | zero => intro _; rfl
    | succ j ih =>
      intro hj
      rw [← ih (by omega), ← Nat.add_assoc, lenOf, if_pos]
      simp [clkAt, List.getElem?_eq_none (show xs.length ≤ M + j by omega), pos]
  rw [← this j (by omega), hj]

set_option maxHeartbeats 1000000 in
theorem refShort_any (A : Option Addr) (n c : Nat) (xs : List Int) (w : World) (hx : Ints w w.heap.size A xs) (hn : xs.length = n) (hc : n ≤ c) (hm : c ≤ 9223372036854775807) :
    Calls Try.prog 10 #[.slice A n c] w (GivesInts w (shortOf (clkAt xs))) := by
  have Hn := hide hn
  clear hn
  go_enter Try.func10, Try.ntmps10
  go_wp2
  go_loopw [3, 4] (fun v i wr => ∃ k : Nat, k ≤ n ∧ (k : Int) ≤ 65 ∧ i = .int .i64 k ∧ wr.ownsRow w.heap.size 3 1 v k (cellsTo (clkAt xs) k) ∧ Below w.heap.size w wr) (fun _ i _ => 65 - (intOf i).toNat)
  case atStart => exact ⟨0, by omega, by omega, rfl, ⟨rfl, .inl ⟨rfl, rfl⟩⟩, Below.refl _ _⟩
  case round =>
    obtain ⟨k, hk, hk5, rfl, hown, hb⟩ := hrel
    by_cases hlt : (k : Int) ≤ 64 ∧ k < n
    · obtain ⟨h64, hlt⟩ := hlt
      have hat : Value.int .i64 (atSpec (clkAt xs) k) = Value.int .i64 (clkAt xs k) := by rw [atSpec_in _ _ h64]
      have HB := hide hb.size
      go_wp2_with (first
        | (go_at_call 7; refine (refAt_any A n c xs _ _ ((hx.below hb (Nat.le_refl _)).more hb.size) Hn.out).mono ?_; rintro e w' ⟨rfl, rfl⟩)
        | (at_builtin; refine wpList_append_elem rfl _ _ 22 rfl w.heap.size Try.underlying22 info_int rfl (by decide) u3 k _ rfl hown _ _ rfl rfl (by simp [Value.oneCell']) (by simp only [maxLen]; omega) (by omega) HB.out ?_; intro v' w1 hown1 hg hat1))
      go_roundw
      case rel => exact ⟨k + 1, by omega, by omega, by go_num, by rw [cellsTo_succ]; exact hown1, below_own hb hown HB.out hg⟩
      case measure => first | (simp [intOf]; done) | (simp [intOf]; omega)
    · have hM : xs.length ≤ k ∨ 65 ≤ k := by have := Hn.out; omega
      have HL := hide (shortOf_to xs k (by omega) hM)
      obtain ⟨Av, nv, cv, rfl, hnv, hcv, hcm⟩ : ∃ (Av : Option Addr) (nv cv : Nat), u3 = Value.slice Av nv cv ∧ nv = k ∧ nv ≤ cv ∧ cv ≤ 9223372036854775807 := by
        rcases hown.2 with ⟨rfl, rfl⟩ | ⟨g, cap, cur, rfl, _, _, h3, h4, _⟩
        · exact ⟨_, _, _, rfl, rfl, Nat.le_refl _, by omega⟩
        · exact ⟨_, _, _, rfl, rfl, h3, by simpa [maxLen] using h4⟩
      subst hnv
      rw [cellsTo_map] at hown
      have hout := ints_own hown
      have hge : (65 : Int) ≤ nv ∨ ((nv : Int) ≤ 64 ∧ (n : Int) ≤ nv) := by omega
      have HO : Hid (∀ m, m ≤ nv → Ints wr wr.heap.size Av ((List.range m).map (clkAt xs))) := hide (fun m hm => by
        have := hout.take m
        rwa [← List.map_take, List.take_range, Nat.min_eq_left hm] at this)
      clear hown hx hM hlt
      rcases hge with hge | ⟨hge', hge⟩
      all_goals
        go_wp2
        go_loop [3] (fun v => ∃ m : Nat, m ≤ nv ∧ v = .slice Av m cv ∧ lenOf (clkAt xs) m = lenOf (clkAt xs) 65) (fun v => match v with | .slice _ m _ => m | _ => 0)
        case atStart => exact ⟨nv, Nat.le_refl _, rfl, HL.out⟩
        case round =>
          obtain ⟨m, hm1, rfl, hl⟩ := hrel
          have HL1 := hide hl
          clear hl
          by_cases h0 : 0 < m
          · obtain ⟨ad, x, rfl, _, hx1, c1⟩ := hout.cell (k := m - 1) (by simp; omega)
            have hfx : clkAt xs (m - 1) = x := by
              simp at hx1
              obtain ⟨_, h1, h2⟩ := hx1
              rw [List.getElem?_range (by omega)] at h1
              injection h1 with h1
              rw [h1]; exact h2
            have Hfx := hide hfx
            clear hx1 hfx hout
            by_cases hx0 : x = 0
            · subst hx0
              go_wp2
              go_round
              case rel => exact ⟨m - 1, by omega, rfl, by rw [← HL1.out, show m = (m - 1) + 1 from by omega, lenOf, if_pos Hfx.out, Nat.add_sub_cancel]⟩
              case measure => show m - 1 < m; omega
            · have hxb : (x == 0) = false := by simpa using hx0
              have hlm : lenOf (clkAt xs) 65 = m := by rw [← HL1.out, show m = (m - 1) + 1 from by omega, lenOf, if_neg (by rw [Hfx.out]; exact hx0)]
              have HLM := hide hlm
              clear hlm hx0
              go_wp2
              go_ret
              exact ⟨_, _, _, rfl, by simp [shortOf, HLM.out], by omega, hcm, by rw [shortOf, HLM.out]; exact HO.out m hm1, hb⟩
          · obtain rfl : m = 0 := by omega
            have HLM : Hid (lenOf (clkAt xs) 65 = 0) := hide (by rw [← HL1.out]; rfl)
            clear HL1
            go_wp2
            go_ret
            exact ⟨_, _, _, rfl, by rw [shortOf, HLM.out]; rfl, by omega, hcm, by rw [shortOf, HLM.out]; exact Rd.nil, hb⟩

/-- a list of 65 ints, made by the call and filled up to k -/
def Filled (w wr : World) (g : Nat) (f : Nat → Int) : Prop := Blk wr g 3 (arr f) ∧ w.heap.size ≤ g ∧ Below w.heap.size w wr
theorem Filled.set_ {w wr : World} {g : Nat} {f f' : Nat → Int} (h : Filled w wr g f) (k : Nat) (v : Int) (e : (arr f).setIfInBounds k (.int .i64 v) = arr f') : Filled w (wr.setCell ⟨g, k, none⟩ (.int .i64 v)) g f' :=
  ⟨by rw [← e]; exact h.1.set_ _ _, h.2.1, h.2.2.setCell h.2.1 _⟩
theorem Filled.ints {w wr : World} {g : Nat} {f : Nat → Int} (h : Filled w wr g f) : Ints wr wr.heap.size (some ⟨g, 0, none⟩) ((List.range 65).map f) :=
  ints_mk (ad := ⟨g, 0, none⟩) h.1.lt fun k x hx => by
    rw [add_mk, h.1.cell, Nat.zero_add]
    rw [List.getElem?_map, Option.map_eq_some_iff] at hx
    obtain ⟨a, ha, rfl⟩ := hx
    have hk : k < 65 := by have := (List.getElem?_eq_some_iff.1 ha).1; simpa using this
    rw [List.getElem?_range hk] at ha
    injection ha with ha
    rw [← ha]
    exact arr_get f k hk
theorem clkAt_range (f : Nat → Int) (hf : ∀ i, 0 ≤ f i) (i : Nat) (hi : i < 65) : clkAt ((List.range 65).map f) i = f i := by
  have := hf i
  simp [clkAt, hi, pos]
  omega
theorem rep65 : rep 65 (.int .i64 0) = arr fun _ => 0 := by simp [rep, arr]; rfl

set_option maxHeartbeats 1000000 in
theorem refJoin_any (A B : Option Addr) (n c m d : Nat) (xs ys : List Int) (w : World) (hx : Ints w w.heap.size A xs) (hn : xs.length = n) (hy : Ints w w.heap.size B ys) (hn' : ys.length = m) :
    Calls Try.prog 14 #[.slice A n c, .slice B m d] w (GivesInts w (shortOf (withOf (clkAt xs) (clkAt ys)))) := by
  have Hn := hide hn
  have Hn' := hide hn'
  clear hn hn'
  have hmk := fun W => run_make_rep (P := Try.prog) Try.underlying22 (e := 3) (z := .int .i64 0) (by_ := 8) (by kernel_rfl) rfl .i64 .i64 65 65 (Nat.le_refl _) (by omega) (by omega) W
  rw [rep65] at hmk
  simp only [Int.cast_ofNat_Int] at hmk
  have F0 := hide (⟨Blk.new w _ _, Nat.le_refl _, (Below.refl _ _).alloc (Nat.le_refl _) _⟩ : Filled w (w.alloc (.cells (arr fun _ => 0) 3)) w.heap.size (fun _ => 0))
  go_enter Try.func14, Try.ntmps14
  go_wp2_with fail
  go_loopw [6, 10] (fun _ i wr => ∃ k : Nat, (k : Int) ≤ 65 ∧ i = .int .i64 k ∧ Filled w wr w.heap.size (part (withOf (clkAt xs) (clkAt ys)) k)) (fun _ i _ => 65 - (intOf i).toNat)
  case atStart => exact ⟨0, by omega, rfl, by have := F0.out; unfold Filled at this ⊢; rwa [part_zero]⟩
  case round =>
    obtain ⟨k, hk, rfl, hF⟩ := hrel
    have HF := hide hF
    clear hF
    by_cases hlt : (k : Int) < 65
    · have C1 := hide (fun i : Int => refAt_any A n c xs i wr ((hx.below HF.out.2.2 (Nat.le_refl _)).more HF.out.2.2.size) Hn.out)
      have C2 := hide (fun i : Int => refAt_any B m d ys i wr ((hy.below HF.out.2.2 (Nat.le_refl _)).more HF.out.2.2.size) Hn'.out)
      have s1 : Value.int .i64 (atSpec (clkAt xs) k) = Value.int .i64 (clkAt xs k) := by rw [atSpec_in _ _ (by omega)]
      have s2 : Value.int .i64 (atSpec (clkAt ys) k) = Value.int .i64 (clkAt ys k) := by rw [atSpec_in _ _ (by omega)]
      have hcell : wr.cell? ⟨w.heap.size, k, none⟩ = some (.int .i64 (part (withOf (clkAt xs) (clkAt ys)) k k)) := by rw [HF.out.1.cell, arr_get _ k (by omega)]
      have hfr := HF.out.1.frozen k
      have HN := hide (HF.out.set_ k _ (part_step (withOf (clkAt xs) (clkAt ys)) k))
      clear hx hy
      go_wp2_with (go_at_call 7; first
          | ((with_reducible refine (C1.out _).mono ?_); rintro e w' ⟨rfl, rfl⟩)
          | ((with_reducible refine (C2.out _).mono ?_); rintro e w' ⟨rfl, rfl⟩))
      all_goals
        go_roundw
        case rel => exact ⟨k + 1, by omega, by go_num, by simpa [withOf] using HN.out⟩
        case measure => first | (simp [intOf]; done) | (simp [intOf]; omega)
    · obtain rfl : k = 65 := by omega
      have hsh : shortOf (clkAt ((List.range 65).map (part (withOf (clkAt xs) (clkAt ys)) 65))) = shortOf (withOf (clkAt xs) (clkAt ys)) := by
        apply shortOf_congr
        intro i hi
        rw [clkAt_range _ (fun i => by unfold part withOf; split; split <;> exact pos_pos _; exact Int.le_refl _) i hi, part, if_pos hi]
      go_wp2_with fail
      refine (refShort_any _ _ _ ((List.range 65).map (part (withOf (clkAt xs) (clkAt ys)) 65)) _ HF.out.ints (by simp) (Nat.le_refl _) (by omega)).mono ?_
      rintro e w2 ⟨A', n', c', rfl, hl, h1, h2, h3, hb2⟩
      rw [hsh] at hl h3
      have HL := hide hl
      clear hl hsh
      go_wp2_with fail
      go_ret
      exact ⟨_, _, _, rfl, HL.out, h1, h2, h3, HF.out.2.2.trans (hb2.mono HF.out.2.2.size)⟩
end Go.Proofs.Ytoodcfldnojkjaa
