/-
  bitset.Of. Condition: the slice reads as a list of numbers.
-/
import Derived.Test.YtlnbeeflifmnjacSkE
namespace Go.Proofs.Ytlnbeeflifmnjac
set_option linter.unusedSimpArgs false
set_option linter.unusedVariables false
open Go.RowKit

/-- how far a set's numbers go -/
def mostP : List Int → Nat
  | [] => 0
  | x :: l => if x < 4096 then max (mostP l) (x + 1).toNat else mostP l
theorem mostP_snoc (l : List Int) (x : Int) : mostP (l ++ [x]) = if x < 4096 then max (mostP l) (x + 1).toNat else mostP l := by
  induction l with
  | nil => simp [mostP]
  | cons y l ih =>
    simp only [List.cons_append, mostP, ih]
    split <;> split <;> omega
theorem mostP_le : ∀ l : List Int, mostP l ≤ 4096
  | [] => by simp [mostP]
  | x :: l => by have := mostP_le l; simp only [mostP]; split <;> omega
theorem mostP_mem : ∀ {l : List Int} {x : Int}, x ∈ l → x < 4096 → x + 1 ≤ (mostP l : Nat)
  | y :: l, x, h, hx => by
    simp only [mostP]
    rcases List.mem_cons.1 h with rfl | h
    · rw [if_pos hx]; omega
    · have := mostP_mem h hx
      split <;> omega
/-- the words, as far as they are put -/
structure PutW (M : Nat) (t l : List Int) : Prop where
  u : UL t
  n : t.length = M
  m : ∀ n, n < 4096 → mw t n = decide ((n : Int) ∈ l)
theorem PutW.start (M : Nat) : PutW M (List.replicate M 0) [] where
  u x hx := by rw [List.eq_of_mem_replicate hx]; omega
  n := List.length_replicate
  m n hn := by
    have h := mw_zeros [] M n
    rw [List.nil_append] at h
    rw [h]
    exact IsOf.nil.m n hn
theorem PutW.skip {M : Nat} {t l : List Int} {x : Int} (h : PutW M t l) (hx : x < 0 ∨ 4096 ≤ x) : PutW M t (l ++ [x]) where
  u := h.u
  n := h.n
  m n hn := by
    rw [h.m n hn, decide_eq_decide]
    simp only [List.mem_append, List.mem_singleton]
    constructor
    · exact .inl
    · rintro (h | h)
      · exact h
      · omega
theorem PutW.put {M k : Nat} {t l : List Int} (h : PutW M t l) (hk : k / 64 < M) : PutW M (t.set (k / 64) (bits .or .u64 (t.getD (k / 64) 0) (2 ^ (k % 64)))) (l ++ [(k : Int)]) := by
  obtain ⟨a1, a2⟩ := tb_orb (h.u.getD (k / 64)) (show k % 64 < 64 by omega)
  refine ⟨ul_set h.u a1, by rw [List.length_set, h.n], fun n hn => ?_⟩
  rw [mw_set (by rw [h.n]; exact hk) a2, h.m n hn, Bool.eq_iff_iff]
  simp only [Bool.or_eq_true, decide_eq_true_eq, List.mem_append, List.mem_singleton]
  exact or_congr Iff.rfl (by omega)
theorem PutW.is {M : Nat} {t l : List Int} (h : PutW M t l) (hM : M ≤ 64) : IsOf (shL t) l where
  c := shL_canon h.u (by rw [h.n]; exact hM)
  m n hn := by rw [mw_shL]; exact h.m n hn
theorem repU (M : Nat) : (rep M (.int .u64 0)).toList = (List.replicate M (0 : Int)).map (Value.int .u64) := by simp [rep]
set_option maxHeartbeats 4000000 in
set_option maxRecDepth 100000 in
theorem eOf_any {A : Option Addr} {n c : Nat} {l : List Int} {w : World} (hx : Rd (Sh.int .i64) w w.heap.size A l) (hn : l.length = n) (hc : n ≤ c) (hm : c ≤ 9223372036854775807) (hw : ∀ x ∈ l, -9223372036854775808 ≤ x ∧ x ≤ 9223372036854775807) :
    Calls Try.prog 20 #[.slice A n c] w (GivesO l w) := by
  have HX := hide hx
  have Hn := hide hn
  have HW := hide hw
  clear hx hn hw
  go_enter Try.func20, Try.ntmps20
  go_wp2
  go_loopw [3, 11] (fun s i wr => ∃ k : Nat, k ≤ n ∧ i = .int .i64 k ∧ s = .int .i64 (mostP (l.take k) : Nat) ∧ w = wr) (fun _ i _ => n - (intOf i).toNat)
  case atStart => exact ⟨0, by omega, rfl, rfl, rfl⟩
  case round =>
    obtain ⟨k, hk, rfl, rfl, rfl⟩ := hrel
    have hmo := mostP_le (l.take k)
    by_cases hlt : k < n
    · obtain ⟨ad, x, rfl, _, hxv, q0⟩ := Rd.icell HX.out (k := k) (by have := Hn.out; omega)
      have g0 : (0 : Int) ≤ k := by omega
      have g1 : (k : Int) < n := by omega
      have hxb : -9223372036854775808 ≤ x ∧ x ≤ 9223372036854775807 := HW.out x (List.mem_of_getElem? hxv)
      have HS := hide (show mostP (l.take (k + 1)) = (if x < 4096 then max (mostP (l.take k)) (x + 1).toNat else mostP (l.take k)) by rw [take_snoc' hxv]; exact mostP_snoc _ _)
      by_cases h4 : x < 4096
      · have e4 : decide (x < 4096) = true := decide_eq_true h4
        rw [if_pos h4] at HS
        obtain ⟨t, ht⟩ : ∃ t, mostP (l.take k) = t := ⟨_, rfl⟩
        rw [ht] at HS hmo
        rw [ht]
        have hmx : max (t : Int) (x + 1) = ((max t (x + 1).toNat : Nat) : Int) := by omega
        clear hxv ht
        go_wp2
        go_roundw
        case rel => exact ⟨k + 1, by omega, by go_num, by first | (rw [HS.out]; done) | (rw [HS.out, hmx]; done) | (rw [HS.out]; go_num), by first | rfl | trivial⟩
        case measure => simp [intOf]; omega
      · have e4 : decide (x < 4096) = false := decide_eq_false h4
        rw [if_neg h4] at HS
        clear hxv
        go_wp2
        go_roundw
        case rel => exact ⟨k + 1, by omega, by go_num, by rw [HS.out], by first | rfl | trivial⟩
        case measure => simp [intOf]; omega
    · obtain rfl : n = k := by omega
      have e1 : l.take n = l := List.take_of_length_le (by have := Hn.out; omega)
      rw [e1] at hmo
      rw [e1]
      have HMm := hide (show ∀ x : Int, x ∈ l → x < 4096 → x + 1 ≤ (mostP l : Nat) from fun x h h4 => mostP_mem h h4)
      obtain ⟨t, ht⟩ : ∃ t, mostP l = t := ⟨_, rfl⟩
      rw [ht] at hmo HMm
      rw [ht]
      obtain ⟨M, hM⟩ : ∃ M, (t + 63) / 64 = M := ⟨_, rfl⟩
      have hM6 : M ≤ 64 := by omega
      have hdiv : ((t : Int) + 64 - 1).tdiv 64 = (M : Int) := by rw [Int.tdiv_eq_ediv_of_nonneg (by omega)]; omega
      have hdiv2 : ((t : Int) + 64 - 1) / 64 = (M : Int) := by omega
      have HtM := hide (show ∀ x : Int, x ∈ l → 0 ≤ x → x < 4096 → x / 64 < M from fun x h h0 h4 => by have := HMm.out x h h4; omega)
      obtain ⟨i1, hi1, hz1, hsz1, hby1⟩ := info_parts info_u64
      have hmk : ∀ u : World, (Instr.makeSlice 25 (.int .i64 (M : Int)) (.int .i64 (M : Int))).run Try.prog u = .ok (.slice (some ⟨u.heap.size, 0, none⟩) M M) (u.alloc (.cells (rep M (.int .u64 0)) 23)) := fun u => by
        have h := run_make_rowN (P := Try.prog) 25 23 i1 (.int .u64 0) Try.underlying25 hi1 hz1 .i64 .i64 M M (Nat.le_refl _) (by rw [hby1]; omega) (by omega) u
        rw [hsz1, Nat.mul_one] at h
        rw [h, madeCells_rep]
      clear e1 ht HMm
      go_upto_region 9 with fail
      have HB0 := hide (below1 w (.cells (rep M (.int .u64 0)) 23))
      have hgw : w.heap.size < (w.alloc (.cells (rep M (.int .u64 0)) 23)).heap.size := by simp
      have HR0 := hide (show RowU (w.alloc (.cells (rep M (.int .u64 0)) 23)) w.heap.size w.heap.size M M (List.replicate M 0) from
        .of (Nat.le_refl _) (cur := rep M (.int .u64 0)) (Blk.new _ _ _) (by simp [rep]) (by rw [repU, List.take_of_length_le (by simp)]) (Nat.le_refl _) (by simp only [maxLen]; omega) List.length_replicate)
      generalize World.alloc w _ = w1 at *
      obtain ⟨g, hg⟩ : ∃ g, w.heap.size = g := ⟨_, rfl⟩
      have Hg := hide hg
      rw [hg] at hgw
      have HR1 := hide (show RowU w1 w.heap.size g M M (List.replicate M 0) by rw [← hg]; exact HR0.out)
      rw [hg]
      clear hg hmk HR0
      have HP0 := hide (PutW.start M)
      go_wp2
      go_loopw [29] (fun i wr => ∃ (k : Nat) (t : List Int), k ≤ n ∧ i = .int .i64 k ∧ Hid (PutW M t (l.take k)) ∧ Hid (RowU wr w.heap.size g M M t) ∧ Hid (Below w.heap.size w wr)) (fun i _ => n - (intOf i).toNat)
      case atStart => exact ⟨0, _, by omega, rfl, HP0, HR1, HB0⟩
      case round =>
        obtain ⟨k, t, hk, rfl, HP, HR, HBr⟩ := hrel
        clear HP0 HR1 HB0
        by_cases hlt : k < n
        · obtain ⟨ad, x, rfl, _, hxv, q0⟩ := Rd.icell (HX.out.at_world HBr.out) (k := k) (by have := Hn.out; omega)
          have g0 : (0 : Int) ≤ k := by omega
          have g1 : (k : Int) < n := by omega
          have hxm := List.mem_of_getElem? hxv
          have HT := hide (take_snoc' hxv)
          clear hxv
          by_cases hx0 : x < 0
          · have e0 : decide (0 ≤ x) = false := decide_eq_false (by omega)
            have HP2 := hide (HP.out.skip (x := x) (.inl hx0))
            rw [← HT.out] at HP2
            clear hxm
            go_wp2
            go_roundw
            case rel => exact ⟨k + 1, t, by omega, by go_num, HP2, HR, HBr⟩
            case measure => simp [intOf]; omega
          · have e0 : decide (0 ≤ x) = true := decide_eq_true (by omega)
            by_cases hx4 : x < 4096
            · have e4 : decide (x < 4096) = true := decide_eq_true hx4
              have hq := HtM.out x hxm (by omega) hx4
              obtain ⟨q, rfl⟩ : ∃ q : Nat, x = q := ⟨x.toNat, by omega⟩
              have hqM : q / 64 < M := by omega
              have b0 : (0 : Int) ≤ (q : Int) / 64 := by omega
              have b1 : (q : Int) / 64 < M := by omega
              have HP2 := hide (HP.out.put hqM)
              rw [← HT.out] at HP2
              obtain ⟨y, hy⟩ : ∃ y, t[q / 64]? = some y := ⟨_, List.getElem?_eq_getElem (by have := HP.out.n; omega)⟩
              have hyd : t.getD (q / 64) 0 = y := by rw [List.getD_eq_getElem?_getD, hy]; rfl
              rw [hyd] at HP2
              have q1 := HR.out.cell hy
              have f1 := HR.out.frozen (q / 64)
              have HR2 := hide (HR.out.set (i := q / 64) (bits .or .u64 y (2 ^ (q % 64))))
              have HB2 := hide (HBr.out.setCell (p := ⟨g, q / 64, none⟩) (by have := Hg.out; show w.heap.size ≤ g; omega) (.int .u64 (bits .or .u64 y (2 ^ (q % 64)))))
              have HW2 := hide (show IntKind.u64.wrap (2 ^ (q % 64)) = 2 ^ (q % 64) by
                have h := bit_small (show q % 64 < 64 by omega)
                have e : (2 : Int) ^ (q % 64) = ((2 ^ (q % 64) : Nat) : Int) := by simp
                rw [IntKind.wrap_u64, e]
                exact Int.emod_eq_of_lt (Int.natCast_nonneg _) (ltc _ h))
              obtain ⟨t2, ht2⟩ : ∃ t2, t.set (q / 64) (bits .or .u64 y (2 ^ (q % 64))) = t2 := ⟨_, rfl⟩
              rw [ht2] at HP2 HR2
              clear hq hxm hx0 hy hyd HP HR hqM ht2
              go_wp2
              go_region
              all_goals
                go_wp2
                go_roundw
                case rel => rw [HW2.out]; exact ⟨k + 1, t2, by omega, by go_num, HP2, HR2, hide HB2.out.drew⟩
                case measure => simp [intOf]; omega
            · have e4 : decide (x < 4096) = false := decide_eq_false hx4
              have HP2 := hide (HP.out.skip (x := x) (.inr (by omega)))
              rw [← HT.out] at HP2
              clear hxm
              go_wp2
              go_roundw
              case rel => exact ⟨k + 1, t, by omega, by go_num, HP2, HR, HBr⟩
              case measure => simp [intOf]; omega
        · obtain rfl : n = k := by omega
          have e1 : l.take n = l := List.take_of_length_le (by have := Hn.out; omega)
          rw [e1] at HP
          have HI := hide (HP.out.is hM6)
          have hgl := HR.out.lt
          have CS := hide (short_any (c := M) (HR.out.rdr (R := fun d => d < wr.heap.size) hgl) HP.out.n (Nat.le_refl _) (by omega))
          have HN := hide (show NewL (Sh.int .u64) w (shL t) (.slice (some ⟨g, 0, none⟩) (shortN t) M) wr from
            ⟨_, _, _, rfl, (by have h := shortN_le t; unfold shL; rw [List.length_take]; omega), (by have h := shortN_le t; have h2 := HP.out.n; omega), (by omega), ((HR.out.rdr (R := Btw w.heap.size wr.heap.size) ⟨by have := Hg.out; omega, hgl⟩).take _), HBr.out⟩)
          clear e1 HP HR
          go_wp2_with (go_at_call 35; refine CS.out.mono ?_; rintro e w2 ⟨rfl, rfl⟩)
          go_ret
          exact ⟨_, _, HI.out, rfl, HN.out⟩
end Go.Proofs.Ytlnbeeflifmnjac
