/-
  The document's sets: Of. Condition: the slice reads as a list of numbers.
-/
import Derived.Test.YtlnbeeflifmnjacSkB
namespace Go.Proofs.Ytlnbeeflifmnjac
set_option linter.unusedSimpArgs false
set_option linter.unusedVariables false
open Go.RowKit

theorem take_snoc' {l : List Int} {k : Nat} {x : Int} (h : l[k]? = some x) : l.take (k + 1) = l.take k ++ [x] := by rw [List.take_add_one, h]; rfl
/-- what Of gives -/
def GivesO (l : List Int) (w : World) (e : Ending) (w' : World) : Prop := ∃ s v, IsOf s l ∧ e = .returned v ∧ NewL (Sh.int .u64) w s v w'
set_option maxHeartbeats 4000000 in
set_option maxRecDepth 100000 in
theorem rOf_any {A : Option Addr} {n c : Nat} {l : List Int} {w : World} (hx : Rd (Sh.int .i64) w w.heap.size A l) (hn : l.length = n) (hc : n ≤ c) (hm : c ≤ 9223372036854775807) (hw : ∀ x ∈ l, x ≤ 9223372036854775807) :
    Calls Try.prog 26 #[.slice A n c] w (GivesO l w) := by
  have HX := hide hx
  have Hn := hide hn
  have HW := hide hw
  have HB0 := hide (Below.refl w.heap.size w)
  clear hx hn hw
  go_enter Try.func26, Try.ntmps26
  go_wp2
  go_loopw [3, 8] (fun o i wr => ∃ (k m : Nat) (B : Option Addr) (d : Nat) (s : List Int), k ≤ n ∧ m ≤ 64 ∧ i = .int .i64 k ∧ o = .slice B m d ∧ m ≤ d ∧ d ≤ 9223372036854775807 ∧ Hid (s.length = m) ∧ Hid (IsOf s (l.take k)) ∧ Hid (wr.ownsRow w.heap.size 23 1 (.slice B m d) m (fcs encU s)) ∧ Hid (Below w.heap.size w wr)) (fun _ i _ => n - (intOf i).toNat)
  case atStart => exact ⟨0, 0, none, 0, [], by omega, by omega, rfl, rfl, by omega, by omega, hide rfl, hide IsOf.nil, hide (World.ownsRow_nil _ _ _ _), HB0⟩
  case round =>
    obtain ⟨k, m, B, d, s, hk, hm6, rfl, rfl, c1, c2, HLn, HI, HO, HBr⟩ := hrel
    clear HB0
    by_cases hlt : k < n
    · have g0 : (0 : Int) ≤ k := by omega
      have g1 : (k : Int) < n := by omega
      obtain ⟨ad, x, rfl, _, hv, q0⟩ := Rd.icell (HX.out.at_world HBr.out) (k := k) (by have := Hn.out; omega)
      have hx63 := HW.out x (List.mem_of_getElem? hv)
      have HT := hide (take_snoc' hv)
      clear hv
      by_cases hx0 : x < 0
      · have e0 : decide (x < 0) = true := decide_eq_true hx0
        have HI2 := hide (HI.out.skip (x := x) (.inl hx0))
        rw [← HT.out] at HI2
        go_wp2
        go_roundw
        case rel => exact ⟨k + 1, m, B, d, s, by omega, hm6, by go_num, rfl, c1, c2, HLn, HI2, HO, HBr⟩
        case measure => simp [intOf]; omega
      · by_cases hx4 : 4096 ≤ x
        · have e0 : decide (x < 0) = false := decide_eq_false hx0
          have e4 : decide (4096 ≤ x) = true := decide_eq_true hx4
          have HI2 := hide (HI.out.skip (x := x) (.inr hx4))
          rw [← HT.out] at HI2
          go_wp2
          go_roundw
          case rel => exact ⟨k + 1, m, B, d, s, by omega, hm6, by go_num, rfl, c1, c2, HLn, HI2, HO, HBr⟩
          case measure => simp [intOf]; omega
        · obtain ⟨q, rfl⟩ : ∃ q : Nat, x = q := ⟨x.toNat, by omega⟩
          have hq : q < 4096 := by omega
          have e0 : decide ((q : Int) < 0) = false := decide_eq_false hx0
          have e4 : decide ((4096 : Int) ≤ q) = false := decide_eq_false hx4
          have h64 : q / 64 < 64 := by omega
          clear hx0 hx4 hx63
          go_upto_region 6 with fail
          go_loopw [3] (fun o wr => ∃ (j M : Nat) (B' : Option Addr) (d' : Nat), M = m + j ∧ M ≤ max m (q / 64 + 1) ∧ o = .slice B' M d' ∧ M ≤ d' ∧ d' ≤ 9223372036854775807 ∧ Hid (wr.ownsRow w.heap.size 23 1 (.slice B' M d') M (fcs encU (s ++ List.replicate j 0))) ∧ Hid (Below w.heap.size w wr)) (fun o _ => 64 - (match o with | .slice _ M _ => M | _ => 0))
          case atStart => exact ⟨0, m, B, d, rfl, by omega, rfl, c1, c2, by rw [List.replicate_zero, List.append_nil]; exact HO, HBr⟩
          case round =>
            obtain ⟨j, M, B', d', hM, hMb, rfl, c3, c4, HO', HBr'⟩ := hrel
            clear HO HBr q0
            by_cases hlt2 : M ≤ q / 64
            · have e5 : decide ((M : Int) ≤ (q : Int) / 64) = true := decide_eq_true (by omega)
              have hM64 : M < 64 := by omega
              go_wp2_with (at_builtin; refine wpList_append_elem rfl (.tmp 23) (.tmp 24) 25 rfl w.heap.size Try.underlying25 info_word rfl (by decide) (.slice B' M d') M _ rfl HO'.out _ _ rfl rfl (by simp [Value.oneCell']) (by simp only [maxLen]; omega) (by omega) HBr'.out.size ?_; intro v9 w9 hown9 hgr9 hat9; have HO9 := hide (show w9.ownsRow w.heap.size 23 1 v9 (M + 1) (fcs encU (s ++ List.replicate (j + 1) 0)) by rw [List.replicate_succ', ← List.append_assoc, fcsU_snoc]; exact hown9); have HB9 := hide (below_own HBr'.out HO'.out HBr'.out.size hgr9); obtain ⟨A8, c8, rfl, l1, l2⟩ := own_form hown9; clear hown9 hgr9 hat9)
              go_roundw
              case rel => exact ⟨j + 1, M + 1, A8, c8, by omega, by omega, by first | rfl | rw [hM], l1, l2, HO9, HB9⟩
              case measure => simp only []; omega
            · have e5 : decide ((M : Int) ≤ (q : Int) / 64) = false := decide_eq_false (by omega)
              obtain ⟨g, cap, hv, hg, hgl⟩ := HO'.out.form (by omega)
              injection hv with hv1 _ hv3
              subst hv1 hv3
              have HR := hide (show RowU wr w.heap.size g M d' (s ++ List.replicate j 0) from HO'.out)
              have hul := ul_zeros HI.out.c.u j
              have hlen := HR.out.len
              have CH := hide (rHas_any (HR.out.rdr (R := fun d => d < wr.heap.size) hgl) hlen c3 hul (q : Int) (by omega))
              rw [hasW_nat _ _ hq, mw_zeros] at CH
              by_cases hms : mw s q = true
              · rw [hms] at CH
                have hj : j = 0 := by have := mw_len hms; have := HLn.out; omega
                subst hj
                rw [List.replicate_zero, List.append_nil] at HO'
                have HI2 := hide (HI.out.again hq hms)
                rw [← HT.out] at HI2
                obtain rfl : m = M := by omega
                clear hms hul hlen HR hM hMb hlt2
                go_wp2_with (go_at_call 36; refine CH.out.mono ?_; rintro e w3 ⟨rfl, rfl⟩)
                go_roundw
                case rel => exact ⟨k + 1, m, some ⟨g, 0, none⟩, d', s, by omega, hm6, by go_num, rfl, c3, c4, HLn, HI2, HO', HBr'⟩
                case measure => simp [intOf]; omega
              · have hms := Bool.eq_false_iff.2 hms
                rw [hms] at CH
                obtain ⟨y, hy⟩ : ∃ y, (s ++ List.replicate j 0)[q / 64]? = some y := ⟨_, List.getElem?_eq_getElem (by omega)⟩
                have hyb := hul y (List.mem_of_getElem? hy)
                have hyd : (s ++ List.replicate j 0).getD (q / 64) 0 = y := by rw [List.getD_eq_getElem?_getD, hy]; rfl
                have hyt : tb y (q % 64) = false := by rw [← hyd]; exact (mw_zeros s j q).trans hms
                obtain ⟨a1, a2⟩ := tb_add hyb (show q % 64 < 64 by omega) hyt
                have q1 := HR.out.cell hy
                have f1 := HR.out.frozen (q / 64)
                have hw2 : IntKind.u64.wrap (2 ^ (q % 64)) = 2 ^ (q % 64) := by
                  have h := bit_small (show q % 64 < 64 by omega)
                  have e : (2 : Int) ^ (q % 64) = ((2 ^ (q % 64) : Nat) : Int) := by simp
                  rw [IntKind.wrap_u64, e]
                  exact Int.emod_eq_of_lt (Int.natCast_nonneg _) (ltc _ h)
                have hzw : IntKind.u64.wrap (y + IntKind.u64.wrap (2 ^ (q % 64))) = y + 2 ^ (q % 64) := by rw [hw2, IntKind.wrap_u64]; exact Int.emod_eq_of_lt a1.1 a1.2
                obtain ⟨z, hz⟩ : ∃ z, y + 2 ^ (q % 64) = z := ⟨_, rfl⟩
                rw [hz] at a1 a2 hzw
                have HZ := hide hzw
                clear hzw hw2 hz
                have HI2 := hide (HI.out.put (j := j) hq hms (by have := HLn.out; omega) (by omega) a1 (by rw [hyd]; exact a2))
                rw [← HT.out] at HI2
                have HR2 := hide (HR.out.set (i := q / 64) z)
                have HB2 := hide (HBr'.out.setCell (p := ⟨g, q / 64, none⟩) hg (.int .u64 z))
                have HL2 := hide (show ((s ++ List.replicate j 0).set (q / 64) z).length = M by rw [List.length_set, hlen])
                have b0 : (0 : Int) ≤ (q : Int) / 64 := by omega
                have b1 : (q : Int) / 64 < M := by omega
                obtain ⟨s2, hs2⟩ : ∃ s2, (s ++ List.replicate j 0).set (q / 64) z = s2 := ⟨_, rfl⟩
                rw [hs2] at HI2 HR2 HL2
                have hM6 : M ≤ 64 := by omega
                clear hms hul hlen HO' hy hyd hyt a2 HR hs2 hM hMb hlt2 hyb
                go_wp2_with (go_at_call 36; refine CH.out.mono ?_; rintro e w3 ⟨rfl, rfl⟩)
                go_roundw
                case rel => rw [HZ.out]; exact ⟨k + 1, M, some ⟨g, 0, none⟩, d', s2, by omega, hM6, by go_num, rfl, c3, c4, HL2, HI2, HR2, HB2⟩
                case measure => simp [intOf]; omega
    · obtain rfl : n = k := by omega
      have e1 : l.take n = l := List.take_of_length_le (by have := Hn.out; omega)
      rw [e1] at HI
      have HG := hide (show GivesO l w (.returned (.slice B m d)) wr from ⟨s, _, HI.out, rfl, flatU.new HO.out HBr.out⟩)
      clear HO HLn HI e1
      go_wp2
      go_ret
      exact HG.out
end Go.Proofs.Ytlnbeeflifmnjac
