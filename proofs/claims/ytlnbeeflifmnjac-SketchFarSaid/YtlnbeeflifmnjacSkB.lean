/-
  The document's sets: List, Of, Less. Conditions: the slices read as lists of words.
-/
import Derived.Test.YtlnbeeflifmnjacSkA
import Derived.Test.YtlnbeeflifmnjacSkQ
import Derived.Test.YtlnbeeflifmnjacSkW
namespace Go.Proofs.Ytlnbeeflifmnjac
set_option linter.unusedSimpArgs false
set_option linter.unusedVariables false
open Go.RowKit

def listI (l : List Int) : List Int := (listW l).map Int.ofNat
def listK (l : List Int) (k : Nat) : List Int := ((List.range k).filter (mw l)).map Int.ofNat
theorem listK_yes {l : List Int} {k : Nat} (h : mw l k = true) : listK l (k + 1) = listK l k ++ [(k : Int)] := by
  unfold listK
  rw [List.range_succ, List.filter_append, List.map_append, List.filter_cons, if_pos h]
  rfl
theorem listK_no {l : List Int} {k : Nat} (h : mw l k = false) : listK l (k + 1) = listK l k := by
  unfold listK
  rw [List.range_succ, List.filter_append, List.map_append, List.filter_cons, if_neg (by rw [h]; decide)]
  simp
theorem listK_len (l : List Int) (k : Nat) : (listK l k).length ≤ k := by
  unfold listK
  rw [List.length_map]
  have h := List.length_filter_le (mw l) (List.range k)
  rwa [List.length_range] at h
/-- nothing is behind the words -/
theorem listK_end {l : List Int} {k : Nat} (hk : k ≤ 4096) (h : l.length ≤ k / 64) : listK l k = listI l := by
  unfold listK listI listW
  obtain ⟨d, hd⟩ : ∃ d, 4096 = k + d := ⟨4096 - k, by omega⟩
  rw [hd, List.range_add, List.filter_append]
  have : ((List.range d).map (k + ·)).filter (mw l) = [] := by
    rw [List.filter_eq_nil_iff]
    intro x hx
    obtain ⟨y, _, rfl⟩ := List.mem_map.1 hx
    intro e
    have := mw_len e
    omega
  rw [this, List.append_nil]
theorem fcsI_snoc' (l : List Int) (x : Int) : fcs encI (l ++ [x]) = fcs encI l ++ [.int .i64 x] := fcs_snoc l x
set_option maxHeartbeats 2000000 in
set_option maxRecDepth 100000 in
theorem rList_any {A : Option Addr} {n c : Nat} {l : List Int} {w : World} (hx : Rd (Sh.int .u64) w w.heap.size A l) (hn : l.length = n) (hc : n ≤ c) (hu : UL l) :
    Calls Try.prog 21 #[.slice A n c] w fun e w' => ∃ v, e = .returned v ∧ NewL (Sh.int .i64) w (listI l) v w' := by
  have HX := hide hx
  have Hn := hide hn
  have HU := hide hu
  have HB0 := hide (Below.refl w.heap.size w)
  clear hx hn hu
  go_enter Try.func21, Try.ntmps21
  go_wp2
  go_loopw [3, 4] (fun o i wr => ∃ (k j : Nat) (B : Option Addr) (d : Nat), k ≤ 4096 ∧ j ≤ k ∧ i = .int .i64 k ∧ o = .slice B j d ∧ j ≤ d ∧ d ≤ 9223372036854775807 ∧ Hid ((listK l k).length = j) ∧ Hid (wr.ownsRow w.heap.size 3 1 (.slice B j d) j (fcs encI (listK l k))) ∧ Hid (Below w.heap.size w wr)) (fun _ i _ => 4096 - (intOf i).toNat)
  case atStart => exact ⟨0, 0, none, 0, by omega, by omega, rfl, rfl, by omega, by omega, hide rfl, hide (World.ownsRow_nil _ _ _ _), HB0⟩
  case round =>
    obtain ⟨k, j, B, d, hk, hj, rfl, rfl, c1, c2, HLn, HO, HBr⟩ := hrel
    clear HB0
    by_cases h4 : k < 4096
    · have e4 : decide ((k : Int) < 4096) = true := decide_eq_true (by omega)
      by_cases h1 : k / 64 < n
      · have e1 : decide ((k : Int) / 64 < n) = true := decide_eq_true (by omega)
        have CH := hide (rHas_any (HX.out.at_world HBr.out) Hn.out hc HU.out (k : Int) (by omega))
        rw [hasW_nat _ _ h4] at CH
        by_cases hm : mw l k = true
        · have HSn := hide (listK_yes hm)
          rw [hm] at CH
          clear hm
          go_wp2_with (first
            | (go_at_call 36; refine CH.out.mono ?_; rintro e w3 ⟨rfl, rfl⟩)
            | (at_builtin; refine wpList_append_elem rfl (.tmp 19) (.tmp 21) 32 rfl w.heap.size Try.underlying32 info_intE rfl (by decide) (.slice B j d) j _ rfl HO.out _ _ rfl rfl (by simp [Value.oneCell']) (by simp only [maxLen]; omega) (by omega) HBr.out.size ?_; intro v9 w9 hown9 hgr9 hat9; have HO9 := hide (show w9.ownsRow w.heap.size 3 1 v9 (j + 1) (fcs encI (listK l (k + 1))) by rw [HSn.out, fcsI_snoc']; exact hown9); have HB9 := hide (below_own HBr.out HO.out HBr.out.size hgr9); obtain ⟨A8, c8, rfl, l1, l2⟩ := own_form hown9; clear hown9 hgr9 hat9))
          go_roundw
          case rel => exact ⟨k + 1, j + 1, A8, c8, by omega, by omega, by go_num, rfl, l1, l2, hide (by rw [HSn.out, List.length_append, HLn.out]; rfl), HO9, HB9⟩
          case measure => simp [intOf]; omega
        · have hm := Bool.eq_false_iff.2 hm
          have HSn := hide (listK_no hm)
          rw [hm] at CH
          clear hm
          go_wp2_with (go_at_call 36; refine CH.out.mono ?_; rintro e w3 ⟨rfl, rfl⟩)
          go_roundw
          case rel => exact ⟨k + 1, j, B, d, by omega, by omega, by go_num, rfl, c1, c2, by rw [HSn.out]; exact HLn, by rw [HSn.out]; exact HO, HBr⟩
          case measure => simp [intOf]; omega
      · have e1 : decide ((k : Int) / 64 < n) = false := decide_eq_false (by omega)
        have HF := hide (listK_end (l := l) (k := k) hk (by have := Hn.out; omega))
        have HG := hide (show ∃ v, Ending.returned (.slice B j d) = .returned v ∧ NewL (Sh.int .i64) w (listI l) v wr from ⟨_, rfl, flatI.new (by rw [← HF.out]; exact HO.out) HBr.out⟩)
        clear HF HO HLn
        go_wp2
        go_ret
        exact HG.out
    · obtain rfl : k = 4096 := by omega
      have HG := hide (show ∃ v, Ending.returned (.slice B j d) = .returned v ∧ NewL (Sh.int .i64) w (listI l) v wr from ⟨_, rfl, flatI.new HO.out HBr.out⟩)
      clear HO HLn
      go_wp2
      go_ret
      exact HG.out
end Go.Proofs.Ytlnbeeflifmnjac
