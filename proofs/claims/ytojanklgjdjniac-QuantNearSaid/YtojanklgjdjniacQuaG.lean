/-
  The package quant: what a code stands for. Conditions: the slices read as a book and a code.
-/
import Derived.Test.YtojanklgjdjniacQuaF
namespace Go.Proofs.Ytojanklgjdjniac
open Go.RowKit

def inR (n : Int) (m : Nat) : Prop := 0 ≤ n ∧ n < m
/-- a code's numbers are places of the parts -/
def okC (b : Book) (code : List Int) : Prop := code.length = b.length ∧ ∀ (i : Nat) (p : Part) (n : Int), b[i]? = some p → code[i]? = some n → inR n p.length
open Classical in
noncomputable def decE (b : Book) (code : List Int) : Int := if chkB b = false then 7 else if okC b code then 0 else 6
def ctr (b : Book) (code : List Int) (i : Nat) : List Int := (b.getD i []).getD (code.getD i 0).toNat []
def decK (b : Book) (code : List Int) : Nat → List Int
  | 0 => []
  | k + 1 => decK b code k ++ ctr b code k
open Classical in
noncomputable def decOf (b : Book) (code : List Int) : List Int := if decE b code = 0 then decK b code b.length else []
theorem decE_bad {b : Book} (code : List Int) (h : chkB b = false) : decE b code = 7 := by unfold decE; rw [if_pos h]
theorem decE_no {b : Book} {code : List Int} (h : chkB b = true) (hc : ¬ okC b code) : decE b code = 6 := by
  unfold decE; rw [if_neg (by rw [h]; simp), if_neg hc]
theorem decE_yes {b : Book} {code : List Int} (h : chkB b = true) (hc : okC b code) : decE b code = 0 := by
  unfold decE; rw [if_neg (by rw [h]; simp), if_pos hc]
theorem decE_zero {b : Book} {code : List Int} (h : decE b code = 0) : chkB b = true ∧ okC b code := by
  unfold decE at h
  by_cases h1 : chkB b = false
  · rw [if_pos h1] at h; simp at h
  · rw [if_neg h1] at h
    by_cases h2 : okC b code
    · exact ⟨by simpa using h1, h2⟩
    · rw [if_neg h2] at h; simp at h
theorem ctr_of {b : Book} {code : List Int} {i : Nat} {p : Part} {n : Nat} {c : List Int} (h : b[i]? = some p) (hn : code[i]? = some (n : Int)) (hc : p[n]? = some c) : ctr b code i = c := by
  simp [ctr, List.getD_eq_getElem?_getD, h, hn, hc]
theorem right_len {p : Part} (h : rightB p = true) {c : List Int} (hc : c ∈ p) : c.length = dim0 p := by
  unfold rightB at h
  rw [Bool.and_eq_true, List.all_eq_true] at h
  have := vecOk_len (h.2 c hc)
  omega
def GivesD (w : World) (b : Book) (code : List Int) (e : Ending) (w' : World) : Prop :=
  ∃ A' n' c', e = .returned (.tuple #[.slice A' n' c', .int .i64 (decE b code)]) ∧ (decOf b code).length = n' ∧ n' ≤ c' ∧ c' ≤ 9223372036854775807 ∧ RdR (Sh.int .i32) w' (Btw w.heap.size w'.heap.size) A' (decOf b code) ∧ Below w.heap.size w w'
theorem info_i32 : (Try.prog.info? 21).map (fun i => (i.zero, i.size, i.bytes)) = some (some (.int .i32 0), 1, 4) := by kernel_rfl

set_option maxHeartbeats 4000000 in
theorem decode_any (A C : Option Addr) (nb cb m d : Nat) (b : Book) (code : List Int) (w : World) (hx : Rd SPart w w.heap.size A b) (hn : b.length = nb) (hc : nb ≤ cb) (hm : cb ≤ 9223372036854775807)
    (hy : Rd (Sh.int .i64) w w.heap.size C code) (hn' : code.length = m) (hd : m ≤ d) (hm' : d ≤ 9223372036854775807) :
    Calls Try.prog 7 #[.slice A nb cb, .slice C m d] w (GivesD w b code) := by
  have HC := hide (qcheck_any A nb cb b w hx hn hc hm)
  cases hk : chkB b
  · have HE := hide (decE_bad code hk)
    have HO := hide (show decOf b code = [] by unfold decOf; rw [if_neg (by rw [decE_bad code hk]; simp)])
    have e7 : chkE b = 7 := by unfold chkE; rw [hk]; rfl
    rw [e7] at HC
    clear hx hy hn hn' hk e7
    go_enter Try.func7, Try.ntmps7
    go_wp2_with (go_at_call 8; refine HC.out.mono ?_; rintro e w1 ⟨rfl, hb⟩; have HB1 := hide hb; clear hb)
    go_ret2
    exact ⟨none, 0, 0, by rw [HE.out]; rfl, by rw [HO.out]; rfl, Nat.le_refl _, by omega, by rw [HO.out]; exact RdR.nil, HB1.out⟩
  have e0 : chkE b = 0 := by unfold chkE; rw [hk]; rfl
  rw [e0] at HC
  by_cases hlen : m = nb
  case neg =>
    have hno : ¬ okC b code := fun h => hlen (by rw [← hn, ← hn']; exact h.1)
    have HE := hide (decE_no hk hno)
    have HO := hide (show decOf b code = [] by unfold decOf; rw [if_neg (by rw [decE_no hk hno]; simp)])
    have hb0 : ((m : Int) != nb) = true := by rw [bne_iff_ne]; omega
    clear hx hy hn hn' hk e0 hno hlen
    go_enter Try.func7, Try.ntmps7
    go_wp2_with (go_at_call 8; refine HC.out.mono ?_; rintro e w1 ⟨rfl, hb⟩; have HB1 := hide hb; clear hb)
    go_ret2
    exact ⟨none, 0, 0, by rw [HE.out]; rfl, by rw [HO.out]; rfl, Nat.le_refl _, by omega, by rw [HO.out]; exact RdR.nil, HB1.out⟩
  subst hlen
  obtain ⟨h64, hr, hs⟩ := chk_right hk
  have HX := hide hx
  have HY := hide hy
  have Hn := hide hn
  have Hm := hide hn'
  have HR := hide hr
  have HK := hide hk
  have HS := hide (show ∀ k, k ≤ m → sumK b k ≤ 4096 from fun k h => Nat.le_trans (sumK_mono b h) (by rw [← hn]; exact hs))
  have h64' : m ≤ 64 := by omega
  clear hx hy hn hn' hk e0 h64 hr hs
  go_enter Try.func7, Try.ntmps7
  go_wp2_with (go_at_call 8; refine HC.out.mono ?_; rintro e w1 ⟨rfl, hb⟩; have HB1 := hide hb; clear hb)
  go_loopw [7, 8, 9, 22] (fun s _ _ x wr => ∃ k : Nat, k ≤ m ∧ x = .int .i64 k ∧ Hid (wr.ownsRow w1.heap.size 21 1 s (decK b code k).length ((decK b code k).map (Value.int .i32))) ∧ Hid ((decK b code k).length = sumK b k) ∧ Hid (∀ (i : Nat) (p : Part) (n : Int), i < k → b[i]? = some p → code[i]? = some n → inR n p.length) ∧ Hid (Below w1.heap.size w1 wr)) (fun _ _ _ x _ => m - (intOf x).toNat)
  case atStart => exact ⟨0, by omega, rfl, hide ⟨rfl, .inl ⟨rfl, rfl⟩⟩, hide rfl, hide (fun i p n h => absurd h (by omega)), hide (Below.refl _ _)⟩
  case round =>
    obtain ⟨k, hk, rfl, HOr, HLr, HIr, HBr⟩ := hrel
    have hb1 := HB1.out.size
    by_cases hlt : k < m
    · have HBw := hide (HB1.out.trans (HBr.out.mono hb1))
      obtain ⟨ad, p, Ap, cp, rfl, hadl, hv, q0, hl1, hl2, hrp⟩ := (Rd.below HX.out HBw.out (Nat.le_refl _)).slc (k := k) (by have := Hn.out; omega)
      obtain ⟨adc, n, rfl, _, hcn, q1⟩ := (Rd.below HY.out HBw.out (Nat.le_refl _)).icell (k := k) (by have := Hm.out; omega)
      have g0 : (0 : Int) ≤ k := by omega
      have g1 : (k : Int) < m := by omega
      by_cases hin : inR n p.length
      · obtain ⟨j, rfl⟩ : ∃ j : Nat, n = j := ⟨n.toNat, by have := hin.1; omega⟩
        have hjl : j < p.length := by have := hin.2; omega
        obtain ⟨adp, c, Acn, ccn, rfl, _, hcv, q2, hd1, hd2, hrc⟩ := hrp.slc (k := j) hjl
        have hrt := HR.out p (List.mem_of_getElem? hv)
        have hcl := right_len hrt (List.mem_of_getElem? hcv)
        have HCt := hide (show decK b code (k + 1) = decK b code k ++ c by simp only [decK]; rw [ctr_of hv hcn hcv])
        have HSn := hide (sumK_snoc hv)
        have hsm := HS.out (k + 1) (by omega)
        have HI1 := hide (show ∀ (i : Nat) (p' : Part) (n' : Int), i < k + 1 → b[i]? = some p' → code[i]? = some n' → inR n' p'.length from fun i p' n' hi h1 h2 => by
          rcases Nat.lt_or_ge i k with h | h
          · exact HIr.out i p' n' h h1 h2
          · obtain rfl : i = k := by omega
            rw [hv] at h1; injection h1 with h1; rw [hcn] at h2; injection h2 with h2
            subst h1 h2; exact hin)
        have HRC := hide (hrc.more (show w.heap.size ≤ w1.heap.size from hb1))
        have hsz := HBr.out.size
        have j0 : (0 : Int) ≤ j := by omega
        have j1 : (j : Int) < p.length := by omega
        have j2 : ¬ (p.length : Int) ≤ j := by omega
        have hdl : (decK b code k).length + c.length ≤ 4096 := by have := HLr.out; have := HSn.out; omega
        have HLn := hide (show (decK b code (k + 1)).length = sumK b (k + 1) by rw [HCt.out, List.length_append, HLr.out, HSn.out, hcl])
        have HCL := hide (rfl : c.length = c.length)
        clear hv hcn hrp hcv hrc hrt hcl
        generalize hcn9 : c.length = nc at *
        have HCN := hide hcn9
        generalize p.length = pl at *
        clear hcn9 HCL
        go_wp2_with (at_builtin; refine wpList_append_ints rfl _ _ 23 rfl w1.heap.size Try.underlying23 info_i32 rfl _ (decK b code k).length _ rfl HOr.out wr.heap.size _ nc ccn c rfl (HRC.out.more hsz) HCN.out (by simp only [maxLen]; omega) (by omega) hsz ?_; intro v' w9 hown9 hgr9 _; have HO9 := hide hown9; have HB9 := hide (below_own HBr.out HOr.out hsz hgr9); clear hown9 hgr9)
        go_roundw
        case rel => exact ⟨k + 1, by omega, by go_num, hide (by rw [HCt.out, List.length_append, List.map_append, HCN.out]; exact HO9.out), HLn, HI1, HB9⟩
        case measure => simp [intOf]; omega
      · have hno : ¬ okC b code := fun h => hin (h.2 k p n hv hcn)
        have HE := hide (decE_no HK.out hno)
        have HO := hide (show decOf b code = [] by unfold decOf; rw [if_neg (by rw [decE_no HK.out hno]; simp)])
        clear hno hv hcn hrp
        generalize p.length = pl at *
        by_cases hneg : n < 0
        · go_wp2
          go_ret2
          exact ⟨none, 0, 0, by rw [HE.out]; rfl, by rw [HO.out]; rfl, Nat.le_refl _, by omega, by rw [HO.out]; exact RdR.nil, HBw.out⟩
        · have hge : (pl : Int) ≤ n := by unfold inR at hin; omega
          go_wp2
          go_ret2
          exact ⟨none, 0, 0, by rw [HE.out]; rfl, by rw [HO.out]; rfl, Nat.le_refl _, by omega, by rw [HO.out]; exact RdR.nil, HBw.out⟩
    · obtain rfl : k = m := by omega
      have hok : okC b code := ⟨by rw [Hn.out, Hm.out], fun i p n h1 h2 => HIr.out i p n (by have := (List.getElem?_eq_some_iff.1 h1).1; have := Hn.out; omega) h1 h2⟩
      have HE := hide (decE_yes HK.out hok)
      have HO := hide (show decOf b code = decK b code k by unfold decOf; rw [if_pos (decE_yes HK.out hok), Hn.out])
      clear hok
      obtain ⟨A', c', e, o1, o2⟩ := own_form HOr.out
      subst e
      go_wp2
      go_ret2
      exact ⟨A', _, c', by rw [HE.out]; rfl, by rw [HO.out], o1, o2, by rw [HO.out]; exact (intR_own HOr.out).more fun b hb => ⟨by have := hb.1; omega, hb.2⟩, HB1.out.trans (HBr.out.mono hb1)⟩
end Go.Proofs.Ytojanklgjdjniac
