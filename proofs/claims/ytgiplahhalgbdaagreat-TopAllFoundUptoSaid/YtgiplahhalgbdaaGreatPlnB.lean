/-
  The package plane: ring. Conditions: the slice of nodes reads as a list, its numbers are small.
-/
import Derived.Test.YtgiplahhalgbdaaGreatMgN
import Derived.Test.YtgiplahhalgbdaaGreatMgJ
namespace Go.Proofs.YtgiplahhalgbdaaGreat
set_option linter.unusedSimpArgs false
set_option linter.unusedVariables false
open Go.RowKit

def bareF (x : NodeP) : Bool := decide (x.2.2.2.1 = -1) && (decide (x.2.2.2.2 = -1) && (decide (x.2.1 = 0) && decide (x.2.2.1.length = 0)))
def placeF (ns : List NodeP) (s : Int) : Bool := decide (s = 0) || thereF ns s
/-- a node of a right ring -/
def rgF (ns : List NodeP) (k : Nat) (x : NodeP) : Bool := if 0 < k ∧ thereF ns (k : Int) = false then bareF x else placeF ns x.2.2.2.1 && (placeF ns x.2.2.2.2 && decide (prevF ns x.2.2.2.1 = (k : Int)))
def ringB (ns : List NodeP) : Prop := (∀ (k : Nat) (x : NodeP), ns[k]? = some x → rgF ns k x = true) ∧ (ringF ns).length = (liveF ns).length
theorem not_ringB {ns : List NodeP} {k : Nat} {x : NodeP} (h : ns[k]? = some x) (hf : rgF ns k x = false) : ¬ ringB ns := fun hr => by
  have := hr.1 k x h
  rw [hf] at this; cases this
/-- the node's variable -/
structure PlNd (w : World) (b1 : Nat) (cs : Array Value) (b6 : Nat) (ds : Array Value) (W : World) : Prop where
  p : PlB w b1 cs W
  q : Blk W b6 53 ds
theorem PlNd.step {w W W' : World} {b1 b6 : Nat} {cs ds : Array Value} (h : PlNd w b1 cs b6 ds W) (hb : Below W.heap.size W W') : PlNd w b1 cs b6 ds W' := ⟨h.p.step hb, h.q.below hb h.q.lt⟩
theorem PlNd.cells {w W : World} {b1 b6 : Nat} {cs : Array Value} {id tg lv nx pv : Int} {V L : Option Addr} {nv cV nl cL : Nat} (h : PlNd w b1 cs b6 #[.int .u64 id, .slice V nv cV, .int .u64 tg, .int .i64 lv, .slice L nl cL, .int .i64 nx, .int .i64 pv] W) :
    W.cell? ⟨b6, 0, none⟩ = some (.int .u64 id) ∧ W.cell? ⟨b6, 1, none⟩ = some (.slice V nv cV) ∧ W.cell? ⟨b6, 2, none⟩ = some (.int .u64 tg) ∧ W.cell? ⟨b6, 3, none⟩ = some (.int .i64 lv) ∧ W.cell? ⟨b6, 4, none⟩ = some (.slice L nl cL) ∧ W.cell? ⟨b6, 5, none⟩ = some (.int .i64 nx) ∧ W.cell? ⟨b6, 6, none⟩ = some (.int .i64 pv) := by
  have p0 := h.q.cell 0
  have p1 := h.q.cell 1
  have p2 := h.q.cell 2
  have p3 := h.q.cell 3
  have p4 := h.q.cell 4
  have p5 := h.q.cell 5
  have p6 := h.q.cell 6
  simp at p0 p1 p2 p3 p4 p5 p6
  exact ⟨p0, p1, p2, p3, p4, p5, p6⟩
theorem placeF_lt {ns : List NodeP} {s : Int} (h : placeF ns s = true) (h0 : 0 < ns.length) : 0 ≤ s ∧ s < ns.length := by
  unfold placeF at h
  rw [Bool.or_eq_true, decide_eq_true_eq] at h
  rcases h with rfl | h
  · omega
  · have := there_lt h; omega
section
variable {w : World} {N : Option Addr} {nn cN : Nat} {ns : List NodeP} {en top : Int}
set_option maxHeartbeats 4000000 in
theorem ring1_any (id tg lv nx pv : Int) (V L : Option Addr) (nv cV nl cL : Nat) (W : World) : Calls Tryz.prog 31 #[.agg #[.int .u64 id, .slice V nv cV, .int .u64 tg, .int .i64 lv, .slice L nl cL, .int .i64 nx, .int .i64 pv]] W fun e w' => e = .returned (.bool (decide (nx = -1) && (decide (pv = -1) && (decide (lv = 0) && decide (nl = 0))))) ∧ Below W.heap.size W w' := by
  have HB := hide (below1 W (.cells #[.int .u64 id, .slice V nv cV, .int .u64 tg, .int .i64 lv, .slice L nl cL, .int .i64 nx, .int .i64 pv] 53))
  by_cases h1 : nx = -1
  · subst h1
    by_cases h2 : pv = -1
    · subst h2
      by_cases h3 : lv = 0
      · subst h3
        by_cases h4 : nl = 0
        · subst h4
          go_enter Tryz.func31, Tryz.ntmps31
          go_wp2
          go_ret
          exact ⟨rfl, HB.out⟩
        · have e4 : ((nl : Int) == 0) = false := by rw [beq_eq_false_iff_ne]; omega
          have HF := hide (show decide (nl = 0) = false from decide_eq_false h4)
          clear h4
          go_enter Tryz.func31, Tryz.ntmps31
          go_wp2
          go_ret
          exact ⟨by rw [HF.out]; rfl, HB.out⟩
      · have e3 : (lv == 0) = false := by rw [beq_eq_false_iff_ne]; exact h3
        have HF := hide (show decide (lv = 0) = false from decide_eq_false h3)
        clear h3
        go_enter Tryz.func31, Tryz.ntmps31
        go_wp2
        go_ret
        exact ⟨by rw [HF.out]; rfl, HB.out⟩
    · have e2 : (pv == -1) = false := by rw [beq_eq_false_iff_ne]; exact h2
      have HF := hide (show decide (pv = -1) = false from decide_eq_false h2)
      clear h2
      go_enter Tryz.func31, Tryz.ntmps31
      go_wp2
      go_ret
      exact ⟨by rw [HF.out]; rfl, HB.out⟩
  · have e1 : (nx == -1) = false := by rw [beq_eq_false_iff_ne]; exact h1
    have HF := hide (show decide (nx = -1) = false from decide_eq_false h1)
    clear h1
    go_enter Tryz.func31, Tryz.ntmps31
    go_wp2
    go_ret
    exact ⟨by rw [HF.out]; rfl, HB.out⟩
set_option maxHeartbeats 4000000 in
theorem ring2_any (hp : PlN w N nn ns) {b1 : Nat} {W : World} (hB : PlB w b1 #[.slice N nn cN, .int .i64 en, .int .i64 top] W) (s : Int) : Calls Tryz.prog 32 #[.int .i64 s, .pointer (some ⟨b1, 0, none⟩)] W fun e w' => e = .returned (.bool (placeF ns s)) ∧ Below W.heap.size W w' := by
  have CT := hide (there_any (nn := nn) (cN := cN) (en := en) (top := top) (hp.at_ hB.bel).nd hp.len s)
  have HW := hide (Below.refl W.heap.size W)
  obtain ⟨p0, p1, p2⟩ := hB.cells
  clear hp hB
  by_cases h0 : s = 0
  · subst h0
    clear CT
    go_enter Tryz.func32, Tryz.ntmps32
    go_wp2
    go_ret
    exact ⟨rfl, HW.out⟩
  · have e0 : (s == 0) = false := by rw [beq_eq_false_iff_ne]; exact h0
    have HF := hide (show placeF ns s = thereF ns s by unfold placeF; rw [decide_eq_false h0]; rfl)
    clear h0
    go_enter Tryz.func32, Tryz.ntmps32
    go_wp2_with (go_at_call 17; refine CT.out.mono ?_; rintro e w2 ⟨rfl, hb⟩; have HB2 := hide hb; clear hb)
    go_ret
    exact ⟨by rw [HF.out]; rfl, HB2.out⟩
set_option maxHeartbeats 8000000 in
set_option maxRecDepth 100000 in
theorem ring_any (hp : PlN w N nn ns) : Calls Tryz.prog 14 #[.agg #[.slice N nn cN, .int .i64 en, .int .i64 top]] w fun e w' => (∃ b : Bool, e = .returned (.bool b) ∧ (b = true ↔ ringB ns)) ∧ Below w.heap.size w w' := by
  have HP := hide hp
  have h20 := hp.n20
  have Hl := hide hp.len
  have HS := hide (PlB.start w #[.slice N nn cN, .int .i64 en, .int .i64 top])
  clear hp
  go_enter Tryz.func14, Tryz.ntmps14
  go_upto_region 1 with fail
  generalize World.alloc w _ = w1 at *
  generalize hb1 : w.heap.size = b1 at HS ⊢
  have Hb1 := hide hb1
  clear hb1
  obtain ⟨p0, p1, p2⟩ := HS.out.cells
  go_upto_region 4 with fail
  clear p0 p1 p2
  go_loopw [11] (fun i wr => ∃ (k : Nat), k ≤ nn ∧ i = .int .i64 k ∧ Hid (∀ (j : Nat) (x : NodeP), j < k → ns[j]? = some x → rgF ns j x = true) ∧ Hid (PlB w b1 #[.slice N nn cN, .int .i64 en, .int .i64 top] wr)) (fun i _ => nn - (intOf i).toNat)
  case atStart => exact ⟨0, by omega, rfl, hide (fun j x h => by omega), HS⟩
  case round =>
    obtain ⟨k, hk, rfl, HA, HB⟩ := hrel
    clear HS
    by_cases hlt : k < nn
    · have g0 : (0 : Int) ≤ k := by omega
      have g1 : (k : Int) < nn := by omega
      obtain ⟨ad, x, V, cV, L, cL, hA, hbl, hkx, hc⟩ := (HP.out.at_ HB.out.bel).nd.node (k := k) (by have := Hl.out; omega)
      have HKx := hide hkx
      have HAd := hide hA
      subst hA
      obtain ⟨p0, p1, p2⟩ := HB.out.cells
      have HSn := hide (fun (h : rgF ns k x = true) => show ∀ (j : Nat) (y : NodeP), j < k + 1 → ns[j]? = some y → rgF ns j y = true from fun j y hj hy => by
        by_cases e : j = k
        · subst e
          rw [HKx.out] at hy; injection hy with hy; subst hy; exact h
        · exact HA.out j y (by omega) hy)
      have HNo := hide (fun (h : rgF ns k x = false) => not_ringB HKx.out h)
      have HRg := hide (show rgF ns k x = if 0 < k ∧ thereF ns (k : Int) = false then bareF x else placeF ns x.2.2.2.1 && (placeF ns x.2.2.2.2 && decide (prevF ns x.2.2.2.1 = (k : Int))) from rfl)
      have Hlen := hide (show 0 < ns.length by have := Hl.out; omega)
      obtain ⟨⟨id, vs, tg⟩, lv, ls, nx, pv⟩ := x
      obtain ⟨q0, q1, q2, q3, q4, q5, q6, -, -, -, -, -, -⟩ := hc
      simp only at q0 q1 q2 q3 q4 q5 q6
      clear hkx hbl
      go_upto_region 6 with fail
      have HX := hide (show PlNd w b1 #[.slice (some ad) nn cN, .int .i64 en, .int .i64 top] wr.heap.size #[.int .u64 id, .slice V vs.length cV, .int .u64 tg, .int .i64 lv, .slice L ls.length cL, .int .i64 nx, .int .i64 pv] (wr.alloc (.cells #[.int .u64 id, .slice V vs.length cV, .int .u64 tg, .int .i64 lv, .slice L ls.length cL, .int .i64 nx, .int .i64 pv] 53)) from ⟨HB.out.step (below1 _ _), Blk.new _ _ _⟩)
      clear q0 q1 q2 q3 q4 q5 q6 p0 p1 p2 HB
      generalize World.alloc wr _ = w2 at *
      generalize wr.heap.size = b6 at *
      by_cases hbr : 0 < k ∧ thereF ns (k : Int) = false
      · have e0 : decide (0 < (k : Int)) = true := decide_eq_true (by omega)
        have e00 : 0 < k := hbr.1
        have HRb := hide (show rgF ns k ((id, vs, tg), lv, ls, nx, pv) = bareF ((id, vs, tg), lv, ls, nx, pv) by rw [HRg.out, if_pos hbr])
        have CT := hide (there_any (nn := nn) (cN := cN) (en := en) (top := top) (HP.out.at_ HX.out.p.bel).nd Hl.out (k : Int))
        rw [hbr.2] at CT
        clear hbr HRg
        obtain ⟨p0, p1, p2⟩ := HX.out.p.cells
        rcases hbf : bareF ((id, vs, tg), lv, ls, nx, pv) with _ | _
        · have HNR := hide (HNo.out (by rw [HRb.out]; exact hbf))
          have HBf := hide (show (decide (nx = -1) && (decide (pv = -1) && (decide (lv = 0) && decide (ls.length = 0)))) = false from hbf)
          clear hbf
          go_wp2_with (first
            | (go_at_call 17; refine CT.out.mono ?_; rintro e w3 ⟨rfl, hb⟩; have HX3 := hide (HX.out.step hb); obtain ⟨d0, d1, d2, d3, d4, d5, d6⟩ := HX3.out.cells; clear hb p0 p1 p2 CT HX)
            | (go_at_call 31; refine (ring1_any _ _ _ _ _ _ _ _ _ _ _ _).mono ?_; rintro e w4 ⟨rfl, hb⟩; rw [HBf.out]; have HX4 := hide (HX3.out.step hb); clear hb))
          go_ret
          exact ⟨⟨false, rfl, by simp [HNR.out]⟩, HX4.out.p.bel⟩
        · have HSk := hide (HSn.out (by rw [HRb.out]; exact hbf))
          have HBf := hide (show (decide (nx = -1) && (decide (pv = -1) && (decide (lv = 0) && decide (ls.length = 0)))) = true from hbf)
          clear hbf
          go_wp2_with (first
            | (go_at_call 17; refine CT.out.mono ?_; rintro e w3 ⟨rfl, hb⟩; have HX3 := hide (HX.out.step hb); obtain ⟨d0, d1, d2, d3, d4, d5, d6⟩ := HX3.out.cells; clear hb p0 p1 p2 CT HX)
            | (go_at_call 31; refine (ring1_any _ _ _ _ _ _ _ _ _ _ _ _).mono ?_; rintro e w4 ⟨rfl, hb⟩; rw [HBf.out]; have HX4 := hide (HX3.out.step hb); clear hb d0 d1 d2 d3 d4 d5 d6))
          go_roundw
          case rel => exact ⟨k + 1, by omega, by go_num, HSk, hide HX4.out.p⟩
          case measure => simp [intOf]; omega
      · have HRb := hide (show rgF ns k ((id, vs, tg), lv, ls, nx, pv) = (placeF ns nx && (placeF ns pv && decide (prevF ns nx = (k : Int)))) by rw [HRg.out, if_neg hbr])
        have HX3 : Hid (∃ w3 : World, PlNd w b1 #[.slice (some ad) nn cN, .int .i64 en, .int .i64 top] b6 #[.int .u64 id, .slice V vs.length cV, .int .u64 tg, .int .i64 lv, .slice L ls.length cL, .int .i64 nx, .int .i64 pv] w3) := hide ⟨w2, HX.out⟩
        clear HX3
        by_cases hk0 : k = 0
        · have e0 : decide (0 < (k : Int)) = false := decide_eq_false (by omega)
          have e00 : ¬ 0 < k := by omega
          have HX3 := hide HX.out
          clear HX
          obtain ⟨d0, d1, d2, d3, d4, d5, d6⟩ := HX3.out.cells
          rcases hpx : placeF ns nx with _ | _
          · have HPx := hide hpx
            have HNR := hide (HNo.out (by rw [HRb.out, hpx]; rfl))
            clear hpx
            go_wp2_with (go_at_call 32; first | (refine (ring2_any HP.out HX3.out.p nx).mono ?_; rintro e w4 ⟨rfl, hb⟩; rw [HPx.out]; have HX4 := hide (HX3.out.step hb); obtain ⟨d0, d1, d2, d3, d4, d5, d6⟩ := HX4.out.cells; clear hb HX3))
            go_ret
            exact ⟨⟨false, rfl, by simp [HNR.out]⟩, HX4.out.p.bel⟩
          · have HPx := hide hpx
            have hmm := placeF_lt hpx Hlen.out
            obtain ⟨m, rfl⟩ : ∃ m : Nat, nx = m := ⟨nx.toNat, by omega⟩
            have HM := hide (show m < ns.length by omega)
            rcases hpv : placeF ns pv with _ | _
            · have HPv := hide hpv
              have HNR := hide (HNo.out (by rw [HRb.out, hpv, Bool.false_and, Bool.and_false]))
              clear hpx hpv
              go_wp2_with (go_at_call 32; first | (refine (ring2_any HP.out HX3.out.p (m : Int)).mono ?_; rintro e w4 ⟨rfl, hb⟩; rw [HPx.out]; have HX4 := hide (HX3.out.step hb); obtain ⟨d0, d1, d2, d3, d4, d5, d6⟩ := HX4.out.cells; clear hb HX3) | (refine (ring2_any HP.out HX4.out.p pv).mono ?_; rintro e w5 ⟨rfl, hb⟩; rw [HPv.out]; have HX5 := hide (HX4.out.step hb); obtain ⟨d0, d1, d2, d3, d4, d5, d6⟩ := HX5.out.cells; obtain ⟨p0, p1, p2⟩ := HX5.out.p.cells; clear hb HX4))
              go_ret
              exact ⟨⟨false, rfl, by simp [HNR.out]⟩, HX5.out.p.bel⟩
            · have HPv := hide hpv
              have m0 : (0 : Int) ≤ m := by omega
              have m1 : (m : Int) < nn := by have := HM.out; have := Hl.out; omega
              by_cases hpr : prevF ns (m : Int) = (k : Int)
              · have HPr := hide hpr
                have HSk := hide (HSn.out (by rw [HRb.out, hpx, hpv, decide_eq_true hpr]; rfl))
                clear hpx hpv hpr
                go_wp2_with (go_at_call 32; first | (refine (ring2_any HP.out HX3.out.p (m : Int)).mono ?_; rintro e w4 ⟨rfl, hb⟩; rw [HPx.out]; have HX4 := hide (HX3.out.step hb); obtain ⟨d0, d1, d2, d3, d4, d5, d6⟩ := HX4.out.cells; clear hb HX3) | (refine (ring2_any HP.out HX4.out.p pv).mono ?_; rintro e w5 ⟨rfl, hb⟩; rw [HPv.out]; have HX5 := hide (HX4.out.step hb); obtain ⟨d0, d1, d2, d3, d4, d5, d6⟩ := HX5.out.cells; obtain ⟨p0, p1, p2⟩ := HX5.out.p.cells; obtain ⟨adX, y, Vy, cVy, Ly, cLy, hAy, hbly, hky, hcy⟩ := (HP.out.at_ HX5.out.p.bel).nd.node (k := m) HM.out; injection hAy with hAy; subst hAy; have y6 := hcy.c6; have HPy := hide (prevF_at hky); clear hb HX4 hcy hky hbly; have HyE := hide (show y.2.2.2.2 = (k : Int) from HPy.out.symm.trans HPr.out); rw [HyE.out] at y6))
                go_roundw
                case rel => exact ⟨k + 1, by omega, by go_num, HSk, hide HX5.out.p⟩
                case measure => simp [intOf]; omega
              · have HNR := hide (HNo.out (by rw [HRb.out, decide_eq_false hpr, Bool.and_false, Bool.and_false]))
                have HPr := hide hpr
                clear hpx hpv hpr
                go_wp2_with (go_at_call 32; first | (refine (ring2_any HP.out HX3.out.p (m : Int)).mono ?_; rintro e w4 ⟨rfl, hb⟩; rw [HPx.out]; have HX4 := hide (HX3.out.step hb); obtain ⟨d0, d1, d2, d3, d4, d5, d6⟩ := HX4.out.cells; clear hb HX3) | (refine (ring2_any HP.out HX4.out.p pv).mono ?_; rintro e w5 ⟨rfl, hb⟩; rw [HPv.out]; have HX5 := hide (HX4.out.step hb); obtain ⟨d0, d1, d2, d3, d4, d5, d6⟩ := HX5.out.cells; obtain ⟨p0, p1, p2⟩ := HX5.out.p.cells; obtain ⟨adX, y, Vy, cVy, Ly, cLy, hAy, hbly, hky, hcy⟩ := (HP.out.at_ HX5.out.p.bel).nd.node (k := m) HM.out; injection hAy with hAy; subst hAy; have y6 := hcy.c6; have HPy := hide (prevF_at hky); clear hb HX4 hcy hky hbly; have hne : (y.2.2.2.2 == (k : Int)) = false := by (rw [beq_eq_false_iff_ne]; exact fun e => HPr.out (HPy.out.trans e))))
                go_ret
                exact ⟨⟨false, rfl, by simp [HNR.out]⟩, HX5.out.p.bel⟩
        · have hth : thereF ns (k : Int) = true := by
            rcases h : thereF ns (k : Int) with _ | _
            · exact absurd ⟨by omega, h⟩ hbr
            · rfl
          have e0 : decide (0 < (k : Int)) = true := decide_eq_true (by omega)
          have e00 : 0 < k := by omega
          have CT := hide (there_any (nn := nn) (cN := cN) (en := en) (top := top) (HP.out.at_ HX.out.p.bel).nd Hl.out (k : Int))
          rw [hth] at CT
          clear hth
          obtain ⟨p0, p1, p2⟩ := HX.out.p.cells
          go_upto_region 9 with (go_at_call 17; refine CT.out.mono ?_; rintro e w3 ⟨rfl, hb⟩; have HX3 := hide (HX.out.step hb); clear hb p0 p1 p2 CT HX)
          obtain ⟨d0, d1, d2, d3, d4, d5, d6⟩ := HX3.out.cells
          rcases hpx : placeF ns nx with _ | _
          · have HPx := hide hpx
            have HNR := hide (HNo.out (by rw [HRb.out, hpx]; rfl))
            clear hpx
            go_wp2_with (go_at_call 32; first | (refine (ring2_any HP.out HX3.out.p nx).mono ?_; rintro e w4 ⟨rfl, hb⟩; rw [HPx.out]; have HX4 := hide (HX3.out.step hb); obtain ⟨d0, d1, d2, d3, d4, d5, d6⟩ := HX4.out.cells; clear hb HX3))
            go_ret
            exact ⟨⟨false, rfl, by simp [HNR.out]⟩, HX4.out.p.bel⟩
          · have HPx := hide hpx
            have hmm := placeF_lt hpx Hlen.out
            obtain ⟨m, rfl⟩ : ∃ m : Nat, nx = m := ⟨nx.toNat, by omega⟩
            have HM := hide (show m < ns.length by omega)
            rcases hpv : placeF ns pv with _ | _
            · have HPv := hide hpv
              have HNR := hide (HNo.out (by rw [HRb.out, hpv, Bool.false_and, Bool.and_false]))
              clear hpx hpv
              go_wp2_with (go_at_call 32; first | (refine (ring2_any HP.out HX3.out.p (m : Int)).mono ?_; rintro e w4 ⟨rfl, hb⟩; rw [HPx.out]; have HX4 := hide (HX3.out.step hb); obtain ⟨d0, d1, d2, d3, d4, d5, d6⟩ := HX4.out.cells; clear hb HX3) | (refine (ring2_any HP.out HX4.out.p pv).mono ?_; rintro e w5 ⟨rfl, hb⟩; rw [HPv.out]; have HX5 := hide (HX4.out.step hb); obtain ⟨d0, d1, d2, d3, d4, d5, d6⟩ := HX5.out.cells; obtain ⟨p0, p1, p2⟩ := HX5.out.p.cells; clear hb HX4))
              go_ret
              exact ⟨⟨false, rfl, by simp [HNR.out]⟩, HX5.out.p.bel⟩
            · have HPv := hide hpv
              have m0 : (0 : Int) ≤ m := by omega
              have m1 : (m : Int) < nn := by have := HM.out; have := Hl.out; omega
              by_cases hpr : prevF ns (m : Int) = (k : Int)
              · have HPr := hide hpr
                have HSk := hide (HSn.out (by rw [HRb.out, hpx, hpv, decide_eq_true hpr]; rfl))
                clear hpx hpv hpr
                go_wp2_with (go_at_call 32; first | (refine (ring2_any HP.out HX3.out.p (m : Int)).mono ?_; rintro e w4 ⟨rfl, hb⟩; rw [HPx.out]; have HX4 := hide (HX3.out.step hb); obtain ⟨d0, d1, d2, d3, d4, d5, d6⟩ := HX4.out.cells; clear hb HX3) | (refine (ring2_any HP.out HX4.out.p pv).mono ?_; rintro e w5 ⟨rfl, hb⟩; rw [HPv.out]; have HX5 := hide (HX4.out.step hb); obtain ⟨d0, d1, d2, d3, d4, d5, d6⟩ := HX5.out.cells; obtain ⟨p0, p1, p2⟩ := HX5.out.p.cells; obtain ⟨adX, y, Vy, cVy, Ly, cLy, hAy, hbly, hky, hcy⟩ := (HP.out.at_ HX5.out.p.bel).nd.node (k := m) HM.out; injection hAy with hAy; subst hAy; have y6 := hcy.c6; have HPy := hide (prevF_at hky); clear hb HX4 hcy hky hbly; have HyE := hide (show y.2.2.2.2 = (k : Int) from HPy.out.symm.trans HPr.out); rw [HyE.out] at y6))
                go_roundw
                case rel => exact ⟨k + 1, by omega, by go_num, HSk, hide HX5.out.p⟩
                case measure => simp [intOf]; omega
              · have HNR := hide (HNo.out (by rw [HRb.out, decide_eq_false hpr, Bool.and_false, Bool.and_false]))
                have HPr := hide hpr
                clear hpx hpv hpr
                go_wp2_with (go_at_call 32; first | (refine (ring2_any HP.out HX3.out.p (m : Int)).mono ?_; rintro e w4 ⟨rfl, hb⟩; rw [HPx.out]; have HX4 := hide (HX3.out.step hb); obtain ⟨d0, d1, d2, d3, d4, d5, d6⟩ := HX4.out.cells; clear hb HX3) | (refine (ring2_any HP.out HX4.out.p pv).mono ?_; rintro e w5 ⟨rfl, hb⟩; rw [HPv.out]; have HX5 := hide (HX4.out.step hb); obtain ⟨d0, d1, d2, d3, d4, d5, d6⟩ := HX5.out.cells; obtain ⟨p0, p1, p2⟩ := HX5.out.p.cells; obtain ⟨adX, y, Vy, cVy, Ly, cLy, hAy, hbly, hky, hcy⟩ := (HP.out.at_ HX5.out.p.bel).nd.node (k := m) HM.out; injection hAy with hAy; subst hAy; have y6 := hcy.c6; have HPy := hide (prevF_at hky); clear hb HX4 hcy hky hbly; have hne : (y.2.2.2.2 == (k : Int)) = false := by (rw [beq_eq_false_iff_ne]; exact fun e => HPr.out (HPy.out.trans e))))
                go_ret
                exact ⟨⟨false, rfl, by simp [HNR.out]⟩, HX5.out.p.bel⟩
    · obtain rfl : nn = k := by omega
      have HAll := hide (show ∀ (k : Nat) (x : NodeP), ns[k]? = some x → rgF ns k x = true from fun j x hx => HA.out j x (by have := (List.getElem?_eq_some_iff.1 hx).1; have := Hl.out; omega) hx)
      clear HA hlt
      go_upto_region 12 with fail
      refine startO (S := (fun W => PlB w b1 #[.slice N nn cN, .int .i64 en, .int .i64 top] W)) 8 (by as_aux_lemma => kernel_rfl) (by as_aux_lemma => kernel_rfl) (HB.out.step (Below.refl _ _).drew) (fun hHeld => ?_)
      generalize World.drew _ = Wd at *
      refine takeO 0 54 (.load 24 (.const (.pointer (some ⟨b1, 0, none⟩)))) 24 (.agg #[.slice N nn cN, .int .i64 en, .int .i64 top]) (by as_aux_lemma => kernel_rfl) (by as_aux_lemma => kernel_rfl) (by as_aux_lemma => kernel_rfl) (fun _ _ _ _ _ h => h) (fun W hS => by have z0 := hS.pl.cell 0; have z1 := hS.pl.cell 1; have z2 := hS.pl.cell 2; simp at z0 z1 z2; clear hS hHeld; unfold cEv opC; as_aux_lemma => first | (go_simp; done) | (go_simp <;> rfl)) hHeld ?_
      refine takeO 3 57 (.load 24 (.const (.pointer (some ⟨b1, 0, none⟩)))) 24 (.agg #[.slice N nn cN, .int .i64 en, .int .i64 top]) (by as_aux_lemma => kernel_rfl) (by as_aux_lemma => kernel_rfl) (by as_aux_lemma => kernel_rfl) (fun _ _ _ _ _ h => h) (fun W hS => by have z0 := hS.pl.cell 0; have z1 := hS.pl.cell 1; have z2 := hS.pl.cell 2; simp at z0 z1 z2; clear hS hHeld; unfold cEv opC; as_aux_lemma => first | (go_simp; done) | (go_simp <;> rfl)) hHeld ?_
      refine readyO [1] (by as_aux_lemma => kernel_rfl) (by simp) ?_
      refine callO 1 55 (.call { callee := .value (.func 33), args := #[.const (.agg #[.slice N nn cN, .int .i64 en, .int .i64 top])], argTypes := #[24] }) 47 33 #[.agg #[.slice N nn cN, .int .i64 en, .int .i64 top]] (by as_aux_lemma => kernel_rfl) (by as_aux_lemma => kernel_rfl) (by unfold cEv opC; go_simp) ?_ AllReadyH.nil
      refine (pRing_any (cN := cN) (en := en) (top := top) (HP.out.at_ hHeld.bel)).mono ?_
      rintro e w5 ⟨A1, n1, c1, rfl, hr1, _, _, _, hb5⟩
      refine ⟨_, rfl, (hHeld.step hb5), fun hHeld2 => ?_⟩
      clear hHeld
      have hHeld := hHeld2
      clear hHeld2
      have HR1 := hide hr1
      clear hr1 hb5
      refine takeO 2 56 (.call { callee := .builtin .len, args := #[.const (.slice A1 n1 c1)], argTypes := #[47] }) 3 (.int .i64 n1) (by as_aux_lemma => kernel_rfl) (by as_aux_lemma => kernel_rfl) (by as_aux_lemma => kernel_rfl) (fun _ _ _ _ _ h => h) (fun W hS => by clear hS hHeld; unfold cEv opC; as_aux_lemma => first | (go_simp; done) | (go_simp <;> rfl)) hHeld ?_
      refine readyO [4] (by as_aux_lemma => kernel_rfl) (by simp) ?_
      refine callO 4 58 (.call { callee := .value (.func 15), args := #[.const (.agg #[.slice N nn cN, .int .i64 en, .int .i64 top])], argTypes := #[24] }) 47 15 #[.agg #[.slice N nn cN, .int .i64 en, .int .i64 top]] (by as_aux_lemma => kernel_rfl) (by as_aux_lemma => kernel_rfl) (by unfold cEv opC; go_simp) ?_ AllReadyH.nil
      refine (live_any (cN := cN) (en := en) (top := top) (HP.out.at_ hHeld.bel)).mono ?_
      rintro e w6 ⟨A2, n2, c2, rfl, hr2, _, _, _, hb6⟩
      refine ⟨_, rfl, (hHeld.step hb6), fun hHeld2 => ?_⟩
      clear hHeld
      have hHeld := hHeld2
      clear hHeld2
      have HR2 := hide hr2
      clear hr2 hb6
      refine takeO 5 59 (.call { callee := .builtin .len, args := #[.const (.slice A2 n2 c2)], argTypes := #[47] }) 3 (.int .i64 n2) (by as_aux_lemma => kernel_rfl) (by as_aux_lemma => kernel_rfl) (by as_aux_lemma => kernel_rfl) (fun _ _ _ _ _ h => h) (fun W hS => by clear hS hHeld; unfold cEv opC; as_aux_lemma => first | (go_simp; done) | (go_simp <;> rfl)) hHeld ?_
      refine takeO 6 60 (.binOp .eql 3 (.const (.int .i64 n1)) (.const (.int .i64 n2)) 3) 4 (.bool ((n1 : Int) == (n2 : Int))) (by as_aux_lemma => kernel_rfl) (by as_aux_lemma => kernel_rfl) (by as_aux_lemma => kernel_rfl) (fun _ _ _ _ _ h => h) (fun W hS => by clear hS hHeld; unfold cEv opC; as_aux_lemma => first | (go_simp; done) | (go_simp <;> rfl)) hHeld ?_
      refine putsO [7] [7] [(2, .bool ((n1 : Int) == (n2 : Int)))] 1 rfl [2] (by as_aux_lemma => kernel_rfl) (by as_aux_lemma => kernel_rfl) rfl (fun _ _ _ _ _ h => h) hHeld ?_
      refine doneO [(2, .bool ((n1 : Int) == (n2 : Int))), (51, .agg #[.slice N nn cN, .int .i64 en, .int .i64 top]), (0, .slice A1 n1 c1), (0, .int .i64 n1), (0, .agg #[.slice N nn cN, .int .i64 en, .int .i64 top]), (0, .slice A2 n2 c2), (0, .int .i64 n2), (0, .bool ((n1 : Int) == (n2 : Int)))] (by as_aux_lemma => kernel_rfl) (by as_aux_lemma => kernel_rfl) ?_
      simp only [fillG]
      have HBe := hide hHeld
      clear hHeld
      go_wp2
      go_ret
      refine ⟨⟨_, rfl, ?_⟩, HBe.out.bel⟩
      rw [beq_iff_eq]
      have h1 := HR1.out
      have h2 := HR2.out
      exact ⟨fun h => ⟨HAll.out, by omega⟩, fun h => by have := h.2; omega⟩
end
end Go.Proofs.YtgiplahhalgbdaaGreat
