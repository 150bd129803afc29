/-
  The walk of WalkDown. Conditions: the slices read as lists.
-/
import Derived.Test.YtphbdffgeeicaadWlkJ
import Derived.Test.YtphbdffgeeicaadEdgB
namespace Go.Proofs.Ytphbdffgeeicaad
set_option linter.unusedSimpArgs false
set_option linter.unusedVariables false
open Go.RowKit

/-- the plane's variable, the way -/
structure WdW (w : World) (b4 : Nat) (cs : Array Value) (A : Option Addr) (p : List Int) (W : World) : Prop where
  bel : Below w.heap.size w W
  pl : Blk W b4 24 cs
  way : Rd (Sh.int .i64) W W.heap.size A p
theorem WdW.step {w W W' : World} {b4 : Nat} {cs : Array Value} {A : Option Addr} {p : List Int} (h : WdW w b4 cs A p W) (hb : Below W.heap.size W W') : WdW w b4 cs A p W' := ⟨Below.step h.bel hb, h.pl.below hb h.pl.lt, h.way.at_world hb⟩
/-- beside it a list of neighbours -/
structure WnW (w : World) (b4 : Nat) (cs : Array Value) (A : Option Addr) (p : List Int) (An : Option Addr) (l : List Int) (W : World) : Prop where
  d : WdW w b4 cs A p W
  near : Rd (Sh.int .i64) W W.heap.size An l
theorem WnW.step {w W W' : World} {b4 : Nat} {cs : Array Value} {A An : Option Addr} {p l : List Int} (h : WnW w b4 cs A p An l W) (hb : Below W.heap.size W W') : WnW w b4 cs A p An l W' := ⟨h.d.step hb, h.near.at_world hb⟩
theorem Rd.cellAt {w : World} {B : Nat} {ad : Addr} {l : List Int} (h : Rd (Sh.int .i64) w B (some ad) l) {k : Nat} {x : Int} (hx : l[k]? = some x) : w.cell? (ad.add k) = some (.int .i64 x) := by
  obtain ⟨ad', y, e, _, hv, hc⟩ := Rd.cell (k := k) h (List.getElem?_eq_some_iff.1 hx).1
  injection e with e
  subst e
  rw [hx] at hv
  injection hv with hv
  subst hv
  exact hc
def aggS2 (s : Spt) : Value := .agg #[.int .u64 s.1.1, .int .u64 s.1.2, .int .i64 s.2]
theorem rSpot_any (a b : Spt) {r : Bool} (h : sptLt a b = r) (w : World) : Calls Try.prog 9 #[.agg #[.int .u64 a.1.1, .int .u64 a.1.2, .int .i64 a.2], .agg #[.int .u64 b.1.1, .int .u64 b.1.2, .int .i64 b.2]] w fun e w' => e = .returned (.bool r) ∧ Below w.heap.size w w' := h ▸ spot_any a b w
set_option maxHeartbeats 16000000 in
set_option maxRecDepth 100000 in
theorem walkDown_any (N : Option Addr) (nn cN : Nat) (ns : List NodeP) (en top : Int) (Aq : Option Addr) (nq cq : Nat) (qs : List Int) (slot level : Int) (w : World) (hx : Rd SNode w w.heap.size N ns) (hn : ns.length = nn) (hc : nn ≤ cN) (hm : cN ≤ 9223372036854775807) (hok : ∀ x ∈ ns, OkN x)
    (hq : Rd (Sh.int .i32) w w.heap.size Aq qs) (hnq : qs.length = nq) (hcq : nq ≤ cq) (hcq2 : cq ≤ 9223372036854775807) (hqi : I32 qs) :
    Calls Try.prog 3 #[.agg #[.slice N nn cN, .int .i64 en, .int .i64 top], .slice Aq nq cq, .int .i64 slot, .int .i64 level] w fun e w' => e = .returned (.bool true) ∧ Below w.heap.size w w' := by
  have hb1 := below1 w (.cells #[.slice N nn cN, .int .i64 en, .int .i64 top] 24)
  have HB1 := hide hb1
  have HP1 := hide (Blk.new w 24 #[.slice N nn cN, .int .i64 en, .int .i64 top])
  have HSm := hide (fun (W : World) (hb : Below w.heap.size w W) => small_any (en := en) (top := top) (hx.at_world hb) hn hc hm)
  have HPl := hide (fun (h : SmallP ns) => (⟨hx, hn, hok, h.2, by have := h.1; omega, hq, hnq, hcq, hcq2, hqi⟩ : PlW w N nn ns Aq nq cq qs))
  clear hb1 hx hn hok hq hnq hqi
  go_enter Try.func3, Try.ntmps3
  go_upto_region 1 with fail
  generalize World.alloc w _ = w1 at *
  obtain ⟨b4, hb4⟩ : ∃ b, w.heap.size = b := ⟨_, rfl⟩
  rw [hb4] at HP1
  rw [hb4]
  have Hb4 := hide hb4
  clear hb4
  go_upto_region 3 with (go_at_call 4; refine (lives_any _).mono ?_; rintro e w2 ⟨rfl, hb2⟩; have HB2 := hide (Below.step HB1.out hb2); have HP2 := hide (HP1.out.below hb2 HP1.out.lt); clear hb2)
  clear HB1 HP1
  have p0 := HP2.out.cell 0
  have p1 := HP2.out.cell 1
  have p2 := HP2.out.cell 2
  simp at p0 p1 p2
  go_wp2_with fail
  refine (HSm.out _ HB2.out).mono ?_
  rintro e w3 ⟨⟨rfl, hs⟩ | ⟨rfl, hs⟩, hb3⟩
  case inr =>
    have HB3 := hide (Below.step HB2.out hb3)
    clear hb3 hs
    go_wp2
    go_ret
    exact ⟨rfl, HB3.out⟩
  have HB3 := hide (Below.step HB2.out hb3)
  have HP3 := hide (HP2.out.below hb3 HP2.out.lt)
  have HPw := hide (HPl.out hs)
  clear hb3 hs HPl HSm HB2 HP2 p0 p1 p2
  by_cases h50 : 50 < nq
  · have e1 : decide ((50 : Int) < nq) = true := by simp; omega
    have e0 : decide (50 < nq) = true := by simp; omega
    go_wp2
    go_ret
    exact ⟨rfl, HB3.out⟩
  have e1 : decide ((50 : Int) < nq) = false := by simp; omega
  have e0 : decide (50 < nq) = false := by simp; omega
  have h20 : nn ≤ 20 := HPw.out.n20
  have p0 := HP3.out.cell 0
  have p1 := HP3.out.cell 1
  have p2 := HP3.out.cell 2
  simp at p0 p1 p2
  go_upto_region 6 with (go_at_call 6; refine (level_any (HPw.out.at_ HB3.out) (cN := cN) (en := en) (top := top) slot level).mono ?_; rintro e w4 ⟨p, A9, n9, c9, rfl, q1, q2, q3, q4, q5, q6, hb4⟩; have HWy := hide q1; have HLn := hide q2; have HD := hide (show WdW w b4 #[.slice N nn cN, .int .i64 en, .int .i64 top] A9 p w4 from ⟨Below.step HB3.out hb4, HP3.out.below hb4 HP3.out.lt, q6.rd fun d hd => hd.2⟩); have Hq3 := hide q3; clear q1 q2 q3 q6 hb4)
  clear HB3 HP3 p0 p1 p2
  have hn9 : n9 ≤ 1 + nn := by have h := Hq3.out; rw [HPw.out.len] at h; exact h
  have hpos : 0 < n9 := by have h := (List.getElem?_eq_some_iff.1 HWy.out.p0).1; have := HLn.out; omega
  obtain ⟨ad9, y9, rfl, _, hy9, t0⟩ := Rd.cell (k := 0) HD.out.way (by have := HLn.out; omega)
  obtain rfl : slot = y9 := by have h := HWy.out.p0; rw [hy9] at h; injection h with h; exact h.symm
  rw [add_zero'] at t0
  have z0 : ((n9 : Int) == 0) = false := by rw [beq_eq_false_iff_ne]; omega
  have z1 : (n9 == 0) = false := by simp; omega
  have z2 : decide ((n9 : Int) = 0) = false := by simp; omega
  have z3 : (slot != slot) = false := by simp
  have z4 : IntKind.i64.wrap ((nn : Int) + 1) = (nn : Int) + 1 := IntWalk.i64_in _ (by omega)
  have z5 : decide ((nn : Int) + 1 < n9) = false := by simp; omega
  have i1 : (0 : Int) < n9 := by omega
  have p0 := HD.out.pl.cell 0
  simp at p0
  clear hy9
  go_wp2
  clear p0 t0 z0 z1 z2 z3 z4 z5
  go_loopw [10, 11, 12, 53] (fun _ _ _ i wr => ∃ k : Nat, k ≤ n9 ∧ i = .int .i64 k ∧ Hid (WdW w b4 #[.slice N nn cN, .int .i64 en, .int .i64 top] (some ad9) p wr)) (fun _ _ _ i _ => n9 - (intOf i).toNat)
  case atStart => exact ⟨0, by omega, rfl, HD⟩
  case round =>
    obtain ⟨k, hk, rfl, HDk⟩ := hrel
    clear HD
    by_cases hlt : k < n9
    · obtain ⟨a, ha⟩ : ∃ a, p[k]? = some a := ⟨_, List.getElem?_eq_getElem (by have := HLn.out; omega)⟩
      have t0 := HDk.out.way.cellAt ha
      have Ha := hide ha
      have g0 : (0 : Int) ≤ k := by omega
      have g1 : (k : Int) < n9 := by omega
      have p0 := HDk.out.pl.cell 0
      have p1 := HDk.out.pl.cell 1
      have p2 := HDk.out.pl.cell 2
      simp at p0 p1 p2
      clear ha
      go_upto_region 12 with (go_at_call 7; refine (near_any (cN := cN) (en := en) (top := top) (HPw.out.at_ HDk.out.bel).nd HPw.out.len HPw.out.ok HPw.out.sm a level).mono ?_; rintro e w5 ⟨An, m5, c5, rfl, k1, k2, k3, hr5, hb5⟩; have Hk1 := hide k1; have HN := hide (show WnW w b4 #[.slice N nn cN, .int .i64 en, .int .i64 top] (some ad9) p An (nearF ns a level) w5 from ⟨HDk.out.step hb5, hr5.rd fun d hd => hd.2⟩); clear k1 hr5 hb5)
      clear HDk t0 p0 p1 p2
      have CSp := hide (fun (W : World) (hb : Below w.heap.size w W) (s : Int) => (HPw.out.at_ hb).spot (cN := cN) (en := en) (top := top) s)
      have hwn : IntKind.i64.wrap ((n9 : Int) - 1) = (n9 : Int) - 1 := IntWalk.i64_in _ (by omega)
      by_cases hlast : k + 1 < n9
      · obtain ⟨j, hj⟩ : ∃ j, j = k + 1 := ⟨_, rfl⟩
        obtain ⟨b, hb⟩ : ∃ b, p[j]? = some b := ⟨_, List.getElem?_eq_getElem (by have := HLn.out; omega)⟩
        have Hb := hide hb
        obtain ⟨hbn, hbl⟩ := HWy.out.way k a b Ha.out (by rw [← hj]; exact hb)
        have CHas := hide (fun (W : World) (h : WnW w b4 #[.slice N nn cN, .int .i64 en, .int .i64 top] (some ad9) p An (nearF ns a level) W) => (decide_eq_true hbn) ▸ eHas_any An m5 c5 (nearF ns a level) b W h.near Hk1.out k2 k3)
        have CRk := hide (fun (W : World) => rSpot_any (spotF ns qs b) (spotF ns qs a) hbl W)
        have f1 : decide ((k : Int) < (n9 : Int) - 1) = true := decide_eq_true (by omega)
        have e5 : (k : Int) + 1 = (j : Int) := by omega
        have e6 : IntKind.i64.wrap ((k : Int) + 1) = (j : Int) := by rw [IntWalk.i64_in _ (by omega)]; omega
        have e7 : IntKind.i64.wrap (j : Int) = (j : Int) := IntWalk.i64_in _ (by omega)
        have j0 : (0 : Int) ≤ j := by omega
        have j1 : (j : Int) < n9 := by omega
        have Hj := hide hj
        clear hb hbn hbl hj
        go_upto_region 13 with fail
        refine startO (S := (fun W => WnW w b4 #[.slice N nn cN, .int .i64 en, .int .i64 top] (some ad9) p An (nearF ns a level) W)) 24 (by as_aux_lemma => kernel_rfl) (by as_aux_lemma => kernel_rfl) (HN.out.step (Below.refl _ _).drew) (fun hHeld => ?_)
        clear HN
        generalize World.drew _ = Wd at *
        refine putsO [0, 1, 2] [2, 1, 0] [(69, .int .i64 k), (68, .slice (some ad9) n9 c9), (67, .slice An m5 c5)] 3 rfl [67, 68, 69] (by as_aux_lemma => kernel_rfl) (by as_aux_lemma => kernel_rfl) rfl (fun _ _ _ _ _ h => h) hHeld ?_
        refine takeO 3 70 (.binOp .add 3 (.const (.int .i64 k)) (.const (.int .i64 1)) 3) 3 (.int .i64 j) (by as_aux_lemma => kernel_rfl) (by as_aux_lemma => kernel_rfl) (by as_aux_lemma => kernel_rfl) (fun _ _ _ _ _ h => h) (fun W hS => by clear hS hHeld; unfold cEv opC; as_aux_lemma => first | (go_simp; done) | (go_simp <;> rfl)) hHeld ?_
        refine takeO 4 71 (.indexAddr 28 (.const (.slice (some ad9) n9 c9)) (.const (.int .i64 j))) 0 (.pointer (some (ad9.add j))) (by as_aux_lemma => kernel_rfl) (by as_aux_lemma => kernel_rfl) (by as_aux_lemma => kernel_rfl) (fun _ _ _ _ _ h => h) (fun W hS => by clear hS hHeld; unfold cEv opC; as_aux_lemma => first | (go_simp; done) | (go_simp <;> rfl)) hHeld ?_
        refine takeO 5 72 (.load 3 (.const (.pointer (some (ad9.add j))))) 3 (.int .i64 b) (by as_aux_lemma => kernel_rfl) (by as_aux_lemma => kernel_rfl) (by as_aux_lemma => kernel_rfl) (fun _ _ _ _ _ h => h) (fun W hS => by have z0 := hS.d.way.cellAt Hb.out; clear hS hHeld; unfold cEv opC; as_aux_lemma => first | (go_simp; done) | (go_simp <;> rfl)) hHeld ?_
        refine readyO [6] (by as_aux_lemma => kernel_rfl) (by simp) ?_
        refine callO 6 73 (.call { callee := .value (.func 8), args := #[.const (.slice An m5 c5), .const (.int .i64 b)], argTypes := #[28, 3] }) 4 8 #[.slice An m5 c5, .int .i64 b] (by as_aux_lemma => kernel_rfl) (by as_aux_lemma => kernel_rfl) (by unfold cEv opC; go_simp) ?_ AllReadyH.nil
        refine (CHas.out _ hHeld).mono ?_
        rintro e _ ⟨rfl, rfl⟩
        refine ⟨_, rfl, hHeld, fun hHeld2 => ?_⟩
        clear hHeld
        have hHeld := hHeld2
        clear hHeld2
        refine putsO [7, 8, 10, 11, 12, 18, 19] [19, 18, 12, 11, 10, 8, 7] [(86, .int .i64 a), (85, .slice Aq nq cq), (79, .int .i64 k), (78, .slice (some ad9) n9 c9), (77, .slice Aq nq cq), (75, .bool false), (74, .bool false)] 7 rfl [74, 75, 77, 78, 79, 85, 86] (by as_aux_lemma => kernel_rfl) (by as_aux_lemma => kernel_rfl) rfl (fun _ _ _ _ _ h => h) hHeld ?_
        refine takeO 9 76 (.load 24 (.const (.pointer (some ⟨b4, 0, none⟩)))) 24 (.agg #[.slice N nn cN, .int .i64 en, .int .i64 top]) (by as_aux_lemma => kernel_rfl) (by as_aux_lemma => kernel_rfl) (by as_aux_lemma => kernel_rfl) (fun _ _ _ _ _ h => h) (fun W hS => by have z0 := hS.d.pl.cell 0; have z1 := hS.d.pl.cell 1; have z2 := hS.d.pl.cell 2; simp at z0 z1 z2; clear hS hHeld; unfold cEv opC; as_aux_lemma => first | (go_simp; done) | (go_simp <;> rfl)) hHeld ?_
        refine takeO 13 80 (.binOp .add 3 (.const (.int .i64 k)) (.const (.int .i64 1)) 3) 3 (.int .i64 j) (by as_aux_lemma => kernel_rfl) (by as_aux_lemma => kernel_rfl) (by as_aux_lemma => kernel_rfl) (fun _ _ _ _ _ h => h) (fun W hS => by clear hS hHeld; unfold cEv opC; as_aux_lemma => first | (go_simp; done) | (go_simp <;> rfl)) hHeld ?_
        refine takeO 17 84 (.load 24 (.const (.pointer (some ⟨b4, 0, none⟩)))) 24 (.agg #[.slice N nn cN, .int .i64 en, .int .i64 top]) (by as_aux_lemma => kernel_rfl) (by as_aux_lemma => kernel_rfl) (by as_aux_lemma => kernel_rfl) (fun _ _ _ _ _ h => h) (fun W hS => by have z0 := hS.d.pl.cell 0; have z1 := hS.d.pl.cell 1; have z2 := hS.d.pl.cell 2; simp at z0 z1 z2; clear hS hHeld; unfold cEv opC; as_aux_lemma => first | (go_simp; done) | (go_simp <;> rfl)) hHeld ?_
        refine takeO 14 81 (.indexAddr 28 (.const (.slice (some ad9) n9 c9)) (.const (.int .i64 j))) 0 (.pointer (some (ad9.add j))) (by as_aux_lemma => kernel_rfl) (by as_aux_lemma => kernel_rfl) (by as_aux_lemma => kernel_rfl) (fun _ _ _ _ _ h => h) (fun W hS => by clear hS hHeld; unfold cEv opC; as_aux_lemma => first | (go_simp; done) | (go_simp <;> rfl)) hHeld ?_
        refine takeO 15 82 (.load 3 (.const (.pointer (some (ad9.add j))))) 3 (.int .i64 b) (by as_aux_lemma => kernel_rfl) (by as_aux_lemma => kernel_rfl) (by as_aux_lemma => kernel_rfl) (fun _ _ _ _ _ h => h) (fun W hS => by have z0 := hS.d.way.cellAt Hb.out; clear hS hHeld; unfold cEv opC; as_aux_lemma => first | (go_simp; done) | (go_simp <;> rfl)) hHeld ?_
        refine readyO [16] (by as_aux_lemma => kernel_rfl) (by simp) ?_
        refine callO 16 83 (.call { callee := .value (.func 10), args := #[.const (.agg #[.slice N nn cN, .int .i64 en, .int .i64 top]), .const (.slice Aq nq cq), .const (.int .i64 b)], argTypes := #[24, 25, 3] }) 37 10 #[.agg #[.slice N nn cN, .int .i64 en, .int .i64 top], .slice Aq nq cq, .int .i64 b] (by as_aux_lemma => kernel_rfl) (by as_aux_lemma => kernel_rfl) (by unfold cEv opC; go_simp) ?_ AllReadyH.nil
        refine (CSp.out _ hHeld.d.bel b).mono ?_
        rintro e we ⟨rfl, hbe⟩
        refine ⟨_, rfl, (hHeld.step hbe), fun hHeld2 => ?_⟩
        clear hHeld
        have hHeld := hHeld2
        clear hHeld2
        clear hbe
        refine readyO [20] (by as_aux_lemma => kernel_rfl) (by simp) ?_
        refine callO 20 87 (.call { callee := .value (.func 10), args := #[.const (.agg #[.slice N nn cN, .int .i64 en, .int .i64 top]), .const (.slice Aq nq cq), .const (.int .i64 a)], argTypes := #[24, 25, 3] }) 37 10 #[.agg #[.slice N nn cN, .int .i64 en, .int .i64 top], .slice Aq nq cq, .int .i64 a] (by as_aux_lemma => kernel_rfl) (by as_aux_lemma => kernel_rfl) (by unfold cEv opC; go_simp) ?_ AllReadyH.nil
        refine (CSp.out _ hHeld.d.bel a).mono ?_
        rintro e wf ⟨rfl, hbf⟩
        refine ⟨_, rfl, (hHeld.step hbf), fun hHeld2 => ?_⟩
        clear hHeld
        have hHeld := hHeld2
        clear hHeld2
        clear hbf
        refine readyO [21] (by as_aux_lemma => kernel_rfl) (by simp) ?_
        refine callO 21 88 (.call { callee := .value (.func 9), args := #[.const (.agg #[.int .u64 (spotF ns qs b).1.1, .int .u64 (spotF ns qs b).1.2, .int .i64 b]), .const (.agg #[.int .u64 (spotF ns qs a).1.1, .int .u64 (spotF ns qs a).1.2, .int .i64 a])], argTypes := #[37, 37] }) 4 9 #[.agg #[.int .u64 (spotF ns qs b).1.1, .int .u64 (spotF ns qs b).1.2, .int .i64 b], .agg #[.int .u64 (spotF ns qs a).1.1, .int .u64 (spotF ns qs a).1.2, .int .i64 a]] (by as_aux_lemma => kernel_rfl) (by as_aux_lemma => kernel_rfl) (by unfold cEv opC; go_simp) ?_ AllReadyH.nil
        refine (CRk.out _).mono ?_
        rintro e wg ⟨rfl, hbg⟩
        refine ⟨_, rfl, (hHeld.step hbg), fun hHeld2 => ?_⟩
        clear hHeld
        have hHeld := hHeld2
        clear hHeld2
        clear hbg
        refine putsO [22, 23] [23, 22] [(90, .bool false), (89, .bool false)] 2 rfl [89, 90] (by as_aux_lemma => kernel_rfl) (by as_aux_lemma => kernel_rfl) rfl (fun _ _ _ _ _ h => h) hHeld ?_
        refine doneO [(67, .slice An m5 c5), (0, .slice (some ad9) n9 c9), (0, .int .i64 k), (0, .int .i64 j), (0, .pointer (some (ad9.add j))), (0, .int .i64 b), (0, .bool true), (0, .bool false), (0, .bool false), (0, .agg #[.slice N nn cN, .int .i64 en, .int .i64 top]), (0, .slice Aq nq cq), (0, .slice (some ad9) n9 c9), (0, .int .i64 k), (0, .int .i64 j), (0, .pointer (some (ad9.add j))), (0, .int .i64 b), (0, .agg #[.int .u64 (spotF ns qs b).1.1, .int .u64 (spotF ns qs b).1.2, .int .i64 b]), (0, .agg #[.slice N nn cN, .int .i64 en, .int .i64 top]), (0, .slice Aq nq cq), (0, .int .i64 a), (0, .agg #[.int .u64 (spotF ns qs a).1.1, .int .u64 (spotF ns qs a).1.2, .int .i64 a]), (0, .bool true), (0, .bool false), (0, .bool false)] (by as_aux_lemma => kernel_rfl) (by as_aux_lemma => kernel_rfl) ?_
        simp only [fillG]
        have HNk := hide hHeld.d
        clear hHeld
        go_wp2
        go_roundw
        case rel => exact ⟨k + 1, by omega, by go_num, HNk⟩
        case measure => simp [intOf]; have := Hj.out; omega
      · have f1 : decide ((k : Int) < (n9 : Int) - 1) = false := decide_eq_false (by omega)
        have HEnd := hide (show ∀ m ∈ nearF ns a level, sptLt (spotF ns qs m) (spotF ns qs a) = false from fun m hm2 => step_end (HWy.out.en a (by rw [HLn.out, show n9 - 1 = k by omega]; exact Ha.out)) m hm2)
        go_wp2
        go_loopw [14, 93] (fun _ i wr => ∃ m : Nat, m ≤ m5 ∧ i = .int .i64 m ∧ Hid (WnW w b4 #[.slice N nn cN, .int .i64 en, .int .i64 top] (some ad9) p An (nearF ns a level) wr)) (fun _ i _ => m5 - (intOf i).toNat)
        case atStart => exact ⟨0, by omega, rfl, HN⟩
        case round =>
          obtain ⟨m, hmm, rfl, HM⟩ := hrel
          clear HN
          by_cases hml : m < m5
          · obtain ⟨adn, y, rfl, _, hy, t0⟩ := Rd.cell (k := m) HM.out.near (by have := Hk1.out; omega)
            have m0 : (0 : Int) ≤ m := by omega
            have m1 : (m : Int) < m5 := by omega
            have CRk := hide (fun (W : World) => rSpot_any (spotF ns qs y) (spotF ns qs a) (HEnd.out y (List.mem_of_getElem? hy)) W)
            clear hy
            go_upto_region 18 with fail
            clear t0
            refine startO (S := (fun W => WnW w b4 #[.slice N nn cN, .int .i64 en, .int .i64 top] (some ad9) p (some adn) (nearF ns a level) W)) 9 (by as_aux_lemma => kernel_rfl) (by as_aux_lemma => kernel_rfl) (HM.out.step (Below.refl _ _).drew) (fun hHeld => ?_)
            clear HM
            generalize World.drew _ = Wd at *
            refine putsO [1, 2, 5, 6] [6, 5, 2, 1] [(103, .int .i64 a), (102, .slice Aq nq cq), (99, .int .i64 y), (98, .slice Aq nq cq)] 4 rfl [98, 99, 102, 103] (by as_aux_lemma => kernel_rfl) (by as_aux_lemma => kernel_rfl) rfl (fun _ _ _ _ _ h => h) hHeld ?_
            refine takeO 0 97 (.load 24 (.const (.pointer (some ⟨b4, 0, none⟩)))) 24 (.agg #[.slice N nn cN, .int .i64 en, .int .i64 top]) (by as_aux_lemma => kernel_rfl) (by as_aux_lemma => kernel_rfl) (by as_aux_lemma => kernel_rfl) (fun _ _ _ _ _ h => h) (fun W hS => by have z0 := hS.d.pl.cell 0; have z1 := hS.d.pl.cell 1; have z2 := hS.d.pl.cell 2; simp at z0 z1 z2; clear hS hHeld; unfold cEv opC; as_aux_lemma => first | (go_simp; done) | (go_simp <;> rfl)) hHeld ?_
            refine takeO 4 101 (.load 24 (.const (.pointer (some ⟨b4, 0, none⟩)))) 24 (.agg #[.slice N nn cN, .int .i64 en, .int .i64 top]) (by as_aux_lemma => kernel_rfl) (by as_aux_lemma => kernel_rfl) (by as_aux_lemma => kernel_rfl) (fun _ _ _ _ _ h => h) (fun W hS => by have z0 := hS.d.pl.cell 0; have z1 := hS.d.pl.cell 1; have z2 := hS.d.pl.cell 2; simp at z0 z1 z2; clear hS hHeld; unfold cEv opC; as_aux_lemma => first | (go_simp; done) | (go_simp <;> rfl)) hHeld ?_
            refine readyO [3] (by as_aux_lemma => kernel_rfl) (by simp) ?_
            refine callO 3 100 (.call { callee := .value (.func 10), args := #[.const (.agg #[.slice N nn cN, .int .i64 en, .int .i64 top]), .const (.slice Aq nq cq), .const (.int .i64 y)], argTypes := #[24, 25, 3] }) 37 10 #[.agg #[.slice N nn cN, .int .i64 en, .int .i64 top], .slice Aq nq cq, .int .i64 y] (by as_aux_lemma => kernel_rfl) (by as_aux_lemma => kernel_rfl) (by unfold cEv opC; go_simp) ?_ AllReadyH.nil
            refine (CSp.out _ hHeld.d.bel y).mono ?_
            rintro e we ⟨rfl, hbe⟩
            refine ⟨_, rfl, (hHeld.step hbe), fun hHeld2 => ?_⟩
            clear hHeld
            have hHeld := hHeld2
            clear hHeld2
            clear hbe
            refine readyO [7] (by as_aux_lemma => kernel_rfl) (by simp) ?_
            refine callO 7 104 (.call { callee := .value (.func 10), args := #[.const (.agg #[.slice N nn cN, .int .i64 en, .int .i64 top]), .const (.slice Aq nq cq), .const (.int .i64 a)], argTypes := #[24, 25, 3] }) 37 10 #[.agg #[.slice N nn cN, .int .i64 en, .int .i64 top], .slice Aq nq cq, .int .i64 a] (by as_aux_lemma => kernel_rfl) (by as_aux_lemma => kernel_rfl) (by unfold cEv opC; go_simp) ?_ AllReadyH.nil
            refine (CSp.out _ hHeld.d.bel a).mono ?_
            rintro e wf ⟨rfl, hbf⟩
            refine ⟨_, rfl, (hHeld.step hbf), fun hHeld2 => ?_⟩
            clear hHeld
            have hHeld := hHeld2
            clear hHeld2
            clear hbf
            refine readyO [8] (by as_aux_lemma => kernel_rfl) (by simp) ?_
            refine callO 8 105 (.call { callee := .value (.func 9), args := #[.const (.agg #[.int .u64 (spotF ns qs y).1.1, .int .u64 (spotF ns qs y).1.2, .int .i64 y]), .const (.agg #[.int .u64 (spotF ns qs a).1.1, .int .u64 (spotF ns qs a).1.2, .int .i64 a])], argTypes := #[37, 37] }) 4 9 #[.agg #[.int .u64 (spotF ns qs y).1.1, .int .u64 (spotF ns qs y).1.2, .int .i64 y], .agg #[.int .u64 (spotF ns qs a).1.1, .int .u64 (spotF ns qs a).1.2, .int .i64 a]] (by as_aux_lemma => kernel_rfl) (by as_aux_lemma => kernel_rfl) (by unfold cEv opC; go_simp) ?_ AllReadyH.nil
            refine (CRk.out _).mono ?_
            rintro e wg ⟨rfl, hbg⟩
            refine ⟨_, rfl, (hHeld.step hbg), fun hHeld2 => ?_⟩
            clear hHeld
            have hHeld := hHeld2
            clear hHeld2
            clear hbg
            refine doneO [(97, .agg #[.slice N nn cN, .int .i64 en, .int .i64 top]), (0, .slice Aq nq cq), (0, .int .i64 y), (0, .agg #[.int .u64 (spotF ns qs y).1.1, .int .u64 (spotF ns qs y).1.2, .int .i64 y]), (0, .agg #[.slice N nn cN, .int .i64 en, .int .i64 top]), (0, .slice Aq nq cq), (0, .int .i64 a), (0, .agg #[.int .u64 (spotF ns qs a).1.1, .int .u64 (spotF ns qs a).1.2, .int .i64 a]), (0, .bool false)] (by as_aux_lemma => kernel_rfl) (by as_aux_lemma => kernel_rfl) ?_
            simp only [fillG]
            have HNk := hide hHeld
            clear hHeld
            go_wp2
            go_roundw
            case rel => exact ⟨m + 1, by omega, by go_num, HNk⟩
            case measure => simp [intOf]; omega
          · obtain rfl : m5 = m := by omega
            go_wp2
            go_roundw
            case rel => exact ⟨k + 1, by omega, by go_num, hide HM.out.d⟩
            case measure => simp [intOf]; omega
    · obtain rfl : n9 = k := by omega
      have p0 := HDk.out.pl.cell 0
      have p1 := HDk.out.pl.cell 1
      have p2 := HDk.out.pl.cell 2
      simp at p0 p1 p2
      go_upto_region 23 with (go_at_call 11; refine (down_any (HPw.out.at_ HDk.out.bel) (cN := cN) (en := en) (top := top)).mono ?_; rintro e w6 ⟨d, rfl, hdr, hb6⟩; have HD6 := hide (HDk.out.step hb6); have HDr := hide hdr; clear hdr hb6)
      clear HDk p0 p1 p2
      rcases ht : thereF ns en with _ | _
      · have CT := hide (fun (W : World) (hb : Below w.heap.size w W) => ht ▸ there_any (nn := nn) (cN := cN) (en := en) (top := top) (HPw.out.at_ hb).nd HPw.out.len en)
        clear ht
        have p0 := HD6.out.pl.cell 0
        have p1 := HD6.out.pl.cell 1
        have p2 := HD6.out.pl.cell 2
        simp at p0 p1 p2
        have n1 : (false != false) = false := rfl
        go_upto_region 25 with (go_at_call 12; refine (CT.out _ HD6.out.bel).mono ?_; rintro e w7 ⟨rfl, hb7⟩; have HD7 := hide (HD6.out.step hb7); clear hb7)
        clear HD6 p0 p1 p2
        refine startO (S := (fun W => WdW w b4 #[.slice N nn cN, .int .i64 en, .int .i64 top] (some ad9) p W)) 27 (by as_aux_lemma => kernel_rfl) (by as_aux_lemma => kernel_rfl) (HD7.out.step (Below.refl _ _).drew) (fun hHeld => ?_)
        clear HD7
        generalize World.drew _ = Wd at *
        refine putsO [0, 1, 2, 3, 4, 5, 8, 9, 10, 6, 7, 11, 12, 13, 14, 15, 16, 17, 18, 19, 20, 21, 22, 23, 24, 25, 26] [26, 25, 24, 23, 22, 21, 20, 19, 18, 17, 16, 15, 14, 13, 12, 11, 7, 6, 10, 9, 8, 5, 4, 3, 2, 1, 0] [(8, .bool true), (145, .bool true), (144, undef), (143, undef), (142, undef), (141, undef), (140, undef), (139, undef), (138, undef), (137, undef), (136, undef), (135, undef), (134, undef), (133, undef), (132, undef), (131, undef), (127, undef), (126, undef), (130, undef), (129, undef), (128, undef), (125, undef), (124, undef), (123, undef), (122, .bool true), (121, .bool true), (120, .bool false)] 27 rfl [120, 121, 122, 123, 124, 125, 128, 129, 130, 126, 127, 131, 132, 133, 134, 135, 136, 137, 138, 139, 140, 141, 142, 143, 144, 145, 8] (by as_aux_lemma => kernel_rfl) (by as_aux_lemma => kernel_rfl) rfl (fun _ _ _ _ _ h => h) hHeld ?_
        refine doneO [(8, .bool true), (111, .bool false), (0, .bool true), (0, .bool true), (0, undef), (0, undef), (0, undef), (0, undef), (0, undef), (0, undef), (0, undef), (0, undef), (0, undef), (0, undef), (0, undef), (0, undef), (0, undef), (0, undef), (0, undef), (0, undef), (0, undef), (0, undef), (0, undef), (0, undef), (0, undef), (0, undef), (0, .bool true)] (by as_aux_lemma => kernel_rfl) (by as_aux_lemma => kernel_rfl) ?_
        simp only [fillG]
        have HNk := hide hHeld
        clear hHeld
        go_wp2
        go_ret
        exact ⟨rfl, HNk.out.bel⟩
      · have CT := hide (fun (W : World) (hb : Below w.heap.size w W) => ht ▸ there_any (nn := nn) (cN := cN) (en := en) (top := top) (HPw.out.at_ hb).nd HPw.out.len en)
        have HDw := hide (show DownR ns qs (lvN top) en d by have h := HDr.out; rw [ht, if_pos rfl] at h; exact h)
        have HLt := hide (show sptLt (spotF ns qs en) (spotF ns qs d) = false from by
          rcases HDw.out.ahead with e | e
          · rw [e]; exact swoS.irrefl _
          · exact lt_asymm swoS e)
        clear ht
        have CSp := hide (fun (W : World) (hb : Below w.heap.size w W) (s : Int) => (HPw.out.at_ hb).spot (cN := cN) (en := en) (top := top) s)
        have CRk := hide (fun (W : World) => rSpot_any (spotF ns qs en) (spotF ns qs d) HLt.out W)
        have p0 := HD6.out.pl.cell 0
        have p1 := HD6.out.pl.cell 1
        have p2 := HD6.out.pl.cell 2
        simp at p0 p1 p2
        have n1 : (true != true) = false := rfl
        go_upto_region 25 with (go_at_call 12; refine (CT.out _ HD6.out.bel).mono ?_; rintro e w7 ⟨rfl, hb7⟩; have HD7 := hide (HD6.out.step hb7); clear hb7)
        clear HD6 p0 p1 p2
        by_cases h1 : 1 ≤ top
        · have v1 : decide (1 ≤ top) = true := decide_eq_true h1
          refine startO (S := (fun W => WdW w b4 #[.slice N nn cN, .int .i64 en, .int .i64 top] (some ad9) p W)) 27 (by as_aux_lemma => kernel_rfl) (by as_aux_lemma => kernel_rfl) (HD7.out.step (Below.refl _ _).drew) (fun hHeld => ?_)
          clear HD7
          generalize World.drew _ = Wd at *
          refine putsO [0, 1, 2, 4, 9, 10] [10, 9, 4, 2, 1, 0] [(130, .int .i64 d), (129, .slice Aq nq cq), (124, .slice Aq nq cq), (122, .bool false), (121, .bool false), (120, .bool true)] 6 rfl [120, 121, 122, 124, 129, 130] (by as_aux_lemma => kernel_rfl) (by as_aux_lemma => kernel_rfl) rfl (fun _ _ _ _ _ h => h) hHeld ?_
          refine takeO 3 123 (.load 24 (.const (.pointer (some ⟨b4, 0, none⟩)))) 24 (.agg #[.slice N nn cN, .int .i64 en, .int .i64 top]) (by as_aux_lemma => kernel_rfl) (by as_aux_lemma => kernel_rfl) (by as_aux_lemma => kernel_rfl) (fun _ _ _ _ _ h => h) (fun W hS => by have z0 := hS.pl.cell 0; have z1 := hS.pl.cell 1; have z2 := hS.pl.cell 2; simp at z0 z1 z2; clear hS hHeld; unfold cEv opC; as_aux_lemma => first | (go_simp; done) | (go_simp <;> rfl)) hHeld ?_
          refine takeO 5 125 (.fieldAddr 24 (.const (.pointer (some ⟨b4, 0, none⟩))) 1) 0 (.pointer (some ⟨b4, 1, none⟩)) (by as_aux_lemma => kernel_rfl) (by as_aux_lemma => kernel_rfl) (by as_aux_lemma => kernel_rfl) (fun _ _ _ _ _ h => h) (fun W hS => by clear hS hHeld; unfold cEv opC; as_aux_lemma => first | (go_simp; done) | (go_simp <;> rfl)) hHeld ?_
          refine takeO 8 128 (.load 24 (.const (.pointer (some ⟨b4, 0, none⟩)))) 24 (.agg #[.slice N nn cN, .int .i64 en, .int .i64 top]) (by as_aux_lemma => kernel_rfl) (by as_aux_lemma => kernel_rfl) (by as_aux_lemma => kernel_rfl) (fun _ _ _ _ _ h => h) (fun W hS => by have z0 := hS.pl.cell 0; have z1 := hS.pl.cell 1; have z2 := hS.pl.cell 2; simp at z0 z1 z2; clear hS hHeld; unfold cEv opC; as_aux_lemma => first | (go_simp; done) | (go_simp <;> rfl)) hHeld ?_
          refine takeO 6 126 (.load 3 (.const (.pointer (some ⟨b4, 1, none⟩)))) 3 (.int .i64 en) (by as_aux_lemma => kernel_rfl) (by as_aux_lemma => kernel_rfl) (by as_aux_lemma => kernel_rfl) (fun _ _ _ _ _ h => h) (fun W hS => by have z0 := hS.pl.cell 0; have z1 := hS.pl.cell 1; have z2 := hS.pl.cell 2; simp at z0 z1 z2; clear hS hHeld; unfold cEv opC; as_aux_lemma => first | (go_simp; done) | (go_simp <;> rfl)) hHeld ?_
          refine readyO [7] (by as_aux_lemma => kernel_rfl) (by simp) ?_
          refine callO 7 127 (.call { callee := .value (.func 10), args := #[.const (.agg #[.slice N nn cN, .int .i64 en, .int .i64 top]), .const (.slice Aq nq cq), .const (.int .i64 en)], argTypes := #[24, 25, 3] }) 37 10 #[.agg #[.slice N nn cN, .int .i64 en, .int .i64 top], .slice Aq nq cq, .int .i64 en] (by as_aux_lemma => kernel_rfl) (by as_aux_lemma => kernel_rfl) (by unfold cEv opC; go_simp) ?_ AllReadyH.nil
          refine (CSp.out _ hHeld.bel en).mono ?_
          rintro e we ⟨rfl, hbe⟩
          refine ⟨_, rfl, (hHeld.step hbe), fun hHeld2 => ?_⟩
          clear hHeld
          have hHeld := hHeld2
          clear hHeld2
          clear hbe
          refine readyO [11] (by as_aux_lemma => kernel_rfl) (by simp) ?_
          refine callO 11 131 (.call { callee := .value (.func 10), args := #[.const (.agg #[.slice N nn cN, .int .i64 en, .int .i64 top]), .const (.slice Aq nq cq), .const (.int .i64 d)], argTypes := #[24, 25, 3] }) 37 10 #[.agg #[.slice N nn cN, .int .i64 en, .int .i64 top], .slice Aq nq cq, .int .i64 d] (by as_aux_lemma => kernel_rfl) (by as_aux_lemma => kernel_rfl) (by unfold cEv opC; go_simp) ?_ AllReadyH.nil
          refine (CSp.out _ hHeld.bel d).mono ?_
          rintro e wf ⟨rfl, hbf⟩
          refine ⟨_, rfl, (hHeld.step hbf), fun hHeld2 => ?_⟩
          clear hHeld
          have hHeld := hHeld2
          clear hHeld2
          clear hbf
          refine readyO [12] (by as_aux_lemma => kernel_rfl) (by simp) ?_
          refine callO 12 132 (.call { callee := .value (.func 9), args := #[.const (.agg #[.int .u64 (spotF ns qs en).1.1, .int .u64 (spotF ns qs en).1.2, .int .i64 en]), .const (.agg #[.int .u64 (spotF ns qs d).1.1, .int .u64 (spotF ns qs d).1.2, .int .i64 d])], argTypes := #[37, 37] }) 4 9 #[.agg #[.int .u64 (spotF ns qs en).1.1, .int .u64 (spotF ns qs en).1.2, .int .i64 en], .agg #[.int .u64 (spotF ns qs d).1.1, .int .u64 (spotF ns qs d).1.2, .int .i64 d]] (by as_aux_lemma => kernel_rfl) (by as_aux_lemma => kernel_rfl) (by unfold cEv opC; go_simp) ?_ AllReadyH.nil
          refine (CRk.out _).mono ?_
          rintro e wg ⟨rfl, hbg⟩
          refine ⟨_, rfl, (hHeld.step hbg), fun hHeld2 => ?_⟩
          clear hHeld
          have hHeld := hHeld2
          clear hHeld2
          clear hbg
          refine putsO [13, 14] [14, 13] [(134, .bool true), (133, .bool true)] 2 rfl [133, 134] (by as_aux_lemma => kernel_rfl) (by as_aux_lemma => kernel_rfl) rfl (fun _ _ _ _ _ h => h) hHeld ?_
          refine takeO 15 135 (.fieldAddr 24 (.const (.pointer (some ⟨b4, 0, none⟩))) 2) 0 (.pointer (some ⟨b4, 2, none⟩)) (by as_aux_lemma => kernel_rfl) (by as_aux_lemma => kernel_rfl) (by as_aux_lemma => kernel_rfl) (fun _ _ _ _ _ h => h) (fun W hS => by clear hS hHeld; unfold cEv opC; as_aux_lemma => first | (go_simp; done) | (go_simp <;> rfl)) hHeld ?_
          refine takeO 16 136 (.load 3 (.const (.pointer (some ⟨b4, 2, none⟩)))) 3 (.int .i64 top) (by as_aux_lemma => kernel_rfl) (by as_aux_lemma => kernel_rfl) (by as_aux_lemma => kernel_rfl) (fun _ _ _ _ _ h => h) (fun W hS => by have z0 := hS.pl.cell 0; have z1 := hS.pl.cell 1; have z2 := hS.pl.cell 2; simp at z0 z1 z2; clear hS hHeld; unfold cEv opC; as_aux_lemma => first | (go_simp; done) | (go_simp <;> rfl)) hHeld ?_
          refine takeO 17 137 (.binOp .geq 3 (.const (.int .i64 top)) (.const (.int .i64 1)) 3) 4 (.bool true) (by as_aux_lemma => kernel_rfl) (by as_aux_lemma => kernel_rfl) (by as_aux_lemma => kernel_rfl) (fun _ _ _ _ _ h => h) (fun W hS => by clear hS hHeld; unfold cEv opC; as_aux_lemma => first | (go_simp; done) | (go_simp <;> rfl)) hHeld ?_
          refine putsO [18, 19, 20, 21, 22, 23, 24, 25, 26] [26, 25, 24, 23, 22, 21, 20, 19, 18] [(8, .bool true), (145, .bool true), (144, .bool true), (143, .bool true), (142, undef), (141, undef), (140, undef), (139, undef), (138, .bool true)] 9 rfl [138, 139, 140, 141, 142, 143, 144, 145, 8] (by as_aux_lemma => kernel_rfl) (by as_aux_lemma => kernel_rfl) rfl (fun _ _ _ _ _ h => h) hHeld ?_
          refine doneO [(8, .bool true), (111, .bool true), (0, .bool false), (0, .bool false), (0, .agg #[.slice N nn cN, .int .i64 en, .int .i64 top]), (0, .slice Aq nq cq), (0, .pointer (some ⟨b4, 1, none⟩)), (0, .int .i64 en), (0, .agg #[.int .u64 (spotF ns qs en).1.1, .int .u64 (spotF ns qs en).1.2, .int .i64 en]), (0, .agg #[.slice N nn cN, .int .i64 en, .int .i64 top]), (0, .slice Aq nq cq), (0, .int .i64 d), (0, .agg #[.int .u64 (spotF ns qs d).1.1, .int .u64 (spotF ns qs d).1.2, .int .i64 d]), (0, .bool false), (0, .bool true), (0, .bool true), (0, .pointer (some ⟨b4, 2, none⟩)), (0, .int .i64 top), (0, .bool true), (0, .bool true), (0, undef), (0, undef), (0, undef), (0, undef), (0, .bool true), (0, .bool true), (0, .bool true)] (by as_aux_lemma => kernel_rfl) (by as_aux_lemma => kernel_rfl) ?_
          simp only [fillG]
          have HNk := hide hHeld
          clear hHeld
          go_wp2
          go_ret
          exact ⟨rfl, HNk.out.bel⟩
        · have v1 : decide (1 ≤ top) = false := decide_eq_false h1
          obtain rfl : d = en := by
            have h := HDw.out
            rw [show lvN top = 0 by unfold lvN; omega] at h
            exact h
          refine startO (S := (fun W => WdW w b4 #[.slice N nn cN, .int .i64 d, .int .i64 top] (some ad9) p W)) 27 (by as_aux_lemma => kernel_rfl) (by as_aux_lemma => kernel_rfl) (HD7.out.step (Below.refl _ _).drew) (fun hHeld => ?_)
          clear HD7
          generalize World.drew _ = Wd at *
          refine putsO [0, 1, 2, 4, 9, 10] [10, 9, 4, 2, 1, 0] [(130, .int .i64 d), (129, .slice Aq nq cq), (124, .slice Aq nq cq), (122, .bool false), (121, .bool false), (120, .bool true)] 6 rfl [120, 121, 122, 124, 129, 130] (by as_aux_lemma => kernel_rfl) (by as_aux_lemma => kernel_rfl) rfl (fun _ _ _ _ _ h => h) hHeld ?_
          refine takeO 3 123 (.load 24 (.const (.pointer (some ⟨b4, 0, none⟩)))) 24 (.agg #[.slice N nn cN, .int .i64 d, .int .i64 top]) (by as_aux_lemma => kernel_rfl) (by as_aux_lemma => kernel_rfl) (by as_aux_lemma => kernel_rfl) (fun _ _ _ _ _ h => h) (fun W hS => by have z0 := hS.pl.cell 0; have z1 := hS.pl.cell 1; have z2 := hS.pl.cell 2; simp at z0 z1 z2; clear hS hHeld; unfold cEv opC; as_aux_lemma => first | (go_simp; done) | (go_simp <;> rfl)) hHeld ?_
          refine takeO 5 125 (.fieldAddr 24 (.const (.pointer (some ⟨b4, 0, none⟩))) 1) 0 (.pointer (some ⟨b4, 1, none⟩)) (by as_aux_lemma => kernel_rfl) (by as_aux_lemma => kernel_rfl) (by as_aux_lemma => kernel_rfl) (fun _ _ _ _ _ h => h) (fun W hS => by clear hS hHeld; unfold cEv opC; as_aux_lemma => first | (go_simp; done) | (go_simp <;> rfl)) hHeld ?_
          refine takeO 8 128 (.load 24 (.const (.pointer (some ⟨b4, 0, none⟩)))) 24 (.agg #[.slice N nn cN, .int .i64 d, .int .i64 top]) (by as_aux_lemma => kernel_rfl) (by as_aux_lemma => kernel_rfl) (by as_aux_lemma => kernel_rfl) (fun _ _ _ _ _ h => h) (fun W hS => by have z0 := hS.pl.cell 0; have z1 := hS.pl.cell 1; have z2 := hS.pl.cell 2; simp at z0 z1 z2; clear hS hHeld; unfold cEv opC; as_aux_lemma => first | (go_simp; done) | (go_simp <;> rfl)) hHeld ?_
          refine takeO 6 126 (.load 3 (.const (.pointer (some ⟨b4, 1, none⟩)))) 3 (.int .i64 d) (by as_aux_lemma => kernel_rfl) (by as_aux_lemma => kernel_rfl) (by as_aux_lemma => kernel_rfl) (fun _ _ _ _ _ h => h) (fun W hS => by have z0 := hS.pl.cell 0; have z1 := hS.pl.cell 1; have z2 := hS.pl.cell 2; simp at z0 z1 z2; clear hS hHeld; unfold cEv opC; as_aux_lemma => first | (go_simp; done) | (go_simp <;> rfl)) hHeld ?_
          refine readyO [7] (by as_aux_lemma => kernel_rfl) (by simp) ?_
          refine callO 7 127 (.call { callee := .value (.func 10), args := #[.const (.agg #[.slice N nn cN, .int .i64 d, .int .i64 top]), .const (.slice Aq nq cq), .const (.int .i64 d)], argTypes := #[24, 25, 3] }) 37 10 #[.agg #[.slice N nn cN, .int .i64 d, .int .i64 top], .slice Aq nq cq, .int .i64 d] (by as_aux_lemma => kernel_rfl) (by as_aux_lemma => kernel_rfl) (by unfold cEv opC; go_simp) ?_ AllReadyH.nil
          refine (CSp.out _ hHeld.bel d).mono ?_
          rintro e we ⟨rfl, hbe⟩
          refine ⟨_, rfl, (hHeld.step hbe), fun hHeld2 => ?_⟩
          clear hHeld
          have hHeld := hHeld2
          clear hHeld2
          clear hbe
          refine readyO [11] (by as_aux_lemma => kernel_rfl) (by simp) ?_
          refine callO 11 131 (.call { callee := .value (.func 10), args := #[.const (.agg #[.slice N nn cN, .int .i64 d, .int .i64 top]), .const (.slice Aq nq cq), .const (.int .i64 d)], argTypes := #[24, 25, 3] }) 37 10 #[.agg #[.slice N nn cN, .int .i64 d, .int .i64 top], .slice Aq nq cq, .int .i64 d] (by as_aux_lemma => kernel_rfl) (by as_aux_lemma => kernel_rfl) (by unfold cEv opC; go_simp) ?_ AllReadyH.nil
          refine (CSp.out _ hHeld.bel d).mono ?_
          rintro e wf ⟨rfl, hbf⟩
          refine ⟨_, rfl, (hHeld.step hbf), fun hHeld2 => ?_⟩
          clear hHeld
          have hHeld := hHeld2
          clear hHeld2
          clear hbf
          refine readyO [12] (by as_aux_lemma => kernel_rfl) (by simp) ?_
          refine callO 12 132 (.call { callee := .value (.func 9), args := #[.const (.agg #[.int .u64 (spotF ns qs d).1.1, .int .u64 (spotF ns qs d).1.2, .int .i64 d]), .const (.agg #[.int .u64 (spotF ns qs d).1.1, .int .u64 (spotF ns qs d).1.2, .int .i64 d])], argTypes := #[37, 37] }) 4 9 #[.agg #[.int .u64 (spotF ns qs d).1.1, .int .u64 (spotF ns qs d).1.2, .int .i64 d], .agg #[.int .u64 (spotF ns qs d).1.1, .int .u64 (spotF ns qs d).1.2, .int .i64 d]] (by as_aux_lemma => kernel_rfl) (by as_aux_lemma => kernel_rfl) (by unfold cEv opC; go_simp) ?_ AllReadyH.nil
          refine (CRk.out _).mono ?_
          rintro e wg ⟨rfl, hbg⟩
          refine ⟨_, rfl, (hHeld.step hbg), fun hHeld2 => ?_⟩
          clear hHeld
          have hHeld := hHeld2
          clear hHeld2
          clear hbg
          refine putsO [13, 14] [14, 13] [(134, .bool true), (133, .bool true)] 2 rfl [133, 134] (by as_aux_lemma => kernel_rfl) (by as_aux_lemma => kernel_rfl) rfl (fun _ _ _ _ _ h => h) hHeld ?_
          refine takeO 15 135 (.fieldAddr 24 (.const (.pointer (some ⟨b4, 0, none⟩))) 2) 0 (.pointer (some ⟨b4, 2, none⟩)) (by as_aux_lemma => kernel_rfl) (by as_aux_lemma => kernel_rfl) (by as_aux_lemma => kernel_rfl) (fun _ _ _ _ _ h => h) (fun W hS => by clear hS hHeld; unfold cEv opC; as_aux_lemma => first | (go_simp; done) | (go_simp <;> rfl)) hHeld ?_
          refine takeO 16 136 (.load 3 (.const (.pointer (some ⟨b4, 2, none⟩)))) 3 (.int .i64 top) (by as_aux_lemma => kernel_rfl) (by as_aux_lemma => kernel_rfl) (by as_aux_lemma => kernel_rfl) (fun _ _ _ _ _ h => h) (fun W hS => by have z0 := hS.pl.cell 0; have z1 := hS.pl.cell 1; have z2 := hS.pl.cell 2; simp at z0 z1 z2; clear hS hHeld; unfold cEv opC; as_aux_lemma => first | (go_simp; done) | (go_simp <;> rfl)) hHeld ?_
          refine takeO 17 137 (.binOp .geq 3 (.const (.int .i64 top)) (.const (.int .i64 1)) 3) 4 (.bool false) (by as_aux_lemma => kernel_rfl) (by as_aux_lemma => kernel_rfl) (by as_aux_lemma => kernel_rfl) (fun _ _ _ _ _ h => h) (fun W hS => by clear hS hHeld; unfold cEv opC; as_aux_lemma => first | (go_simp; done) | (go_simp <;> rfl)) hHeld ?_
          refine putsO [18, 19] [19, 18] [(139, .int .i64 d), (138, .bool false)] 2 rfl [138, 139] (by as_aux_lemma => kernel_rfl) (by as_aux_lemma => kernel_rfl) rfl (fun _ _ _ _ _ h => h) hHeld ?_
          refine takeO 20 140 (.fieldAddr 24 (.const (.pointer (some ⟨b4, 0, none⟩))) 1) 0 (.pointer (some ⟨b4, 1, none⟩)) (by as_aux_lemma => kernel_rfl) (by as_aux_lemma => kernel_rfl) (by as_aux_lemma => kernel_rfl) (fun _ _ _ _ _ h => h) (fun W hS => by clear hS hHeld; unfold cEv opC; as_aux_lemma => first | (go_simp; done) | (go_simp <;> rfl)) hHeld ?_
          refine takeO 21 141 (.load 3 (.const (.pointer (some ⟨b4, 1, none⟩)))) 3 (.int .i64 d) (by as_aux_lemma => kernel_rfl) (by as_aux_lemma => kernel_rfl) (by as_aux_lemma => kernel_rfl) (fun _ _ _ _ _ h => h) (fun W hS => by have z0 := hS.pl.cell 0; have z1 := hS.pl.cell 1; have z2 := hS.pl.cell 2; simp at z0 z1 z2; clear hS hHeld; unfold cEv opC; as_aux_lemma => first | (go_simp; done) | (go_simp <;> rfl)) hHeld ?_
          refine takeO 22 142 (.binOp .eql 3 (.const (.int .i64 d)) (.const (.int .i64 d)) 3) 4 (.bool true) (by as_aux_lemma => kernel_rfl) (by as_aux_lemma => kernel_rfl) (by as_aux_lemma => kernel_rfl) (fun _ _ _ _ _ h => h) (fun W hS => by clear hS hHeld; unfold cEv opC; as_aux_lemma => first | (go_simp; done) | (go_simp <;> rfl)) hHeld ?_
          refine putsO [23, 24, 25, 26] [26, 25, 24, 23] [(8, .bool true), (145, .bool true), (144, .bool true), (143, .bool true)] 4 rfl [143, 144, 145, 8] (by as_aux_lemma => kernel_rfl) (by as_aux_lemma => kernel_rfl) rfl (fun _ _ _ _ _ h => h) hHeld ?_
          refine doneO [(8, .bool true), (111, .bool true), (0, .bool false), (0, .bool false), (0, .agg #[.slice N nn cN, .int .i64 d, .int .i64 top]), (0, .slice Aq nq cq), (0, .pointer (some ⟨b4, 1, none⟩)), (0, .int .i64 d), (0, .agg #[.int .u64 (spotF ns qs d).1.1, .int .u64 (spotF ns qs d).1.2, .int .i64 d]), (0, .agg #[.slice N nn cN, .int .i64 d, .int .i64 top]), (0, .slice Aq nq cq), (0, .int .i64 d), (0, .agg #[.int .u64 (spotF ns qs d).1.1, .int .u64 (spotF ns qs d).1.2, .int .i64 d]), (0, .bool false), (0, .bool true), (0, .bool true), (0, .pointer (some ⟨b4, 2, none⟩)), (0, .int .i64 top), (0, .bool false), (0, .bool false), (0, .int .i64 d), (0, .pointer (some ⟨b4, 1, none⟩)), (0, .int .i64 d), (0, .bool true), (0, .bool true), (0, .bool true), (0, .bool true)] (by as_aux_lemma => kernel_rfl) (by as_aux_lemma => kernel_rfl) ?_
          simp only [fillG]
          have HNk := hide hHeld
          clear hHeld
          go_wp2
          go_ret
          exact ⟨rfl, HNk.out.bel⟩
end Go.Proofs.Ytphbdffgeeicaad
