/-
  Texts of one part, put together. No condition.
-/
import Derived.Test.YtgiplahhalgbdaaGreatPlnB
import Derived.Test.YtgiplahhalgbdaaGreatMgH
/-
  The package plane: list. Conditions: the slice of nodes reads as a list, its numbers are small.
-/
namespace Go.Proofs.YtgiplahhalgbdaaGreat
set_option linter.unusedSimpArgs false
set_option linter.unusedVariables false
open Go.RowKit

/-- a slot is there, and lists another one -/
def listedF (ns : List NodeP) (x : Int) (lev : Nat) (slot : Int) : Bool := thereF ns x && (match (nodeF ns x).2.2.1[lev]? with | some l => decide (slot ∈ l) | none => false)
/-- a node's list of a level is right -/
def listP (ns : List NodeP) (slot : Int) (lev : Nat) (links : Int) : Prop := ∃ l, (nodeF ns slot).2.2.1[lev]? = some l ∧ rightE l slot links lev ((ns.length : Int) - 1) ∧ ∀ x ∈ l, listedF ns x lev slot = true
theorem nodeF_at {ns : List NodeP} {k : Nat} {x : NodeP} (h : ns[k]? = some x) : nodeF ns (k : Int) = x := by
  unfold nodeF
  rw [show ((k : Int)).toNat = k by omega, h]; rfl
/-- what list has: the plane, the level, the slot -/
structure LsW (w : World) (b4 : Nat) (cs : Array Value) (b5 b6 : Nat) (slot lev : Int) (W : World) : Prop where
  p : PlB w b4 cs W
  s : Blk W b5 3 #[.int .i64 slot]
  l : Blk W b6 3 #[.int .i64 lev]
theorem LsW.step {w W W' : World} {b4 b5 b6 : Nat} {cs : Array Value} {slot lev : Int} (h : LsW w b4 cs b5 b6 slot lev W) (hb : Below W.heap.size W W') : LsW w b4 cs b5 b6 slot lev W' := ⟨h.p.step hb, h.s.below hb h.s.lt, h.l.below hb h.l.lt⟩
theorem wf_rng {x : Int} (h : (Lit.int .i64 x).wf = true) : -9223372036854775808 ≤ x ∧ x ≤ 9223372036854775807 := by
  simp only [Lit.wf, Bool.and_eq_true, decide_eq_true_eq] at h
  exact h
set_option maxHeartbeats 4000000 in
theorem idx_list {w : World} {A : Option Addr} {n c : Nat} {l : List Int} {b4 b5 b6 : Nat} (p : Int → Bool) (C : ∀ (W : World) (x : Int), x ∈ l → Below w.heap.size w W → Calls Tryz.prog 36 #[.int .i64 x, .pointer (some ⟨b4, 0, none⟩), .pointer (some ⟨b6, 0, none⟩), .pointer (some ⟨b5, 0, none⟩)] W fun e w' => e = .returned (.bool (p x)) ∧ Below W.heap.size W w')
    (hx : Rd (Sh.int .i64) w w.heap.size A l) (hn : l.length = n) (h6 : n ≤ 2000000) : Calls Tryz.prog 50 #[.slice A n c, .func (.func 36) #[] #[.pointer (some ⟨b4, 0, none⟩), .pointer (some ⟨b6, 0, none⟩), .pointer (some ⟨b5, 0, none⟩)]] w fun e w' => (∃ z : Int, e = .returned (.int .i64 z) ∧ decide (0 ≤ z) = l.any p) ∧ Below w.heap.size w w' := by
  have HC := hide C
  have HX := hide hx
  have Hl := hide hn
  have HS := hide (Below.refl w.heap.size w)
  clear C hx hn
  go_enter Tryz.func50, Tryz.ntmps50
  go_wp2
  go_loopw [5, 8] (fun _ i wr => ∃ j : Nat, j ≤ n ∧ i = .int .i64 j ∧ Hid ((l.take j).any p = false) ∧ Hid (Below w.heap.size w wr)) (fun _ i _ => n - (intOf i).toNat)
  case atStart => exact ⟨0, by omega, rfl, hide rfl, HS⟩
  case round =>
    obtain ⟨j, hj, rfl, HN, HB⟩ := hrel
    clear HS
    by_cases hlt : j < n
    · obtain ⟨ad, y, rfl, _, hv, q0⟩ := RdR.icell (HX.out.at_world HB.out) (k := j) (by have := Hl.out; omega)
      have g0 : (0 : Int) ≤ j := by omega
      have g1 : (j : Int) < n := by omega
      have HV := hide hv
      have CC := hide (HC.out wr y (List.mem_of_getElem? hv) HB.out)
      clear hv
      rcases e : p y with _ | _
      · rw [e] at CC
        have HN1 := hide (show (l.take (j + 1)).any p = false by rw [takeI_snoc HV.out, List.any_append, HN.out]; simp [e])
        clear e
        go_wp2_with (go_at_call 36; refine CC.out.mono ?_; rintro e w2 ⟨rfl, hb⟩; have HB2 := hide (Below.step HB.out hb); clear hb)
        go_roundw
        case rel => exact ⟨j + 1, by omega, by go_num, HN1, HB2⟩
        case measure => simp [intOf]; omega
      · rw [e] at CC
        have HF := hide (show l.any p = true from List.any_eq_true.2 ⟨y, List.mem_of_getElem? HV.out, e⟩)
        clear e
        go_wp2_with (go_at_call 36; refine CC.out.mono ?_; rintro e w2 ⟨rfl, hb⟩; have HB2 := hide (Below.step HB.out hb); clear hb)
        go_ret
        exact ⟨⟨(j : Int), rfl, by rw [HF.out]; exact decide_eq_true g0⟩, HB2.out⟩
    · obtain rfl : n = j := by omega
      go_wp2
      go_ret
      exact ⟨⟨-1, rfl, by have h := HN.out; rw [List.take_of_length_le (by have := Hl.out; omega)] at h; rw [h]; rfl⟩, HB.out⟩
theorem cont_list {w : World} {A : Option Addr} {n c : Nat} {l : List Int} {b4 b5 b6 : Nat} (p : Int → Bool) (C : ∀ (W : World) (x : Int), x ∈ l → Below w.heap.size w W → Calls Tryz.prog 36 #[.int .i64 x, .pointer (some ⟨b4, 0, none⟩), .pointer (some ⟨b6, 0, none⟩), .pointer (some ⟨b5, 0, none⟩)] W fun e w' => e = .returned (.bool (p x)) ∧ Below W.heap.size W w')
    (hx : Rd (Sh.int .i64) w w.heap.size A l) (hn : l.length = n) (h6 : n ≤ 2000000) : Calls Tryz.prog 35 #[.slice A n c, .func (.func 36) #[] #[.pointer (some ⟨b4, 0, none⟩), .pointer (some ⟨b6, 0, none⟩), .pointer (some ⟨b5, 0, none⟩)]] w fun e w' => e = .returned (.bool (l.any p)) ∧ Below w.heap.size w w' := by
  have H := hide (idx_list (c := c) p C hx hn h6)
  clear C hx hn
  go_enter Tryz.func35, Tryz.ntmps35
  go_wp2_with fail
  refine H.out.mono ?_
  rintro e w2 ⟨⟨z, rfl, hz⟩, hb⟩
  have HZ := hide hz
  have HB := hide hb
  clear hz hb H
  go_wp2
  go_ret
  exact ⟨by rw [← HZ.out]; rfl, HB.out⟩
section
variable {w : World} {N : Option Addr} {nn cN : Nat} {ns : List NodeP} {en top : Int}
set_option maxHeartbeats 4000000 in
set_option maxRecDepth 100000 in
theorem list1_none {b4 b5 b6 : Nat} {slot x : Int} {lev : Nat} {W : World} (hp : PlN w N nn ns) (hl : LsW w b4 #[.slice N nn cN, .int .i64 en, .int .i64 top] b5 b6 slot (lev : Int) W) (hth : thereF ns x = false) : Calls Tryz.prog 36 #[.int .i64 x, .pointer (some ⟨b4, 0, none⟩), .pointer (some ⟨b6, 0, none⟩), .pointer (some ⟨b5, 0, none⟩)] W fun e w' => e = .returned (.bool (true)) ∧ Below W.heap.size W w' := by
  have HP := hide hp
  have HL := hide hl
  have HTh := hide hth
  clear hp hl hth
  go_enter Tryz.func36, Tryz.ntmps36
  go_upto_region 1 with fail
  refine startO (S := (fun W => LsW w b4 #[.slice N nn cN, .int .i64 en, .int .i64 top] b5 b6 slot (lev : Int) W)) 30 (by as_aux_lemma => kernel_rfl) (by as_aux_lemma => kernel_rfl) (HL.out.step (Below.refl _ _).drew) (fun hHeld => ?_)
  have HBd := hide ((Below.refl W.heap.size W).drew)
  clear HL
  generalize hWd : World.drew _ = Wd at *
  clear hWd
  refine putsO [1] [1] [(7, .int .i64 x)] 1 rfl [7] (by as_aux_lemma => kernel_rfl) (by as_aux_lemma => kernel_rfl) rfl (fun _ _ _ _ _ h => h) hHeld ?_
  refine takeO 0 6 (.load 24 (.const (.pointer (some ⟨b4, 0, none⟩)))) 24 (.agg #[.slice N nn cN, .int .i64 en, .int .i64 top]) (by as_aux_lemma => kernel_rfl) (by as_aux_lemma => kernel_rfl) (by as_aux_lemma => kernel_rfl) (fun _ _ _ _ _ h => h) (fun W hS => by have z0 := hS.p.pl.cell 0; have z1 := hS.p.pl.cell 1; have z2 := hS.p.pl.cell 2; simp at z0 z1 z2; clear hS hHeld; unfold cEv opC; as_aux_lemma => first | (go_simp; done) | (go_simp <;> rfl)) hHeld ?_
  refine readyO [2] (by as_aux_lemma => kernel_rfl) (by simp) ?_
  refine callO 2 8 (.call { callee := .value (.func 17), args := #[.const (.agg #[.slice N nn cN, .int .i64 en, .int .i64 top]), .const (.int .i64 x)], argTypes := #[24, 3] }) 4 17 #[.agg #[.slice N nn cN, .int .i64 en, .int .i64 top], .int .i64 x] (by as_aux_lemma => kernel_rfl) (by as_aux_lemma => kernel_rfl) (by unfold cEv opC; go_simp) ?_ AllReadyH.nil
  refine (there_any (nn := nn) (cN := cN) (en := en) (top := top) (HP.out.at_ hHeld.p.bel).nd HP.out.len x).mono ?_
  rintro e w5 ⟨rfl, hb5⟩
  rw [HTh.out]
  refine ⟨_, rfl, (hHeld.step hb5), fun hHeld2 => ?_⟩
  clear hHeld
  have hHeld := hHeld2
  clear hHeld2
  have HB5 := hide (Below.step HBd.out hb5)
  clear hb5
  refine putsO [3, 4, 5, 6, 8, 7, 9, 10, 11, 12, 13, 14, 15, 16, 18, 22, 25, 17, 19, 20, 21, 23, 24, 26, 27, 28, 29] [29, 28, 27, 26, 24, 23, 21, 20, 19, 17, 25, 22, 18, 16, 15, 14, 13, 12, 11, 10, 9, 7, 8, 6, 5, 4, 3] [(5, .bool true), (34, .bool true), (33, undef), (32, undef), (30, undef), (29, undef), (27, undef), (26, undef), (25, undef), (23, undef), (31, undef), (28, undef), (24, undef), (22, undef), (21, .bool true), (20, .bool true), (19, undef), (18, undef), (17, undef), (16, undef), (15, undef), (13, undef), (14, undef), (12, undef), (11, undef), (10, .bool true), (9, .bool true)] 27 rfl [9, 10, 11, 12, 14, 13, 15, 16, 17, 18, 19, 20, 21, 22, 24, 28, 31, 23, 25, 26, 27, 29, 30, 32, 33, 34, 5] (by as_aux_lemma => kernel_rfl) (by as_aux_lemma => kernel_rfl) rfl (fun _ _ _ _ _ h => h) hHeld ?_
  refine doneO [(5, .bool true), (0, .agg #[.slice N nn cN, .int .i64 en, .int .i64 top]), (0, .int .i64 x), (0, .bool false), (0, .bool true), (0, .bool true), (0, undef), (0, undef), (0, undef), (0, undef), (0, undef), (0, undef), (0, undef), (0, undef), (0, undef), (0, .bool true), (0, .bool true), (0, undef), (0, undef), (0, undef), (0, undef), (0, undef), (0, undef), (0, undef), (0, undef), (0, undef), (0, undef), (0, undef), (0, undef), (0, .bool true)] (by as_aux_lemma => kernel_rfl) (by as_aux_lemma => kernel_rfl) ?_
  simp only [fillG]
  have HBe := hide HB5.out
  clear hHeld
  go_wp2
  go_ret
  exact ⟨rfl, HBe.out⟩
set_option maxHeartbeats 4000000 in
set_option maxRecDepth 100000 in
theorem list1_short {b4 b5 b6 k : Nat} {slot : Int} {lev : Nat} {W : World} {ad : Addr} {ls : List (List Int)} {L : Option Addr} {cL : Nat} (hp : PlN w (some ad) nn ns) (hl : LsW w b4 #[.slice (some ad) nn cN, .int .i64 en, .int .i64 top] b5 b6 slot (lev : Int) W) (hth : thereF ns (k : Int) = true) (hkn : k < nn) (hbn : (ad.add (k * 7)).block < w.heap.size) (hc4 : w.cell? ⟨(ad.add (k * 7)).block, (ad.add (k * 7)).off + 4, none⟩ = some (.slice L ls.length cL)) (hlev : ls.length ≤ lev) : Calls Tryz.prog 36 #[.int .i64 (k : Int), .pointer (some ⟨b4, 0, none⟩), .pointer (some ⟨b6, 0, none⟩), .pointer (some ⟨b5, 0, none⟩)] W fun e w' => e = .returned (.bool (true)) ∧ Below W.heap.size W w' := by
  have HP := hide hp
  have HL := hide hl
  have HTh := hide hth
  clear hp hl hth
  have Hkn := hide hkn
  have HBn := hide hbn
  have HC4 := hide hc4
  clear hkn hbn hc4
  have He1 := hide (show decide ((ls.length : Int) ≤ (lev : Int)) = true from decide_eq_true (by omega))
  have He2 := hide (show decide (ls.length ≤ lev) = true from decide_eq_true hlev)
  clear hlev
  go_enter Tryz.func36, Tryz.ntmps36
  go_upto_region 1 with fail
  refine startO (S := (fun W => LsW w b4 #[.slice (some ad) nn cN, .int .i64 en, .int .i64 top] b5 b6 slot (lev : Int) W)) 30 (by as_aux_lemma => kernel_rfl) (by as_aux_lemma => kernel_rfl) (HL.out.step (Below.refl _ _).drew) (fun hHeld => ?_)
  have HBd := hide ((Below.refl W.heap.size W).drew)
  clear HL
  generalize hWd : World.drew _ = Wd at *
  clear hWd
  refine putsO [1] [1] [(7, .int .i64 (k : Int))] 1 rfl [7] (by as_aux_lemma => kernel_rfl) (by as_aux_lemma => kernel_rfl) rfl (fun _ _ _ _ _ h => h) hHeld ?_
  refine takeO 0 6 (.load 24 (.const (.pointer (some ⟨b4, 0, none⟩)))) 24 (.agg #[.slice (some ad) nn cN, .int .i64 en, .int .i64 top]) (by as_aux_lemma => kernel_rfl) (by as_aux_lemma => kernel_rfl) (by as_aux_lemma => kernel_rfl) (fun _ _ _ _ _ h => h) (fun W hS => by have z0 := hS.p.pl.cell 0; have z1 := hS.p.pl.cell 1; have z2 := hS.p.pl.cell 2; simp at z0 z1 z2; clear hS hHeld; unfold cEv opC; as_aux_lemma => first | (go_simp; done) | (go_simp <;> rfl)) hHeld ?_
  refine readyO [2] (by as_aux_lemma => kernel_rfl) (by simp) ?_
  refine callO 2 8 (.call { callee := .value (.func 17), args := #[.const (.agg #[.slice (some ad) nn cN, .int .i64 en, .int .i64 top]), .const (.int .i64 (k : Int))], argTypes := #[24, 3] }) 4 17 #[.agg #[.slice (some ad) nn cN, .int .i64 en, .int .i64 top], .int .i64 (k : Int)] (by as_aux_lemma => kernel_rfl) (by as_aux_lemma => kernel_rfl) (by unfold cEv opC; go_simp) ?_ AllReadyH.nil
  refine (there_any (nn := nn) (cN := cN) (en := en) (top := top) (HP.out.at_ hHeld.p.bel).nd HP.out.len (k : Int)).mono ?_
  rintro e w5 ⟨rfl, hb5⟩
  rw [HTh.out]
  refine ⟨_, rfl, (hHeld.step hb5), fun hHeld2 => ?_⟩
  clear hHeld
  have hHeld := hHeld2
  clear hHeld2
  have HB5 := hide (Below.step HBd.out hb5)
  clear hb5
  refine putsO [3, 4, 8] [8, 4, 3] [(14, .int .i64 (k : Int)), (10, .bool false), (9, .bool false)] 3 rfl [9, 10, 14] (by as_aux_lemma => kernel_rfl) (by as_aux_lemma => kernel_rfl) rfl (fun _ _ _ _ _ h => h) hHeld ?_
  refine takeO 5 11 (.load 3 (.const (.pointer (some ⟨b6, 0, none⟩)))) 3 (.int .i64 (lev : Int)) (by as_aux_lemma => kernel_rfl) (by as_aux_lemma => kernel_rfl) (by as_aux_lemma => kernel_rfl) (fun _ _ _ _ _ h => h) (fun W hS => by have z0 := hS.l.cell 0; simp at z0; clear hS hHeld; unfold cEv opC; as_aux_lemma => first | (go_simp; done) | (go_simp <;> rfl)) hHeld ?_
  refine takeO 6 12 (.fieldAddr 24 (.const (.pointer (some ⟨b4, 0, none⟩))) 0) 0 (.pointer (some ⟨b4, 0, none⟩)) (by as_aux_lemma => kernel_rfl) (by as_aux_lemma => kernel_rfl) (by as_aux_lemma => kernel_rfl) (fun _ _ _ _ _ h => h) (fun W hS => by clear hS hHeld; unfold cEv opC; as_aux_lemma => first | (go_simp; done) | (go_simp <;> rfl)) hHeld ?_
  refine takeO 7 13 (.load 22 (.const (.pointer (some ⟨b4, 0, none⟩)))) 22 (.slice (some ad) nn cN) (by as_aux_lemma => kernel_rfl) (by as_aux_lemma => kernel_rfl) (by as_aux_lemma => kernel_rfl) (fun _ _ _ _ _ h => h) (fun W hS => by have z0 := hS.p.pl.cell 0; have z1 := hS.p.pl.cell 1; have z2 := hS.p.pl.cell 2; simp at z0 z1 z2; clear hS hHeld; unfold cEv opC; as_aux_lemma => first | (go_simp; done) | (go_simp <;> rfl)) hHeld ?_
  refine takeO 9 15 (.indexAddr 22 (.const (.slice (some ad) nn cN)) (.const (.int .i64 (k : Int)))) 0 (.pointer (some (ad.add (k * 7)))) (by as_aux_lemma => kernel_rfl) (by as_aux_lemma => kernel_rfl) (by as_aux_lemma => kernel_rfl) (fun _ _ _ _ _ h => h) (fun W hS => by have m0 : (0 : Int) ≤ k := (by omega); have m1 : (k : Int) < nn := (by have := Hkn.out; omega); clear hS hHeld; unfold cEv opC; as_aux_lemma => first | (go_simp; done) | (go_simp <;> rfl)) hHeld ?_
  refine takeO 10 16 (.fieldAddr 53 (.const (.pointer (some (ad.add (k * 7))))) 2) 0 (.pointer (some ⟨(ad.add (k * 7)).block, (ad.add (k * 7)).off + 4, none⟩)) (by as_aux_lemma => kernel_rfl) (by as_aux_lemma => kernel_rfl) (by as_aux_lemma => kernel_rfl) (fun _ _ _ _ _ h => h) (fun W hS => by clear hS hHeld; unfold cEv opC; as_aux_lemma => first | (go_simp; done) | (go_simp <;> rfl)) hHeld ?_
  refine takeO 11 17 (.load 51 (.const (.pointer (some ⟨(ad.add (k * 7)).block, (ad.add (k * 7)).off + 4, none⟩)))) 51 (.slice L ls.length cL) (by as_aux_lemma => kernel_rfl) (by as_aux_lemma => kernel_rfl) (by as_aux_lemma => kernel_rfl) (fun _ _ _ _ _ h => h) (fun W hS => by have z0 := (hS.p.bel.cell (p := ⟨(ad.add (k * 7)).block, (ad.add (k * 7)).off + 4, none⟩) HBn.out).trans HC4.out; clear hS hHeld; unfold cEv opC; as_aux_lemma => first | (go_simp; done) | (go_simp <;> rfl)) hHeld ?_
  refine takeO 12 18 (.call { callee := .builtin .len, args := #[.const (.slice L ls.length cL)], argTypes := #[51] }) 3 (.int .i64 (ls.length : Int)) (by as_aux_lemma => kernel_rfl) (by as_aux_lemma => kernel_rfl) (by as_aux_lemma => kernel_rfl) (fun _ _ _ _ _ h => h) (fun W hS => by clear hS hHeld; unfold cEv opC; as_aux_lemma => first | (go_simp; done) | (go_simp <;> rfl)) hHeld ?_
  refine takeO 13 19 (.binOp .geq 3 (.const (.int .i64 (lev : Int))) (.const (.int .i64 (ls.length : Int))) 3) 4 (.bool true) (by as_aux_lemma => kernel_rfl) (by as_aux_lemma => kernel_rfl) (by as_aux_lemma => kernel_rfl) (fun _ _ _ _ _ h => h) (fun W hS => by have e1 := He1.out; have e2 : ls.length ≤ lev := of_decide_eq_true He2.out; clear hS hHeld; unfold cEv opC; as_aux_lemma => first | (go_simp; done) | (go_simp <;> rfl)) hHeld ?_
  refine putsO [14, 15, 16, 18, 22, 25, 17, 19, 20, 21, 23, 24, 26, 27, 28, 29] [29, 28, 27, 26, 24, 23, 21, 20, 19, 17, 25, 22, 18, 16, 15, 14] [(5, .bool true), (34, .bool true), (33, undef), (32, undef), (30, undef), (29, undef), (27, undef), (26, undef), (25, undef), (23, undef), (31, undef), (28, undef), (24, undef), (22, undef), (21, .bool true), (20, .bool true)] 16 rfl [20, 21, 22, 24, 28, 31, 23, 25, 26, 27, 29, 30, 32, 33, 34, 5] (by as_aux_lemma => kernel_rfl) (by as_aux_lemma => kernel_rfl) rfl (fun _ _ _ _ _ h => h) hHeld ?_
  refine doneO [(5, .bool true), (0, .agg #[.slice (some ad) nn cN, .int .i64 en, .int .i64 top]), (0, .int .i64 (k : Int)), (0, .bool true), (0, .bool false), (0, .bool false), (0, .int .i64 (lev : Int)), (0, .pointer (some ⟨b4, 0, none⟩)), (0, .slice (some ad) nn cN), (0, .int .i64 (k : Int)), (0, .pointer (some (ad.add (k * 7)))), (0, .pointer (some ⟨(ad.add (k * 7)).block, (ad.add (k * 7)).off + 4, none⟩)), (0, .slice L ls.length cL), (0, .int .i64 (ls.length : Int)), (0, .bool true), (0, .bool true), (0, .bool true), (0, undef), (0, undef), (0, undef), (0, undef), (0, undef), (0, undef), (0, undef), (0, undef), (0, undef), (0, undef), (0, undef), (0, undef), (0, .bool true)] (by as_aux_lemma => kernel_rfl) (by as_aux_lemma => kernel_rfl) ?_
  simp only [fillG]
  have HBe := hide HB5.out
  clear hHeld
  go_wp2
  go_ret
  exact ⟨rfl, HBe.out⟩
set_option maxHeartbeats 4000000 in
set_option maxRecDepth 100000 in
theorem list1_look {b4 b5 b6 k : Nat} {slot : Int} {lev : Nat} {W : World} {ad : Addr} {ls : List (List Int)} {adL : Addr} {cL : Nat} (hp : PlN w (some ad) nn ns) (hl : LsW w b4 #[.slice (some ad) nn cN, .int .i64 en, .int .i64 top] b5 b6 slot (lev : Int) W) (hth : thereF ns (k : Int) = true) (hkn : k < nn) (hbn : (ad.add (k * 7)).block < w.heap.size) (hc4 : w.cell? ⟨(ad.add (k * 7)).block, (ad.add (k * 7)).off + 4, none⟩ = some (.slice (some adL) ls.length cL)) {li : List Int} {Li : Option Addr} {cLi : Nat} (hlev : lev < ls.length) (hbl : (adL.add lev).block < w.heap.size) (hcl : w.cell? (adL.add lev) = some (.slice Li li.length cLi)) (hc1 : li.length ≤ cLi) (hc2 : cLi ≤ 9223372036854775807) (hrl : Rd (Sh.int .i64) w w.heap.size Li li) : Calls Tryz.prog 36 #[.int .i64 (k : Int), .pointer (some ⟨b4, 0, none⟩), .pointer (some ⟨b6, 0, none⟩), .pointer (some ⟨b5, 0, none⟩)] W fun e w' => e = .returned (.bool (!decide (slot ∈ li))) ∧ Below W.heap.size W w' := by
  have HP := hide hp
  have HL := hide hl
  have HTh := hide hth
  clear hp hl hth
  have Hkn := hide hkn
  have HBn := hide hbn
  have HC4 := hide hc4
  clear hkn hbn hc4
  have He1 := hide (show decide ((ls.length : Int) ≤ (lev : Int)) = false from decide_eq_false (by omega))
  have He2 := hide (show decide (ls.length ≤ lev) = false from decide_eq_false (by omega))
  have He3 := hide (show decide (lev < ls.length) = true from decide_eq_true hlev)
  have HBl := hide hbl
  have HCl := hide hcl
  have HC1 := hide hc1
  have HC2 := hide hc2
  have HRl := hide hrl
  clear hlev hbl hcl hc1 hc2 hrl
  go_enter Tryz.func36, Tryz.ntmps36
  go_upto_region 1 with fail
  refine startO (S := (fun W => LsW w b4 #[.slice (some ad) nn cN, .int .i64 en, .int .i64 top] b5 b6 slot (lev : Int) W)) 30 (by as_aux_lemma => kernel_rfl) (by as_aux_lemma => kernel_rfl) (HL.out.step (Below.refl _ _).drew) (fun hHeld => ?_)
  have HBd := hide ((Below.refl W.heap.size W).drew)
  clear HL
  generalize hWd : World.drew _ = Wd at *
  clear hWd
  refine putsO [1] [1] [(7, .int .i64 (k : Int))] 1 rfl [7] (by as_aux_lemma => kernel_rfl) (by as_aux_lemma => kernel_rfl) rfl (fun _ _ _ _ _ h => h) hHeld ?_
  refine takeO 0 6 (.load 24 (.const (.pointer (some ⟨b4, 0, none⟩)))) 24 (.agg #[.slice (some ad) nn cN, .int .i64 en, .int .i64 top]) (by as_aux_lemma => kernel_rfl) (by as_aux_lemma => kernel_rfl) (by as_aux_lemma => kernel_rfl) (fun _ _ _ _ _ h => h) (fun W hS => by have z0 := hS.p.pl.cell 0; have z1 := hS.p.pl.cell 1; have z2 := hS.p.pl.cell 2; simp at z0 z1 z2; clear hS hHeld; unfold cEv opC; as_aux_lemma => first | (go_simp; done) | (go_simp <;> rfl)) hHeld ?_
  refine readyO [2] (by as_aux_lemma => kernel_rfl) (by simp) ?_
  refine callO 2 8 (.call { callee := .value (.func 17), args := #[.const (.agg #[.slice (some ad) nn cN, .int .i64 en, .int .i64 top]), .const (.int .i64 (k : Int))], argTypes := #[24, 3] }) 4 17 #[.agg #[.slice (some ad) nn cN, .int .i64 en, .int .i64 top], .int .i64 (k : Int)] (by as_aux_lemma => kernel_rfl) (by as_aux_lemma => kernel_rfl) (by unfold cEv opC; go_simp) ?_ AllReadyH.nil
  refine (there_any (nn := nn) (cN := cN) (en := en) (top := top) (HP.out.at_ hHeld.p.bel).nd HP.out.len (k : Int)).mono ?_
  rintro e w5 ⟨rfl, hb5⟩
  rw [HTh.out]
  refine ⟨_, rfl, (hHeld.step hb5), fun hHeld2 => ?_⟩
  clear hHeld
  have hHeld := hHeld2
  clear hHeld2
  have HB5 := hide (Below.step HBd.out hb5)
  clear hb5
  refine putsO [3, 4, 8] [8, 4, 3] [(14, .int .i64 (k : Int)), (10, .bool false), (9, .bool false)] 3 rfl [9, 10, 14] (by as_aux_lemma => kernel_rfl) (by as_aux_lemma => kernel_rfl) rfl (fun _ _ _ _ _ h => h) hHeld ?_
  refine takeO 5 11 (.load 3 (.const (.pointer (some ⟨b6, 0, none⟩)))) 3 (.int .i64 (lev : Int)) (by as_aux_lemma => kernel_rfl) (by as_aux_lemma => kernel_rfl) (by as_aux_lemma => kernel_rfl) (fun _ _ _ _ _ h => h) (fun W hS => by have z0 := hS.l.cell 0; simp at z0; clear hS hHeld; unfold cEv opC; as_aux_lemma => first | (go_simp; done) | (go_simp <;> rfl)) hHeld ?_
  refine takeO 6 12 (.fieldAddr 24 (.const (.pointer (some ⟨b4, 0, none⟩))) 0) 0 (.pointer (some ⟨b4, 0, none⟩)) (by as_aux_lemma => kernel_rfl) (by as_aux_lemma => kernel_rfl) (by as_aux_lemma => kernel_rfl) (fun _ _ _ _ _ h => h) (fun W hS => by clear hS hHeld; unfold cEv opC; as_aux_lemma => first | (go_simp; done) | (go_simp <;> rfl)) hHeld ?_
  refine takeO 7 13 (.load 22 (.const (.pointer (some ⟨b4, 0, none⟩)))) 22 (.slice (some ad) nn cN) (by as_aux_lemma => kernel_rfl) (by as_aux_lemma => kernel_rfl) (by as_aux_lemma => kernel_rfl) (fun _ _ _ _ _ h => h) (fun W hS => by have z0 := hS.p.pl.cell 0; have z1 := hS.p.pl.cell 1; have z2 := hS.p.pl.cell 2; simp at z0 z1 z2; clear hS hHeld; unfold cEv opC; as_aux_lemma => first | (go_simp; done) | (go_simp <;> rfl)) hHeld ?_
  refine takeO 9 15 (.indexAddr 22 (.const (.slice (some ad) nn cN)) (.const (.int .i64 (k : Int)))) 0 (.pointer (some (ad.add (k * 7)))) (by as_aux_lemma => kernel_rfl) (by as_aux_lemma => kernel_rfl) (by as_aux_lemma => kernel_rfl) (fun _ _ _ _ _ h => h) (fun W hS => by have m0 : (0 : Int) ≤ k := (by omega); have m1 : (k : Int) < nn := (by have := Hkn.out; omega); clear hS hHeld; unfold cEv opC; as_aux_lemma => first | (go_simp; done) | (go_simp <;> rfl)) hHeld ?_
  refine takeO 10 16 (.fieldAddr 53 (.const (.pointer (some (ad.add (k * 7))))) 2) 0 (.pointer (some ⟨(ad.add (k * 7)).block, (ad.add (k * 7)).off + 4, none⟩)) (by as_aux_lemma => kernel_rfl) (by as_aux_lemma => kernel_rfl) (by as_aux_lemma => kernel_rfl) (fun _ _ _ _ _ h => h) (fun W hS => by clear hS hHeld; unfold cEv opC; as_aux_lemma => first | (go_simp; done) | (go_simp <;> rfl)) hHeld ?_
  refine takeO 11 17 (.load 51 (.const (.pointer (some ⟨(ad.add (k * 7)).block, (ad.add (k * 7)).off + 4, none⟩)))) 51 (.slice (some adL) ls.length cL) (by as_aux_lemma => kernel_rfl) (by as_aux_lemma => kernel_rfl) (by as_aux_lemma => kernel_rfl) (fun _ _ _ _ _ h => h) (fun W hS => by have z0 := (hS.p.bel.cell (p := ⟨(ad.add (k * 7)).block, (ad.add (k * 7)).off + 4, none⟩) HBn.out).trans HC4.out; clear hS hHeld; unfold cEv opC; as_aux_lemma => first | (go_simp; done) | (go_simp <;> rfl)) hHeld ?_
  refine takeO 12 18 (.call { callee := .builtin .len, args := #[.const (.slice (some adL) ls.length cL)], argTypes := #[51] }) 3 (.int .i64 (ls.length : Int)) (by as_aux_lemma => kernel_rfl) (by as_aux_lemma => kernel_rfl) (by as_aux_lemma => kernel_rfl) (fun _ _ _ _ _ h => h) (fun W hS => by clear hS hHeld; unfold cEv opC; as_aux_lemma => first | (go_simp; done) | (go_simp <;> rfl)) hHeld ?_
  refine takeO 13 19 (.binOp .geq 3 (.const (.int .i64 (lev : Int))) (.const (.int .i64 (ls.length : Int))) 3) 4 (.bool false) (by as_aux_lemma => kernel_rfl) (by as_aux_lemma => kernel_rfl) (by as_aux_lemma => kernel_rfl) (fun _ _ _ _ _ h => h) (fun W hS => by have e1 := He1.out; have e2 : ¬ ls.length ≤ lev := of_decide_eq_false He2.out; clear hS hHeld; unfold cEv opC; as_aux_lemma => first | (go_simp; done) | (go_simp <;> rfl)) hHeld ?_
  refine putsO [14, 15, 18] [18, 15, 14] [(24, .int .i64 (k : Int)), (21, .bool false), (20, .bool false)] 3 rfl [20, 21, 24] (by as_aux_lemma => kernel_rfl) (by as_aux_lemma => kernel_rfl) rfl (fun _ _ _ _ _ h => h) hHeld ?_
  refine takeO 16 22 (.fieldAddr 24 (.const (.pointer (some ⟨b4, 0, none⟩))) 0) 0 (.pointer (some ⟨b4, 0, none⟩)) (by as_aux_lemma => kernel_rfl) (by as_aux_lemma => kernel_rfl) (by as_aux_lemma => kernel_rfl) (fun _ _ _ _ _ h => h) (fun W hS => by clear hS hHeld; unfold cEv opC; as_aux_lemma => first | (go_simp; done) | (go_simp <;> rfl)) hHeld ?_
  refine takeO 22 28 (.load 3 (.const (.pointer (some ⟨b6, 0, none⟩)))) 3 (.int .i64 (lev : Int)) (by as_aux_lemma => kernel_rfl) (by as_aux_lemma => kernel_rfl) (by as_aux_lemma => kernel_rfl) (fun _ _ _ _ _ h => h) (fun W hS => by have z0 := hS.l.cell 0; simp at z0; clear hS hHeld; unfold cEv opC; as_aux_lemma => first | (go_simp; done) | (go_simp <;> rfl)) hHeld ?_
  refine takeO 25 31 (.load 3 (.const (.pointer (some ⟨b5, 0, none⟩)))) 3 (.int .i64 slot) (by as_aux_lemma => kernel_rfl) (by as_aux_lemma => kernel_rfl) (by as_aux_lemma => kernel_rfl) (fun _ _ _ _ _ h => h) (fun W hS => by have z0 := hS.s.cell 0; simp at z0; clear hS hHeld; unfold cEv opC; as_aux_lemma => first | (go_simp; done) | (go_simp <;> rfl)) hHeld ?_
  refine takeO 17 23 (.load 22 (.const (.pointer (some ⟨b4, 0, none⟩)))) 22 (.slice (some ad) nn cN) (by as_aux_lemma => kernel_rfl) (by as_aux_lemma => kernel_rfl) (by as_aux_lemma => kernel_rfl) (fun _ _ _ _ _ h => h) (fun W hS => by have z0 := hS.p.pl.cell 0; have z1 := hS.p.pl.cell 1; have z2 := hS.p.pl.cell 2; simp at z0 z1 z2; clear hS hHeld; unfold cEv opC; as_aux_lemma => first | (go_simp; done) | (go_simp <;> rfl)) hHeld ?_
  refine takeO 19 25 (.indexAddr 22 (.const (.slice (some ad) nn cN)) (.const (.int .i64 (k : Int)))) 0 (.pointer (some (ad.add (k * 7)))) (by as_aux_lemma => kernel_rfl) (by as_aux_lemma => kernel_rfl) (by as_aux_lemma => kernel_rfl) (fun _ _ _ _ _ h => h) (fun W hS => by have m0 : (0 : Int) ≤ k := (by omega); have m1 : (k : Int) < nn := (by have := Hkn.out; omega); clear hS hHeld; unfold cEv opC; as_aux_lemma => first | (go_simp; done) | (go_simp <;> rfl)) hHeld ?_
  refine takeO 20 26 (.fieldAddr 53 (.const (.pointer (some (ad.add (k * 7))))) 2) 0 (.pointer (some ⟨(ad.add (k * 7)).block, (ad.add (k * 7)).off + 4, none⟩)) (by as_aux_lemma => kernel_rfl) (by as_aux_lemma => kernel_rfl) (by as_aux_lemma => kernel_rfl) (fun _ _ _ _ _ h => h) (fun W hS => by clear hS hHeld; unfold cEv opC; as_aux_lemma => first | (go_simp; done) | (go_simp <;> rfl)) hHeld ?_
  refine takeO 21 27 (.load 51 (.const (.pointer (some ⟨(ad.add (k * 7)).block, (ad.add (k * 7)).off + 4, none⟩)))) 51 (.slice (some adL) ls.length cL) (by as_aux_lemma => kernel_rfl) (by as_aux_lemma => kernel_rfl) (by as_aux_lemma => kernel_rfl) (fun _ _ _ _ _ h => h) (fun W hS => by have z0 := (hS.p.bel.cell (p := ⟨(ad.add (k * 7)).block, (ad.add (k * 7)).off + 4, none⟩) HBn.out).trans HC4.out; clear hS hHeld; unfold cEv opC; as_aux_lemma => first | (go_simp; done) | (go_simp <;> rfl)) hHeld ?_
  refine takeO 23 29 (.indexAddr 51 (.const (.slice (some adL) ls.length cL)) (.const (.int .i64 (lev : Int)))) 0 (.pointer (some (adL.add lev))) (by as_aux_lemma => kernel_rfl) (by as_aux_lemma => kernel_rfl) (by as_aux_lemma => kernel_rfl) (fun _ _ _ _ _ h => h) (fun W hS => by have m0 : (0 : Int) ≤ lev := (by omega); have m1 : (lev : Int) < ls.length := (by have := of_decide_eq_true He3.out; omega); clear hS hHeld; unfold cEv opC; as_aux_lemma => first | (go_simp; done) | (go_simp <;> rfl)) hHeld ?_
  refine takeO 24 30 (.load 47 (.const (.pointer (some (adL.add lev))))) 47 (.slice Li li.length cLi) (by as_aux_lemma => kernel_rfl) (by as_aux_lemma => kernel_rfl) (by as_aux_lemma => kernel_rfl) (fun _ _ _ _ _ h => h) (fun W hS => by have z0 := (hS.p.bel.cell (p := adL.add lev) HBl.out).trans HCl.out; clear hS hHeld; unfold cEv opC; as_aux_lemma => first | (go_simp; done) | (go_simp <;> rfl)) hHeld ?_
  refine readyO [26] (by as_aux_lemma => kernel_rfl) (by simp) ?_
  refine callO 26 32 (.call { callee := .value (.func 37), args := #[.const (.slice Li li.length cLi), .const (.int .i64 slot)], argTypes := #[47, 3] }) 4 37 #[.slice Li li.length cLi, .int .i64 slot] (by as_aux_lemma => kernel_rfl) (by as_aux_lemma => kernel_rfl) (by unfold cEv opC; go_simp) ?_ AllReadyH.nil
  refine (eHas_any Li li.length cLi li slot _ (HRl.out.at_world hHeld.p.bel) rfl HC1.out HC2.out).mono ?_
  rintro e w6 ⟨rfl, rfl⟩
  refine ⟨_, rfl, hHeld, fun hHeld2 => ?_⟩
  clear hHeld
  have hHeld := hHeld2
  clear hHeld2
  refine putsO [27, 28, 29] [29, 28, 27] [(5, .bool (!(decide (slot ∈ li)))), (34, .bool (!(decide (slot ∈ li)))), (33, .bool (!(decide (slot ∈ li))))] 3 rfl [33, 34, 5] (by as_aux_lemma => kernel_rfl) (by as_aux_lemma => kernel_rfl) rfl (fun _ _ _ _ _ h => h) hHeld ?_
  refine doneO [(5, .bool (!(decide (slot ∈ li)))), (0, .agg #[.slice (some ad) nn cN, .int .i64 en, .int .i64 top]), (0, .int .i64 (k : Int)), (0, .bool true), (0, .bool false), (0, .bool false), (0, .int .i64 (lev : Int)), (0, .pointer (some ⟨b4, 0, none⟩)), (0, .slice (some ad) nn cN), (0, .int .i64 (k : Int)), (0, .pointer (some (ad.add (k * 7)))), (0, .pointer (some ⟨(ad.add (k * 7)).block, (ad.add (k * 7)).off + 4, none⟩)), (0, .slice (some adL) ls.length cL), (0, .int .i64 (ls.length : Int)), (0, .bool false), (0, .bool false), (0, .bool false), (0, .pointer (some ⟨b4, 0, none⟩)), (0, .slice (some ad) nn cN), (0, .int .i64 (k : Int)), (0, .pointer (some (ad.add (k * 7)))), (0, .pointer (some ⟨(ad.add (k * 7)).block, (ad.add (k * 7)).off + 4, none⟩)), (0, .slice (some adL) ls.length cL), (0, .int .i64 (lev : Int)), (0, .pointer (some (adL.add lev))), (0, .slice Li li.length cLi), (0, .int .i64 slot), (0, .bool (decide (slot ∈ li))), (0, .bool (!(decide (slot ∈ li)))), (0, .bool (!(decide (slot ∈ li))))] (by as_aux_lemma => kernel_rfl) (by as_aux_lemma => kernel_rfl) ?_
  simp only [fillG]
  have HBe := hide HB5.out
  clear hHeld
  go_wp2
  go_ret
  exact ⟨rfl, HBe.out⟩
end
end Go.Proofs.YtgiplahhalgbdaaGreat

/-
  The package plane: list. Conditions: the slice of nodes reads as a list, its numbers are small.
-/
namespace Go.Proofs.YtgiplahhalgbdaaGreat
set_option linter.unusedSimpArgs false
set_option linter.unusedVariables false
open Go.RowKit

theorem LsW.cells {w W : World} {b4 b5 b6 : Nat} {N : Option Addr} {nn cN : Nat} {en top slot lev : Int} (h : LsW w b4 #[.slice N nn cN, .int .i64 en, .int .i64 top] b5 b6 slot lev W) : W.cell? ⟨b4, 0, none⟩ = some (.slice N nn cN) ∧ W.cell? ⟨b5, 0, none⟩ = some (.int .i64 slot) ∧ W.cell? ⟨b6, 0, none⟩ = some (.int .i64 lev) := by
  have s0 := h.s.cell 0
  have l0 := h.l.cell 0
  simp at s0 l0
  exact ⟨h.p.cells.1, s0, l0⟩
section
variable {w : World} {N : Option Addr} {nn cN : Nat} {ns : List NodeP} {en top : Int}
theorem list1_any {b4 b5 b6 : Nat} {slot : Int} {lev : Nat} {W : World} (hp : PlN w N nn ns) (hl : LsW w b4 #[.slice N nn cN, .int .i64 en, .int .i64 top] b5 b6 slot (lev : Int) W) (x : Int) : Calls Tryz.prog 36 #[.int .i64 x, .pointer (some ⟨b4, 0, none⟩), .pointer (some ⟨b6, 0, none⟩), .pointer (some ⟨b5, 0, none⟩)] W fun e w' => e = .returned (.bool (!listedF ns x lev slot)) ∧ Below W.heap.size W w' := by
  rcases ht : thereF ns x with _ | _
  · rw [show listedF ns x lev slot = false by unfold listedF; rw [ht]; rfl]
    exact list1_none hp hl ht
  · have hrg := there_lt ht
    obtain ⟨k, rfl⟩ : ∃ k : Nat, x = k := ⟨x.toNat, by omega⟩
    obtain ⟨ad, x, V, cV, L, cL, hA, hbl, hkx, hc⟩ := hp.nd.node (k := k) (by omega)
    subst hA
    have hnk : (nodeF ns (k : Int)).2.2.1 = x.2.2.1 := by rw [nodeF_at hkx]
    have hb2 : (ad.add (k * 7)).block < w.heap.size := by rw [block_of_add]; exact hbl
    have hkn : k < nn := by have := hp.len; omega
    by_cases hlev : lev < x.2.2.1.length
    · obtain ⟨adL, li, Li, cLi, hAL, hbL, hli, q0, q1, q2, hrl⟩ := RdR.slc hc.l (k := lev) hlev
      subst hAL
      rw [show listedF ns (k : Int) lev slot = decide (slot ∈ li) by unfold listedF; rw [ht, hnk, hli]; rfl]
      exact list1_look hp hl ht hkn hb2 hc.c4 hlev (by rw [block_of_add]; exact hbL) q0 q1 q2 hrl
    · rw [show listedF ns (k : Int) lev slot = false by unfold listedF; rw [ht, hnk, List.getElem?_eq_none_iff.2 (by omega)]; rfl]
      exact list1_short hp hl ht hkn hb2 hc.c4 (by omega)
set_option maxHeartbeats 8000000 in
set_option maxRecDepth 100000 in
theorem list_any (hp : PlN w N nn ns) {k lev : Nat} {x : NodeP} (hkx : ns[k]? = some x) (hlev : lev < x.2.2.1.length) (h10 : lev < 10) (links : Int) : Calls Tryz.prog 16 #[.agg #[.slice N nn cN, .int .i64 en, .int .i64 top], .int .i64 (k : Int), .int .i64 (lev : Int), .int .i64 links] w fun e w' => (∃ b : Bool, e = .returned (.bool b) ∧ (b = true ↔ listP ns (k : Int) lev links)) ∧ Below w.heap.size w w' := by
  obtain ⟨ad, x2, V, cV, L, cL, hA, hbl, hkx2, hc⟩ := hp.nd.node (k := k) (List.getElem?_eq_some_iff.1 hkx).1
  obtain rfl : x = x2 := by rw [hkx] at hkx2; injection hkx2
  subst hA
  obtain ⟨adL, li, Li, cLi, hAL, hbL, hli, q0, q1, q2, hrl⟩ := RdR.slc hc.l (k := lev) hlev
  subst hAL
  have HP := hide hp
  have h20 := hp.n20
  have Hl := hide hp.len
  have hk20 : k < 20 := by have := (List.getElem?_eq_some_iff.1 hkx).1; have := hp.len; omega
  have HNd := hide (show ∀ (b : Bool), (b = true ↔ (rightE li k links lev ((nn : Int) - 1) ∧ ∀ y ∈ li, listedF ns y lev k = true)) → (b = true ↔ listP ns (k : Int) lev links) from fun b hb => hb.trans (by
    unfold listP
    rw [nodeF_at hkx, hli, hp.len]
    exact ⟨fun h => ⟨li, rfl, h⟩, fun ⟨l, e, h⟩ => by injection e with e; subst e; exact h⟩))
  have HKn := hide (show k < nn by have := (List.getElem?_eq_some_iff.1 hkx).1; have := hp.len; omega)
  have HBn := hide (show (ad.add (k * 7)).block < w.heap.size by rw [block_of_add]; exact hbl)
  have HC4 := hide hc.c4
  have HBl := hide (show (adL.add lev).block < w.heap.size by rw [block_of_add]; exact hbL)
  have HCl := hide q0
  have HC1 := hide q1
  have HC2 := hide q2
  have HRl := hide (show Rd (Sh.int .i64) w w.heap.size Li li from hrl)
  have HLev := hide hlev
  have HI := hide (show I64 li from fun y hy => wf_rng ((hp.ok x (List.mem_of_getElem? hkx)).l li (List.mem_of_getElem? hli) y hy))
  have h80 : li.length ≤ 1048576 := (hp.sm x (List.mem_of_getElem? hkx)).2.2 li (List.mem_of_getElem? hli)
  obtain ⟨⟨id, vs, tg⟩, lv, ls, nx, pv⟩ := x
  simp only at HC4 HLev
  clear hp hkx hkx2 hc hli q0 q1 q2 hrl hlev hbl hbL
  have HL0 := hide (show LsW w w.heap.size #[.slice (some ad) nn cN, .int .i64 en, .int .i64 top] (w.heap.size + 1) (w.heap.size + 1 + 1) (k : Int) (lev : Int) (((w.alloc (.cells #[.slice (some ad) nn cN, .int .i64 en, .int .i64 top] 24)).alloc (.cells #[.int .i64 (k : Int)] 3)).alloc (.cells #[.int .i64 (lev : Int)] 3)) from by
    refine ⟨((PlB.start w #[.slice (some ad) nn cN, .int .i64 en, .int .i64 top]).step (below1 _ _)).step (below1 _ _), ?_, ?_⟩
    · have h := (Blk.new (w.alloc (.cells #[.slice (some ad) nn cN, .int .i64 en, .int .i64 top] 24)) 3 #[.int .i64 (k : Int)]).alloc (.cells #[.int .i64 (lev : Int)] 3)
      simpa using h
    · have h := Blk.new ((w.alloc (.cells #[.slice (some ad) nn cN, .int .i64 en, .int .i64 top] 24)).alloc (.cells #[.int .i64 (k : Int)] 3)) 3 #[.int .i64 (lev : Int)]
      simpa using h)
  go_enter Tryz.func16, Tryz.ntmps16
  go_upto_region 1 with fail
  generalize World.alloc (World.alloc (World.alloc w _) _) _ = w1 at *
  obtain ⟨b5, hb5⟩ : ∃ b, w.heap.size + 1 = b := ⟨_, rfl⟩
  obtain ⟨b6, hb6⟩ : ∃ b, w.heap.size + 1 + 1 = b := ⟨_, rfl⟩
  rw [hb6, hb5] at HL0
  rw [hb6, hb5]
  clear hb5 hb6
  obtain ⟨b4, hb4⟩ : ∃ b, w.heap.size = b := ⟨_, rfl⟩
  have HL := hide (show LsW w b4 #[.slice (some ad) nn cN, .int .i64 en, .int .i64 top] b5 b6 (k : Int) (lev : Int) w1 from hb4 ▸ HL0.out)
  clear HL0
  rw [hb4]
  clear hb4
  refine startO (S := (fun W => LsW w b4 #[.slice (some ad) nn cN, .int .i64 en, .int .i64 top] b5 b6 (k : Int) (lev : Int) W)) 10 (by as_aux_lemma => kernel_rfl) (by as_aux_lemma => kernel_rfl) (HL.out.step (Below.refl _ _).drew) (fun hHeld => ?_)
  clear HL
  generalize hWd : World.drew _ = Wd at *
  clear hWd
  refine takeO 0 10 (.fieldAddr 24 (.const (.pointer (some ⟨b4, 0, none⟩))) 0) 0 (.pointer (some ⟨b4, 0, none⟩)) (by as_aux_lemma => kernel_rfl) (by as_aux_lemma => kernel_rfl) (by as_aux_lemma => kernel_rfl) (fun _ _ _ _ _ h => h) (fun W hS => by clear hS hHeld; unfold cEv opC; as_aux_lemma => first | (go_simp; done) | (go_simp <;> rfl)) hHeld ?_
  refine takeO 2 12 (.load 3 (.const (.pointer (some ⟨b5, 0, none⟩)))) 3 (.int .i64 (k : Int)) (by as_aux_lemma => kernel_rfl) (by as_aux_lemma => kernel_rfl) (by as_aux_lemma => kernel_rfl) (fun _ _ _ _ _ h => h) (fun W hS => by have z0 := hS.cells.2.1; clear hS hHeld; unfold cEv opC; as_aux_lemma => first | (go_simp; done) | (go_simp <;> rfl)) hHeld ?_
  refine takeO 6 16 (.load 3 (.const (.pointer (some ⟨b6, 0, none⟩)))) 3 (.int .i64 (lev : Int)) (by as_aux_lemma => kernel_rfl) (by as_aux_lemma => kernel_rfl) (by as_aux_lemma => kernel_rfl) (fun _ _ _ _ _ h => h) (fun W hS => by have z0 := hS.cells.2.2; clear hS hHeld; unfold cEv opC; as_aux_lemma => first | (go_simp; done) | (go_simp <;> rfl)) hHeld ?_
  refine takeO 1 11 (.load 22 (.const (.pointer (some ⟨b4, 0, none⟩)))) 22 (.slice (some ad) nn cN) (by as_aux_lemma => kernel_rfl) (by as_aux_lemma => kernel_rfl) (by as_aux_lemma => kernel_rfl) (fun _ _ _ _ _ h => h) (fun W hS => by have z0 := hS.p.cells.1; clear hS hHeld; unfold cEv opC; as_aux_lemma => first | (go_simp; done) | (go_simp <;> rfl)) hHeld ?_
  refine takeO 3 13 (.indexAddr 22 (.const (.slice (some ad) nn cN)) (.const (.int .i64 (k : Int)))) 0 (.pointer (some (ad.add (k * 7)))) (by as_aux_lemma => kernel_rfl) (by as_aux_lemma => kernel_rfl) (by as_aux_lemma => kernel_rfl) (fun _ _ _ _ _ h => h) (fun W hS => by have m0 : (0 : Int) ≤ k := (by omega); have m1 : (k : Int) < nn := (by have := HKn.out; omega); clear hS hHeld; unfold cEv opC; as_aux_lemma => first | (go_simp; done) | (go_simp <;> rfl)) hHeld ?_
  refine takeO 4 14 (.fieldAddr 53 (.const (.pointer (some (ad.add (k * 7))))) 2) 0 (.pointer (some ⟨(ad.add (k * 7)).block, (ad.add (k * 7)).off + 4, none⟩)) (by as_aux_lemma => kernel_rfl) (by as_aux_lemma => kernel_rfl) (by as_aux_lemma => kernel_rfl) (fun _ _ _ _ _ h => h) (fun W hS => by clear hS hHeld; unfold cEv opC; as_aux_lemma => first | (go_simp; done) | (go_simp <;> rfl)) hHeld ?_
  refine takeO 5 15 (.load 51 (.const (.pointer (some ⟨(ad.add (k * 7)).block, (ad.add (k * 7)).off + 4, none⟩)))) 51 (.slice (some adL) ls.length cL) (by as_aux_lemma => kernel_rfl) (by as_aux_lemma => kernel_rfl) (by as_aux_lemma => kernel_rfl) (fun _ _ _ _ _ h => h) (fun W hS => by have z0 := (hS.p.bel.cell (p := ⟨(ad.add (k * 7)).block, (ad.add (k * 7)).off + 4, none⟩) HBn.out).trans HC4.out; clear hS hHeld; unfold cEv opC; as_aux_lemma => first | (go_simp; done) | (go_simp <;> rfl)) hHeld ?_
  refine takeO 7 17 (.indexAddr 51 (.const (.slice (some adL) ls.length cL)) (.const (.int .i64 (lev : Int)))) 0 (.pointer (some (adL.add lev))) (by as_aux_lemma => kernel_rfl) (by as_aux_lemma => kernel_rfl) (by as_aux_lemma => kernel_rfl) (fun _ _ _ _ _ h => h) (fun W hS => by have m0 : (0 : Int) ≤ lev := (by omega); have m1 : (lev : Int) < ls.length := (by have := HLev.out; omega); clear hS hHeld; unfold cEv opC; as_aux_lemma => first | (go_simp; done) | (go_simp <;> rfl)) hHeld ?_
  refine takeO 8 18 (.load 47 (.const (.pointer (some (adL.add lev))))) 47 (.slice Li li.length cLi) (by as_aux_lemma => kernel_rfl) (by as_aux_lemma => kernel_rfl) (by as_aux_lemma => kernel_rfl) (fun _ _ _ _ _ h => h) (fun W hS => by have z0 := (hS.p.bel.cell (p := adL.add lev) HBl.out).trans HCl.out; clear hS hHeld; unfold cEv opC; as_aux_lemma => first | (go_simp; done) | (go_simp <;> rfl)) hHeld ?_
  refine putsO [9] [9] [(9, .slice Li li.length cLi)] 1 rfl [9] (by as_aux_lemma => kernel_rfl) (by as_aux_lemma => kernel_rfl) rfl (fun _ _ _ _ _ h => h) hHeld ?_
  refine doneO [(9, .slice Li li.length cLi), (0, .pointer (some ⟨b4, 0, none⟩)), (0, .slice (some ad) nn cN), (0, .int .i64 (k : Int)), (0, .pointer (some (ad.add (k * 7)))), (0, .pointer (some ⟨(ad.add (k * 7)).block, (ad.add (k * 7)).off + 4, none⟩)), (0, .slice (some adL) ls.length cL), (0, .int .i64 (lev : Int)), (0, .pointer (some (adL.add lev))), (0, .slice Li li.length cLi)] (by as_aux_lemma => kernel_rfl) (by as_aux_lemma => kernel_rfl) ?_
  simp only [fillG]
  have HLd := hide hHeld
  clear hHeld
  obtain ⟨p0, s0, l0⟩ := HLd.out.cells
  by_cases hr : rightE li (k : Int) links (lev : Int) ((nn : Int) - 1)
  · have HR := hide (show decide (rightE li (k : Int) links (lev : Int) ((nn : Int) - 1)) = true from decide_eq_true hr)
    have HRt := hide hr
    clear hr
    have HCt := hide (fun (W : World) (hL : LsW w b4 #[.slice (some ad) nn cN, .int .i64 en, .int .i64 top] b5 b6 (k : Int) (lev : Int) W) => cont_list (w := W) (b4 := b4) (b5 := b5) (b6 := b6) (c := cLi) (A := Li) (n := li.length) (l := li) (fun x => !listedF ns x lev (k : Int)) (fun W2 x _ hb => list1_any HP.out (hL.step hb) x) (HRl.out.at_world hL.p.bel) rfl (by omega))
    go_wp2_with (first
      | (go_at_call 34; refine (eRight_any Li li.length cLi li (k : Int) links (lev : Int) ((nn : Int) - 1) _ (HRl.out.at_world HLd.out.p.bel) rfl HC1.out HC2.out HI.out).mono ?_; rintro e w4 ⟨rfl, hb⟩; rw [HR.out]; have HL4 := hide (HLd.out.step hb); clear hb)
      | (go_at_call 35; refine (HCt.out _ HL4.out).mono ?_; rintro e w5 ⟨rfl, hb⟩; have HL5 := hide (HL4.out.step hb); clear hb))
    go_ret
    refine ⟨⟨_, rfl, HNd.out _ ?_⟩, HL5.out.p.bel⟩
    rw [Bool.not_eq_true', ← Bool.not_eq_true, List.any_eq_true]
    constructor
    · intro h
      refine ⟨HRt.out, fun y hy => ?_⟩
      rcases e : listedF ns y lev (k : Int) with _ | _
      · exact absurd ⟨y, hy, by rw [e]; rfl⟩ h
      · rfl
    · rintro ⟨_, h⟩ ⟨y, hy, hn⟩
      rw [h y hy] at hn; cases hn
  · have HR := hide (show decide (rightE li (k : Int) links (lev : Int) ((nn : Int) - 1)) = false from decide_eq_false hr)
    have HRt := hide hr
    clear hr
    go_wp2_with (go_at_call 34; refine (eRight_any Li li.length cLi li (k : Int) links (lev : Int) ((nn : Int) - 1) _ (HRl.out.at_world HLd.out.p.bel) rfl HC1.out HC2.out HI.out).mono ?_; rintro e w4 ⟨rfl, hb⟩; rw [HR.out]; have HL4 := hide (HLd.out.step hb); clear hb)
    go_ret
    exact ⟨⟨false, rfl, HNd.out _ ⟨fun h => (by cases h), fun h => absurd h.1 HRt.out⟩⟩, HL4.out.p.bel⟩
end
end Go.Proofs.YtgiplahhalgbdaaGreat

/-
  The package plane: Check. Conditions: the slice of nodes reads as a list, its numbers are small.
-/
namespace Go.Proofs.YtgiplahhalgbdaaGreat
set_option linter.unusedSimpArgs false
set_option linter.unusedVariables false
open Go.RowKit

theorem intZeroU (u : World) : (zeroValue 3).run Tryz.prog u = .ok (Value.int .i64 0) u := by kernel_rfl
theorem MapA.atU {w : World} {b : Nat} {m : List (Int × Int)} (h : MapA .u64 (Value.int .i64) w b m) {x : Int} (hw : (Lit.int .u64 x).wf = true) :
    (Instr.lookup 46 (.map (some b)) (.int .u64 x) false).run Tryz.prog w = .ok (.int .i64 ((lookF m x).getD 0)) w :=
  h.look Tryz.underlying26 Tryz.underlying46 (d := 0) intZeroU hw
theorem MapA.setU {w : World} {b : Nat} {m : List (Int × Int)} (h : MapA .u64 (Value.int .i64) w b m) {x : Int} (hw : (Lit.int .u64 x).wf = true) (v : Int) : ∃ w' : World,
    (Instr.mapUpdate 46 (.map (some b)) (.int .u64 x) (.int .i64 v)).run Tryz.prog w = .ok () w' ∧ MapA .u64 (Value.int .i64) w' b (putF m x v) ∧ MapPut w w' b :=
  h.put Tryz.underlying26 Tryz.underlying46 hw v
def idF (ns : List NodeP) (s : Int) : Int := (nodeF ns s).1.1
/-- a node that is there is right -/
def nodeOk (ns : List NodeP) (links : Int) (s : Int) : Prop := 0 ≤ (nodeF ns s).2.1 ∧ (nodeF ns s).2.1 ≤ 7 ∧ ((nodeF ns s).2.2.1.length : Int) = (nodeF ns s).2.1 + 1 ∧ ∀ lev : Nat, lev < (nodeF ns s).2.2.1.length → listP ns s lev links
/-- a plane is right -/
structure CheckP (ns : List NodeP) (en top links : Int) : Prop where
  pos : 0 < ns.length
  rg : ringB ns
  nd : ∀ s ∈ liveF ns, nodeOk ns links s
  ids : ((liveF ns).map (idF ns)).Nodup
  en : (en = 0 ∧ top = 0) ∨ (thereF ns en = true ∧ 0 ≤ top ∧ top ≤ (nodeF ns en).2.1)
/-- while Check looks at nodes -/
structure CkW (w : World) (b1 : Nat) (cs : Array Value) (b : Nat) (ids : List Int) (g : Option Addr) (l : List Int) (W : World) : Prop where
  p : PlB w b1 cs W
  m : MapA .u64 (Value.int .i64) W b (ones ids)
  r : RdR (Sh.int .i64) W (fun d => d < W.heap.size ∧ d ≠ b) g l
  hb : w.heap.size ≤ b
theorem CkW.step {w W W' : World} {b1 b : Nat} {cs : Array Value} {ids : List Int} {g : Option Addr} {l : List Int} (h : CkW w b1 cs b ids g l W) (hb : Below W.heap.size W W') : CkW w b1 cs b ids g l W' :=
  ⟨h.p.step hb, h.m.block (hb.block b h.m.lt), (h.r.keepBlocks fun d hd => hb.block d hd.1).more fun d hd => ⟨Nat.lt_of_lt_of_le hd.1 hb.size, hd.2⟩, h.hb⟩
theorem CkW.put {w W W' : World} {b1 b : Nat} {cs : Array Value} {ids ids' : List Int} {g : Option Addr} {l : List Int} (h : CkW w b1 cs b ids g l W) (hp : MapPut W W' b) (hm : MapA .u64 (Value.int .i64) W' b (ones ids')) : CkW w b1 cs b ids' g l W' :=
  ⟨⟨hp.below h.p.bel h.hb, (hp.2.2.2.2 b1 (fun e => blk_ne_map h.p.pl h.m e)).trans h.p.pl⟩, hm, (h.r.keepBlocks fun d hd => hp.2.2.2.2 d hd.2).more fun d hd => ⟨by rw [hp.2.2.2.1]; exact hd.1, hd.2⟩, h.hb⟩
/-- behind a node's id being counted, it may be twice -/
structure CkX (w : World) (b1 : Nat) (cs : Array Value) (b : Nat) (id c : Int) (b8 : Nat) (ds : Array Value) (W : World) : Prop where
  p : PlB w b1 cs W
  q : Blk W b8 53 ds
  m : ∃ m, MapA .u64 (Value.int .i64) W b m ∧ lookF m id = some c
def GivesC (w : World) (p : Prop) (e : Ending) (w' : World) : Prop := (∃ r : Int, e = .returned (.int .i64 r) ∧ (r = 0 ↔ p) ∧ (r = 0 ∨ r = 7)) ∧ Below w.heap.size w w'
theorem GivesC.bad {w w' : World} {p : Prop} (h : ¬ p) (hb : Below w.heap.size w w') : GivesC w p (.returned (.int .i64 7)) w' := ⟨⟨7, rfl, ⟨fun e => (by omega), fun e => absurd e h⟩, .inr rfl⟩, hb⟩
theorem GivesC.good {w w' : World} {p : Prop} (h : p) (hb : Below w.heap.size w w') : GivesC w p (.returned (.int .i64 0)) w' := ⟨⟨0, rfl, ⟨fun _ => h, fun _ => rfl⟩, .inl rfl⟩, hb⟩
section
variable {w : World} {N : Option Addr} {nn cN : Nat} {ns : List NodeP} {en top : Int}
set_option maxHeartbeats 16000000 in
set_option maxRecDepth 100000 in
theorem check_any (hp : PlN w N nn ns) (links : Int) : Calls Tryz.prog 5 #[.agg #[.slice N nn cN, .int .i64 en, .int .i64 top], .int .i64 links] w (GivesC w (CheckP ns en top links)) := by
  have HP := hide hp
  have h20 := hp.n20
  have Hl := hide hp.len
  have HS := hide (PlB.start w #[.slice N nn cN, .int .i64 en, .int .i64 top])
  clear hp
  have hmm := @run_makeMap Tryz.prog
  go_enter Tryz.func5, Tryz.ntmps5
  go_upto_region 1 with fail
  generalize World.alloc w _ = w1 at *
  obtain ⟨b1, hb1⟩ : ∃ b, w.heap.size = b := ⟨_, rfl⟩
  rw [hb1] at HS
  rw [hb1]
  clear hb1
  obtain ⟨p0, p1, p2⟩ := HS.out.cells
  by_cases h0 : nn < 1
  · have e0 : decide ((nn : Int) < 1) = true := decide_eq_true (by omega)
    have HNo := hide (show ¬ CheckP ns en top links from fun h => by have := h.pos; have := Hl.out; omega)
    go_wp2
    go_ret
    exact GivesC.bad HNo.out HS.out.bel
  have e0 : decide ((nn : Int) < 1) = false := decide_eq_false (by omega)
  have e1 : decide (4097 < (nn : Int)) = false := decide_eq_false (by omega)
  have e2 : ¬ 4097 < nn := by omega
  by_cases hrg : ringB ns
  case neg =>
    have HNo := hide (show ¬ CheckP ns en top links from fun h => hrg h.rg)
    go_wp2_with (go_at_call 14; refine (ring_any (cN := cN) (en := en) (top := top) (HP.out.at_ HS.out.bel)).mono ?_; rintro e w2 ⟨⟨r, rfl, hr⟩, hb⟩; have HB2 := hide (HS.out.step hb); obtain rfl : r = false := (by (cases r with | false => rfl | true => exact absurd (hr.1 rfl) hrg)); clear hb hr)
    go_ret
    exact GivesC.bad HNo.out HB2.out.bel
  have HRg := hide hrg
  go_upto_region 4 with (go_at_call 14; refine (ring_any (cN := cN) (en := en) (top := top) (HP.out.at_ HS.out.bel)).mono ?_; rintro e w2 ⟨⟨r, rfl, hr⟩, hb⟩; have HB2 := hide (HS.out.step hb); obtain rfl : r = true := hr.2 HRg.out; clear hb hr p0 p1 p2)
  clear hrg
  have HM := hide (MapA.new (kd := .u64) (enc := Value.int .i64) (β := Int) w2)
  have HB := hide (HB2.out.step (below1 w2 (.map #[] 0)))
  have Hw2 := hide (show w.heap.size ≤ w2.heap.size from HB2.out.bel.size)
  generalize World.alloc w2 _ = w3 at *
  obtain ⟨b, hb⟩ : ∃ b, w2.heap.size = b := ⟨_, rfl⟩
  rw [hb] at HM Hw2
  rw [hb]
  clear hb HB2
  obtain ⟨p0, p1, p2⟩ := HB.out.cells
  go_wp2_with (go_at_call 15; refine (live_any (cN := cN) (en := en) (top := top) (HP.out.at_ HB.out.bel)).mono ?_; rintro e w4 ⟨A4, n4, c4, rfl, hl4, hc4, hc5, hr4, hb4⟩; have HL4 := hide hl4; have HK := hide (show CkW w b1 #[.slice N nn cN, .int .i64 en, .int .i64 top] b [] A4 (liveF ns) w4 from ⟨HB.out.step hb4, HM.out.block (hb4.block b HM.out.lt), hr4.more fun d hd => ⟨hd.2, by have := HM.out.lt; have := hd.1; omega⟩, Hw2.out⟩); clear hl4 hr4 hb4)
  clear p0 p1 p2 HB HM
  have h24 : n4 ≤ 20 := by have h := liveK_len ns ns.length; have := HL4.out; have := Hl.out; unfold liveF at *; omega
  go_loopw [30] (fun i wr => ∃ (k : Nat), k ≤ n4 ∧ i = .int .i64 k ∧ Hid (∀ s ∈ (liveF ns).take k, nodeOk ns links s) ∧ Hid (((liveF ns).take k).map (idF ns)).Nodup ∧ Hid (CkW w b1 #[.slice N nn cN, .int .i64 en, .int .i64 top] b (((liveF ns).take k).map (idF ns)) A4 (liveF ns) wr)) (fun i _ => n4 - (intOf i).toNat)
  case atStart => exact ⟨0, by omega, rfl, hide (by simp), hide (by simp), HK⟩
  case round =>
    obtain ⟨k, hk, rfl, HNd, HId, HB⟩ := hrel
    clear HK
    by_cases hlt : k < n4
    · have g0 : (0 : Int) ≤ k := by omega
      have g1 : (k : Int) < n4 := by omega
      obtain ⟨al, y, rfl, _, hv, q0⟩ := RdR.icell HB.out.r (k := k) (by have := HL4.out; omega)
      have HV := hide hv
      have hth := live_mem.1 (List.mem_of_getElem? hv)
      have hrg := there_lt hth
      obtain ⟨m, rfl⟩ : ∃ m : Nat, y = m := ⟨y.toNat, by omega⟩
      have hm : m < ns.length := by omega
      have m0 : (0 : Int) ≤ m := by omega
      have m1 : (m : Int) < nn := by have := Hl.out; omega
      obtain ⟨ad, x, V, cV, L, cL, hA, hbl, hkx, hc⟩ := (HP.out.at_ HB.out.p.bel).nd.node (k := m) hm
      have HKx := hide hkx
      have HAd := hide hA
      have hidw := HP.out.idw x (List.mem_of_getElem? hkx)
      have hsm := (HP.out.sm x (List.mem_of_getElem? hkx)).1
      have HMem := hide (show (m : Int) ∈ liveF ns from List.mem_of_getElem? hv)
      have HTk := hide (takeI_snoc hv)
      have HNF := hide (nodeF_at hkx)
      subst hA
      obtain ⟨p0, p1, p2⟩ := HB.out.p.cells
      have HNo := hide (fun (h : ¬ nodeOk ns links (m : Int)) => show ¬ CheckP ns en top links from fun hc => h (hc.nd _ HMem.out))
      obtain ⟨⟨id, vs, tg⟩, lv, ls, nx, pv⟩ := x
      have HIdE := hide (show idF ns (m : Int) = id by unfold idF; rw [HNF.out])
      obtain ⟨z0, z1, z2, z3, z4, z5, z6, -, -, -, -, -, -⟩ := hc
      simp only at z0 z1 z2 z3 z4 z5 z6 hidw hsm
      clear hkx hbl hv hth hrg
      go_upto_region 8 with fail
      have HX := hide (HB.out.step (below1 wr (.cells #[.int .u64 id, .slice V vs.length cV, .int .u64 tg, .int .i64 lv, .slice L ls.length cL, .int .i64 nx, .int .i64 pv] 53)))
      have HN8 := hide (Blk.new wr 53 #[.int .u64 id, .slice V vs.length cV, .int .u64 tg, .int .i64 lv, .slice L ls.length cL, .int .i64 nx, .int .i64 pv])
      clear z0 z1 z2 z3 z4 z5 z6 p0 p1 p2 HB q0
      generalize World.alloc wr _ = w5 at *
      obtain ⟨b8, hb8⟩ : ∃ b, wr.heap.size = b := ⟨_, rfl⟩
      rw [hb8] at HN8
      rw [hb8]
      clear hb8
      have d0 := HN8.out.cell 0
      simp at d0
      by_cases hin : id ∈ ((liveF ns).take k).map (idF ns)
      · have L1 := HX.out.m.atU hidw
        rw [look_ones, if_pos hin] at L1
        obtain ⟨w6, hrun, hm6, hp6⟩ := HX.out.m.setU hidw 2
        have HBad := hide (show ¬ CheckP ns en top links from fun hc => by
          have h := hc.ids
          have h2 : (((liveF ns).take (k + 1)).map (idF ns)).Nodup := (h.sublist (List.Sublist.map _ (List.take_sublist _ _)))
          rw [HTk.out, List.map_append, List.nodup_append] at h2
          exact h2.2.2 id hin id (by simp [HIdE.out]) rfl)
        have HB6 := hide (show Below w.heap.size w w6 from hp6.below HX.out.p.bel HX.out.hb)
        have L2 := hm6.atU hidw
        rw [lookF_put, if_pos rfl] at L2
        have e9 := (hp6.2.2.2.2 b8 (fun e => blk_ne_map HN8.out HX.out.m e)).trans HN8.out
        have HN9 := hide (show Blk w6 b8 53 #[.int .u64 id, .slice V vs.length cV, .int .u64 tg, .int .i64 lv, .slice L ls.length cL, .int .i64 nx, .int .i64 pv] from e9)
        clear hin hm6 hp6 e9
        go_upto_region 9 with fail
        clear L1 hrun d0
        have d0 := HN9.out.cell 0
        have d3 := HN9.out.cell 3
        have d4 := HN9.out.cell 4
        simp at d0 d3 d4
        by_cases c1 : lv < 0
        · have f1 : decide (lv < 0) = true := decide_eq_true c1
          go_wp2
          go_ret
          exact GivesC.bad HBad.out HB6.out
        · have f1 : decide (lv < 0) = false := decide_eq_false c1
          by_cases c2 : 7 < lv
          · have f2 : decide (7 < lv) = true := decide_eq_true c2
            go_wp2
            go_ret
            exact GivesC.bad HBad.out HB6.out
          · have f2 : decide (7 < lv) = false := decide_eq_false c2
            by_cases c3 : (ls.length : Int) = lv + 1
            · have f3 : ((ls.length : Int) != lv + 1) = false := by simpa using c3
              have f4 : ((ls.length : Int) == lv + 1) = true := by simpa using c3
              have HC3 := hide c3
              clear c3
              go_wp2
              go_ret
              exact GivesC.bad HBad.out HB6.out
            · have f3 : ((ls.length : Int) != lv + 1) = true := by simpa using c3
              have f4 : ((ls.length : Int) == lv + 1) = false := by simpa using c3
              clear c3
              go_wp2
              go_ret
              exact GivesC.bad HBad.out HB6.out
      · have L1 := HX.out.m.atU hidw
        rw [look_ones, if_neg hin] at L1
        obtain ⟨w6, hrun, hm6, hp6⟩ := HX.out.m.setU hidw 1
        rw [put_ones hin] at hm6
        have HB6 := hide (HX.out.put hp6 hm6)
        have HIn := hide (show (((liveF ns).take (k + 1)).map (idF ns)).Nodup from by
          rw [HTk.out, List.map_append, List.nodup_append]
          refine ⟨HId.out, by simp, fun a ha c hc e => hin ?_⟩
          have : c = id := by simpa [HIdE.out] using hc
          rw [← this, ← e]; exact ha)
        have HIe := hide (show ((liveF ns).take (k + 1)).map (idF ns) = ((liveF ns).take k).map (idF ns) ++ [id] by rw [HTk.out, List.map_append, List.map_cons, List.map_nil, HIdE.out])
        have L2 := hm6.atU hidw
        rw [look_ones, if_pos (by simp)] at L2
        have e9 := (hp6.2.2.2.2 b8 (fun e => blk_ne_map HN8.out HX.out.m e)).trans HN8.out
        have HN9 := hide (show Blk w6 b8 53 #[.int .u64 id, .slice V vs.length cV, .int .u64 tg, .int .i64 lv, .slice L ls.length cL, .int .i64 nx, .int .i64 pv] from e9)
        clear hin hm6 hp6 e9 HX
        go_upto_region 9 with fail
        clear L1 hrun d0
        have d0 := HN9.out.cell 0
        have d3 := HN9.out.cell 3
        have d4 := HN9.out.cell 4
        simp at d0 d3 d4
        by_cases c1 : lv < 0
        · have f1 : decide (lv < 0) = true := decide_eq_true c1
          have HBad := hide (HNo.out (fun h => by have h1 := h.1; rw [HNF.out] at h1; simp only at h1; omega))
          go_wp2
          go_ret
          exact GivesC.bad HBad.out HB6.out.p.bel
        have f1 : decide (lv < 0) = false := decide_eq_false c1
        by_cases c2 : 7 < lv
        · have f2 : decide (7 < lv) = true := decide_eq_true c2
          have HBad := hide (HNo.out (fun h => by have h1 := h.2.1; rw [HNF.out] at h1; simp only at h1; omega))
          go_wp2
          go_ret
          exact GivesC.bad HBad.out HB6.out.p.bel
        have f2 : decide (7 < lv) = false := decide_eq_false c2
        by_cases c3 : (ls.length : Int) = lv + 1
        case neg =>
          have f3 : ((ls.length : Int) != lv + 1) = true := by simpa using c3
          have f4 : ((ls.length : Int) == lv + 1) = false := by simpa using c3
          have HBad := hide (HNo.out (fun h => by have h1 := h.2.2.1; rw [HNF.out] at h1; simp only at h1; exact c3 h1))
          clear c3
          go_wp2
          go_ret
          exact GivesC.bad HBad.out HB6.out.p.bel
        have f3 : ((ls.length : Int) != lv + 1) = false := by simpa using c3
        have f4 : ((ls.length : Int) == lv + 1) = true := by simpa using c3
        have HC3 := hide c3
        have hll : ls.length ≤ 10 := by omega
        clear c3
        go_upto_region 11 with fail
        clear L2 d0 d3
        go_wp2
        go_loopw [73] (fun i wr => ∃ (j : Nat), j ≤ ls.length ∧ i = .int .i64 j ∧ Hid (∀ lev : Nat, lev < j → listP ns (m : Int) lev links) ∧ Hid (CkW w b1 #[.slice (some ad) nn cN, .int .i64 en, .int .i64 top] b (((liveF ns).take k).map (idF ns) ++ [id]) (some al) (liveF ns) wr)) (fun i _ => ls.length - (intOf i).toNat)
        case atStart => exact ⟨0, by omega, rfl, hide (fun lev h => by omega), HB6⟩
        case round =>
          obtain ⟨j, hj, rfl, HLs, HBj⟩ := hrel
          clear HB6 HN9 HN8 d4
          by_cases hjl : j < ls.length
          · have g2 : (0 : Int) ≤ j := by omega
            have g3 : (j : Int) < ls.length := by omega
            obtain ⟨p0, p1, p2⟩ := HBj.out.p.cells
            have CL := hide (list_any (cN := cN) (en := en) (top := top) (HP.out.at_ HBj.out.p.bel) HKx.out hjl (by omega) links)
            by_cases hls : listP ns (m : Int) j links
            · have HL1 := hide (show ∀ lev : Nat, lev < j + 1 → listP ns (m : Int) lev links from fun lev hl => by
                by_cases e : lev = j
                · rw [e]; exact hls
                · exact HLs.out lev (by omega))
              have HH := hide hls
              clear hls
              go_wp2_with (go_at_call 16; refine CL.out.mono ?_; rintro e w7 ⟨⟨r, rfl, hr⟩, hb⟩; obtain rfl : r = true := hr.2 HH.out; have HB7 := hide (HBj.out.step hb); clear hb hr)
              go_roundw
              case rel => exact ⟨j + 1, by omega, by go_num, HL1, HB7⟩
              case measure => simp [intOf]; omega
            · have HBad := hide (HNo.out (fun h => hls (h.2.2.2 j (by rw [HNF.out]; exact hjl))))
              have HH := hide hls
              clear hls
              go_wp2_with (go_at_call 16; refine CL.out.mono ?_; rintro e w7 ⟨⟨r, rfl, hr⟩, hb⟩; obtain rfl : r = false := (by (cases r with | false => rfl | true => exact absurd (hr.1 rfl) HH.out)); have HB7 := hide (HBj.out.step hb); clear hb hr)
              go_ret
              exact GivesC.bad HBad.out HB7.out.p.bel
          · obtain rfl : ls.length = j := by omega
            have HOk := hide (show ∀ s ∈ (liveF ns).take (k + 1), nodeOk ns links s from fun s hs => by
              rw [HTk.out] at hs
              rcases List.mem_append.1 hs with hs | hs
              · exact HNd.out s hs
              · rw [List.mem_singleton.1 hs]
                unfold nodeOk
                rw [HNF.out]
                exact ⟨by simp only; omega, by simp only; omega, HC3.out, HLs.out⟩)
            go_wp2
            go_roundw
            case rel => exact ⟨k + 1, by omega, by go_num, HOk, HIn, hide (by rw [HIe.out]; exact HBj.out)⟩
            case measure => simp [intOf]; omega
    · obtain rfl : n4 = k := by omega
      have HAll := hide (show ∀ s ∈ liveF ns, nodeOk ns links s from by have h := HNd.out; rwa [List.take_of_length_le (by rw [HL4.out]; exact Nat.le_refl _)] at h)
      have HIds := hide (show ((liveF ns).map (idF ns)).Nodup from by have h := HId.out; rwa [List.take_of_length_le (by rw [HL4.out]; exact Nat.le_refl _)] at h)
      have HPos := hide (show 0 < ns.length by have := Hl.out; omega)
      have HBp := hide HB.out.p
      clear HNd HId HB
      obtain ⟨p0, p1, p2⟩ := HBp.out.cells
      have HYes := hide (fun (h : (en = 0 ∧ top = 0) ∨ (thereF ns en = true ∧ 0 ≤ top ∧ top ≤ (nodeF ns en).2.1)) => (⟨HPos.out, HRg.out, HAll.out, HIds.out, h⟩ : CheckP ns en top links))
      by_cases hen : en = 0
      · subst hen
        by_cases htp : top = 0
        · subst htp
          have HY2 := hide (HYes.out (.inl ⟨rfl, rfl⟩))
          go_upto_region 19 with fail
          clear p0 p1 p2
          refine startO (S := (fun W => PlB w b1 #[.slice N nn cN, .int .i64 0, .int .i64 0] W)) 26 (by as_aux_lemma => kernel_rfl) (by as_aux_lemma => kernel_rfl) (HBp.out.step (Below.refl _ _).drew) (fun hHeld => ?_)
          clear HBp
          generalize hWd : World.drew _ = Wd at *
          clear hWd
          refine putsO [0, 1, 2, 3, 4, 5, 6, 7, 8, 9, 10, 11, 12, 13, 14, 16, 18, 15, 17, 19, 20, 21, 22, 23, 24, 25] [25, 24, 23, 22, 21, 20, 19, 17, 15, 18, 16, 14, 13, 12, 11, 10, 9, 8, 7, 6, 5, 4, 3, 2, 1, 0] [(117, .bool false), (116, undef), (115, undef), (114, undef), (113, undef), (112, undef), (111, undef), (109, undef), (107, undef), (110, undef), (108, undef), (106, undef), (105, undef), (104, undef), (103, undef), (102, undef), (101, undef), (100, undef), (99, undef), (98, undef), (97, undef), (96, undef), (95, undef), (94, .bool false), (93, .bool false), (92, .bool true)] 26 rfl [92, 93, 94, 95, 96, 97, 98, 99, 100, 101, 102, 103, 104, 105, 106, 108, 110, 107, 109, 111, 112, 113, 114, 115, 116, 117] (by as_aux_lemma => kernel_rfl) (by as_aux_lemma => kernel_rfl) rfl (fun _ _ _ _ _ h => h) hHeld ?_
          refine doneO [(92, .bool true), (0, .bool false), (0, .bool false), (0, undef), (0, undef), (0, undef), (0, undef), (0, undef), (0, undef), (0, undef), (0, undef), (0, undef), (0, undef), (0, undef), (0, undef), (0, undef), (0, undef), (0, undef), (0, undef), (0, undef), (0, undef), (0, undef), (0, undef), (0, undef), (0, undef), (0, .bool false)] (by as_aux_lemma => kernel_rfl) (by as_aux_lemma => kernel_rfl) ?_
          simp only [fillG]
          have HBe := hide hHeld
          clear hHeld
          go_wp2
          go_ret
          exact GivesC.good HY2.out HBe.out.bel
        · have e5 : (top == 0) = false := by rw [beq_eq_false_iff_ne]; exact htp
          have HTh := hide (show thereF ns 0 = false from there_out (.inl (by omega)))
          have HNo := hide (show ¬ CheckP ns 0 top links from fun h => h.en.elim (fun h => htp h.2) fun h => by rw [HTh.out] at h; cases h.1)
          clear htp
          go_upto_region 19 with fail
          clear p0 p1 p2
          refine startO (S := (fun W => PlB w b1 #[.slice N nn cN, .int .i64 0, .int .i64 top] W)) 26 (by as_aux_lemma => kernel_rfl) (by as_aux_lemma => kernel_rfl) (HBp.out.step (Below.refl _ _).drew) (fun hHeld => ?_)
          clear HBp
          generalize hWd : World.drew _ = Wd at *
          clear hWd
          refine putsO [0, 1, 2] [2, 1, 0] [(94, .bool true), (93, .bool true), (92, .bool false)] 3 rfl [92, 93, 94] (by as_aux_lemma => kernel_rfl) (by as_aux_lemma => kernel_rfl) rfl (fun _ _ _ _ _ h => h) hHeld ?_
          refine takeO 3 95 (.load 24 (.const (.pointer (some ⟨b1, 0, none⟩)))) 24 (.agg #[.slice N nn cN, .int .i64 0, .int .i64 top]) (by as_aux_lemma => kernel_rfl) (by as_aux_lemma => kernel_rfl) (by as_aux_lemma => kernel_rfl) (fun _ _ _ _ _ h => h) (fun W hS => by have z0 := hS.cells; obtain ⟨z1, z2, z3⟩ := z0; clear hS hHeld; unfold cEv opC; as_aux_lemma => first | (go_simp; done) | (go_simp <;> rfl)) hHeld ?_
          refine takeO 4 96 (.fieldAddr 24 (.const (.pointer (some ⟨b1, 0, none⟩))) 1) 0 (.pointer (some ⟨b1, 1, none⟩)) (by as_aux_lemma => kernel_rfl) (by as_aux_lemma => kernel_rfl) (by as_aux_lemma => kernel_rfl) (fun _ _ _ _ _ h => h) (fun W hS => by clear hS hHeld; unfold cEv opC; as_aux_lemma => first | (go_simp; done) | (go_simp <;> rfl)) hHeld ?_
          refine takeO 5 97 (.load 3 (.const (.pointer (some ⟨b1, 1, none⟩)))) 3 (.int .i64 0) (by as_aux_lemma => kernel_rfl) (by as_aux_lemma => kernel_rfl) (by as_aux_lemma => kernel_rfl) (fun _ _ _ _ _ h => h) (fun W hS => by have z0 := hS.cells; obtain ⟨z1, z2, z3⟩ := z0; clear hS hHeld; unfold cEv opC; as_aux_lemma => first | (go_simp; done) | (go_simp <;> rfl)) hHeld ?_
          refine readyO [6] (by as_aux_lemma => kernel_rfl) (by simp) ?_
          refine callO 6 98 (.call { callee := .value (.func 17), args := #[.const (.agg #[.slice N nn cN, .int .i64 0, .int .i64 top]), .const (.int .i64 0)], argTypes := #[24, 3] }) 4 17 #[.agg #[.slice N nn cN, .int .i64 0, .int .i64 top], .int .i64 0] (by as_aux_lemma => kernel_rfl) (by as_aux_lemma => kernel_rfl) (by unfold cEv opC; go_simp) ?_ AllReadyH.nil
          refine (there_any (nn := nn) (cN := cN) (en := 0) (top := top) (HP.out.at_ hHeld.bel).nd HP.out.len 0).mono ?_
          rintro e w9 ⟨rfl, hb9⟩
          rw [HTh.out]
          refine ⟨_, rfl, (hHeld.step hb9), fun hHeld2 => ?_⟩
          clear hHeld
          have hHeld := hHeld2
          clear hHeld2
          clear hb9
          refine putsO [7, 8, 9, 10, 11, 12, 13, 14, 16, 18, 15, 17, 19, 20, 21, 22, 23, 24, 25] [25, 24, 23, 22, 21, 20, 19, 17, 15, 18, 16, 14, 13, 12, 11, 10, 9, 8, 7] [(117, .bool true), (116, .bool true), (115, undef), (114, undef), (113, undef), (112, undef), (111, undef), (109, undef), (107, undef), (110, undef), (108, undef), (106, undef), (105, .bool true), (104, .bool true), (103, undef), (102, undef), (101, undef), (100, .bool true), (99, .bool true)] 19 rfl [99, 100, 101, 102, 103, 104, 105, 106, 108, 110, 107, 109, 111, 112, 113, 114, 115, 116, 117] (by as_aux_lemma => kernel_rfl) (by as_aux_lemma => kernel_rfl) rfl (fun _ _ _ _ _ h => h) hHeld ?_
          refine doneO [(92, .bool false), (0, .bool true), (0, .bool true), (0, .agg #[.slice N nn cN, .int .i64 0, .int .i64 top]), (0, .pointer (some ⟨b1, 1, none⟩)), (0, .int .i64 0), (0, .bool false), (0, .bool true), (0, .bool true), (0, undef), (0, undef), (0, undef), (0, .bool true), (0, .bool true), (0, undef), (0, undef), (0, undef), (0, undef), (0, undef), (0, undef), (0, undef), (0, undef), (0, undef), (0, undef), (0, .bool true), (0, .bool true)] (by as_aux_lemma => kernel_rfl) (by as_aux_lemma => kernel_rfl) ?_
          simp only [fillG]
          have HBe := hide hHeld
          clear hHeld
          go_wp2
          go_ret
          exact GivesC.bad HNo.out HBe.out.bel
      · have e4 : (en == 0) = false := by rw [beq_eq_false_iff_ne]; exact hen
        rcases hth : thereF ns en with _ | _
        · have HTh := hide hth
          have HNo := hide (show ¬ CheckP ns en top links from fun h => h.en.elim (fun h => hen h.1) fun h => by rw [HTh.out] at h; cases h.1)
          clear hth hen
          go_upto_region 19 with fail
          clear p0 p1 p2
          refine startO (S := (fun W => PlB w b1 #[.slice N nn cN, .int .i64 en, .int .i64 top] W)) 26 (by as_aux_lemma => kernel_rfl) (by as_aux_lemma => kernel_rfl) (HBp.out.step (Below.refl _ _).drew) (fun hHeld => ?_)
          clear HBp
          generalize hWd : World.drew _ = Wd at *
          clear hWd
          refine putsO [0, 1, 2] [2, 1, 0] [(94, .bool true), (93, .bool true), (92, .bool false)] 3 rfl [92, 93, 94] (by as_aux_lemma => kernel_rfl) (by as_aux_lemma => kernel_rfl) rfl (fun _ _ _ _ _ h => h) hHeld ?_
          refine takeO 3 95 (.load 24 (.const (.pointer (some ⟨b1, 0, none⟩)))) 24 (.agg #[.slice N nn cN, .int .i64 en, .int .i64 top]) (by as_aux_lemma => kernel_rfl) (by as_aux_lemma => kernel_rfl) (by as_aux_lemma => kernel_rfl) (fun _ _ _ _ _ h => h) (fun W hS => by have z0 := hS.cells; obtain ⟨z1, z2, z3⟩ := z0; clear hS hHeld; unfold cEv opC; as_aux_lemma => first | (go_simp; done) | (go_simp <;> rfl)) hHeld ?_
          refine takeO 4 96 (.fieldAddr 24 (.const (.pointer (some ⟨b1, 0, none⟩))) 1) 0 (.pointer (some ⟨b1, 1, none⟩)) (by as_aux_lemma => kernel_rfl) (by as_aux_lemma => kernel_rfl) (by as_aux_lemma => kernel_rfl) (fun _ _ _ _ _ h => h) (fun W hS => by clear hS hHeld; unfold cEv opC; as_aux_lemma => first | (go_simp; done) | (go_simp <;> rfl)) hHeld ?_
          refine takeO 5 97 (.load 3 (.const (.pointer (some ⟨b1, 1, none⟩)))) 3 (.int .i64 en) (by as_aux_lemma => kernel_rfl) (by as_aux_lemma => kernel_rfl) (by as_aux_lemma => kernel_rfl) (fun _ _ _ _ _ h => h) (fun W hS => by have z0 := hS.cells; obtain ⟨z1, z2, z3⟩ := z0; clear hS hHeld; unfold cEv opC; as_aux_lemma => first | (go_simp; done) | (go_simp <;> rfl)) hHeld ?_
          refine readyO [6] (by as_aux_lemma => kernel_rfl) (by simp) ?_
          refine callO 6 98 (.call { callee := .value (.func 17), args := #[.const (.agg #[.slice N nn cN, .int .i64 en, .int .i64 top]), .const (.int .i64 en)], argTypes := #[24, 3] }) 4 17 #[.agg #[.slice N nn cN, .int .i64 en, .int .i64 top], .int .i64 en] (by as_aux_lemma => kernel_rfl) (by as_aux_lemma => kernel_rfl) (by unfold cEv opC; go_simp) ?_ AllReadyH.nil
          refine (there_any (nn := nn) (cN := cN) (en := en) (top := top) (HP.out.at_ hHeld.bel).nd HP.out.len en).mono ?_
          rintro e w9 ⟨rfl, hb9⟩
          rw [HTh.out]
          refine ⟨_, rfl, (hHeld.step hb9), fun hHeld2 => ?_⟩
          clear hHeld
          have hHeld := hHeld2
          clear hHeld2
          clear hb9
          refine putsO [7, 8, 9, 10, 11, 12, 13, 14, 16, 18, 15, 17, 19, 20, 21, 22, 23, 24, 25] [25, 24, 23, 22, 21, 20, 19, 17, 15, 18, 16, 14, 13, 12, 11, 10, 9, 8, 7] [(117, .bool true), (116, .bool true), (115, undef), (114, undef), (113, undef), (112, undef), (111, undef), (109, undef), (107, undef), (110, undef), (108, undef), (106, undef), (105, .bool true), (104, .bool true), (103, undef), (102, undef), (101, undef), (100, .bool true), (99, .bool true)] 19 rfl [99, 100, 101, 102, 103, 104, 105, 106, 108, 110, 107, 109, 111, 112, 113, 114, 115, 116, 117] (by as_aux_lemma => kernel_rfl) (by as_aux_lemma => kernel_rfl) rfl (fun _ _ _ _ _ h => h) hHeld ?_
          refine doneO [(92, .bool false), (0, .bool true), (0, .bool true), (0, .agg #[.slice N nn cN, .int .i64 en, .int .i64 top]), (0, .pointer (some ⟨b1, 1, none⟩)), (0, .int .i64 en), (0, .bool false), (0, .bool true), (0, .bool true), (0, undef), (0, undef), (0, undef), (0, .bool true), (0, .bool true), (0, undef), (0, undef), (0, undef), (0, undef), (0, undef), (0, undef), (0, undef), (0, undef), (0, undef), (0, undef), (0, .bool true), (0, .bool true)] (by as_aux_lemma => kernel_rfl) (by as_aux_lemma => kernel_rfl) ?_
          simp only [fillG]
          have HBe := hide hHeld
          clear hHeld
          go_wp2
          go_ret
          exact GivesC.bad HNo.out HBe.out.bel
        · have HTh := hide hth
          have hrg := there_lt hth
          obtain ⟨m, rfl⟩ : ∃ m : Nat, en = m := ⟨en.toNat, by omega⟩
          have HKn := hide (show m < nn by have := Hl.out; omega)
          obtain ⟨ad, x, V, cV, Lx, cL, hA, hbl, hkx, hc⟩ := HP.out.nd.node (k := m) (by omega)
          subst hA
          have HBn := hide (show (ad.add (m * 7)).block < w.heap.size by rw [block_of_add]; exact hbl)
          have HNF := hide (nodeF_at hkx)
          obtain ⟨⟨id, vs, tg⟩, lv, ls, nx, pv⟩ := x
          have HC3 := hide hc.c3
          simp only at HC3
          have HNot := hide hen
          clear hth hen hrg hbl hkx hc
          go_upto_region 19 with fail
          clear p0 p1 p2
          by_cases ht : top < 0
          · have F1 := hide (show decide (top < 0) = true from decide_eq_true ht)
            have HNo := hide (show ¬ CheckP ns (m : Int) top links from fun h => h.en.elim (fun h => HNot.out h.1) fun h => by have := h.2.1; omega)
            clear ht
            refine startO (S := (fun W => PlB w b1 #[.slice (some ad) nn cN, .int .i64 (m : Int), .int .i64 top] W)) 26 (by as_aux_lemma => kernel_rfl) (by as_aux_lemma => kernel_rfl) (HBp.out.step (Below.refl _ _).drew) (fun hHeld => ?_)
            clear HBp
            generalize hWd : World.drew _ = Wd at *
            clear hWd
            refine putsO [0, 1, 2] [2, 1, 0] [(94, .bool true), (93, .bool true), (92, .bool false)] 3 rfl [92, 93, 94] (by as_aux_lemma => kernel_rfl) (by as_aux_lemma => kernel_rfl) rfl (fun _ _ _ _ _ h => h) hHeld ?_
            refine takeO 3 95 (.load 24 (.const (.pointer (some ⟨b1, 0, none⟩)))) 24 (.agg #[.slice (some ad) nn cN, .int .i64 (m : Int), .int .i64 top]) (by as_aux_lemma => kernel_rfl) (by as_aux_lemma => kernel_rfl) (by as_aux_lemma => kernel_rfl) (fun _ _ _ _ _ h => h) (fun W hS => by have z0 := hS.cells; obtain ⟨z1, z2, z3⟩ := z0; clear hS hHeld; unfold cEv opC; as_aux_lemma => first | (go_simp; done) | (go_simp <;> rfl)) hHeld ?_
            refine takeO 4 96 (.fieldAddr 24 (.const (.pointer (some ⟨b1, 0, none⟩))) 1) 0 (.pointer (some ⟨b1, 1, none⟩)) (by as_aux_lemma => kernel_rfl) (by as_aux_lemma => kernel_rfl) (by as_aux_lemma => kernel_rfl) (fun _ _ _ _ _ h => h) (fun W hS => by clear hS hHeld; unfold cEv opC; as_aux_lemma => first | (go_simp; done) | (go_simp <;> rfl)) hHeld ?_
            refine takeO 5 97 (.load 3 (.const (.pointer (some ⟨b1, 1, none⟩)))) 3 (.int .i64 (m : Int)) (by as_aux_lemma => kernel_rfl) (by as_aux_lemma => kernel_rfl) (by as_aux_lemma => kernel_rfl) (fun _ _ _ _ _ h => h) (fun W hS => by have z0 := hS.cells; obtain ⟨z1, z2, z3⟩ := z0; clear hS hHeld; unfold cEv opC; as_aux_lemma => first | (go_simp; done) | (go_simp <;> rfl)) hHeld ?_
            refine readyO [6] (by as_aux_lemma => kernel_rfl) (by simp) ?_
            refine callO 6 98 (.call { callee := .value (.func 17), args := #[.const (.agg #[.slice (some ad) nn cN, .int .i64 (m : Int), .int .i64 top]), .const (.int .i64 (m : Int))], argTypes := #[24, 3] }) 4 17 #[.agg #[.slice (some ad) nn cN, .int .i64 (m : Int), .int .i64 top], .int .i64 (m : Int)] (by as_aux_lemma => kernel_rfl) (by as_aux_lemma => kernel_rfl) (by unfold cEv opC; go_simp) ?_ AllReadyH.nil
            refine (there_any (nn := nn) (cN := cN) (en := (m : Int)) (top := top) (HP.out.at_ hHeld.bel).nd HP.out.len (m : Int)).mono ?_
            rintro e w9 ⟨rfl, hb9⟩
            rw [HTh.out]
            refine ⟨_, rfl, (hHeld.step hb9), fun hHeld2 => ?_⟩
            clear hHeld
            have hHeld := hHeld2
            clear hHeld2
            clear hb9
            refine putsO [7, 8] [8, 7] [(100, .bool false), (99, .bool false)] 2 rfl [99, 100] (by as_aux_lemma => kernel_rfl) (by as_aux_lemma => kernel_rfl) rfl (fun _ _ _ _ _ h => h) hHeld ?_
            refine takeO 9 101 (.fieldAddr 24 (.const (.pointer (some ⟨b1, 0, none⟩))) 2) 0 (.pointer (some ⟨b1, 2, none⟩)) (by as_aux_lemma => kernel_rfl) (by as_aux_lemma => kernel_rfl) (by as_aux_lemma => kernel_rfl) (fun _ _ _ _ _ h => h) (fun W hS => by clear hS hHeld; unfold cEv opC; as_aux_lemma => first | (go_simp; done) | (go_simp <;> rfl)) hHeld ?_
            refine takeO 10 102 (.load 3 (.const (.pointer (some ⟨b1, 2, none⟩)))) 3 (.int .i64 top) (by as_aux_lemma => kernel_rfl) (by as_aux_lemma => kernel_rfl) (by as_aux_lemma => kernel_rfl) (fun _ _ _ _ _ h => h) (fun W hS => by have z0 := hS.cells; obtain ⟨z1, z2, z3⟩ := z0; clear hS hHeld; unfold cEv opC; as_aux_lemma => first | (go_simp; done) | (go_simp <;> rfl)) hHeld ?_
            refine takeO 11 103 (.binOp .lss 3 (.const (.int .i64 top)) (.const (.int .i64 0)) 3) 4 (.bool true) (by as_aux_lemma => kernel_rfl) (by as_aux_lemma => kernel_rfl) (by as_aux_lemma => kernel_rfl) (fun _ _ _ _ _ h => h) (fun W hS => by have f1 := F1.out; clear hS hHeld; unfold cEv opC; as_aux_lemma => first | (go_simp; done) | (go_simp <;> rfl)) hHeld ?_
            refine putsO [12, 13, 14, 16, 18, 15, 17, 19, 20, 21, 22, 23, 24, 25] [25, 24, 23, 22, 21, 20, 19, 17, 15, 18, 16, 14, 13, 12] [(117, .bool true), (116, .bool true), (115, undef), (114, undef), (113, undef), (112, undef), (111, undef), (109, undef), (107, undef), (110, undef), (108, undef), (106, undef), (105, .bool true), (104, .bool true)] 14 rfl [104, 105, 106, 108, 110, 107, 109, 111, 112, 113, 114, 115, 116, 117] (by as_aux_lemma => kernel_rfl) (by as_aux_lemma => kernel_rfl) rfl (fun _ _ _ _ _ h => h) hHeld ?_
            refine doneO [(92, .bool false), (0, .bool true), (0, .bool true), (0, .agg #[.slice (some ad) nn cN, .int .i64 (m : Int), .int .i64 top]), (0, .pointer (some ⟨b1, 1, none⟩)), (0, .int .i64 (m : Int)), (0, .bool true), (0, .bool false), (0, .bool false), (0, .pointer (some ⟨b1, 2, none⟩)), (0, .int .i64 top), (0, .bool true), (0, .bool true), (0, .bool true), (0, undef), (0, undef), (0, undef), (0, undef), (0, undef), (0, undef), (0, undef), (0, undef), (0, undef), (0, undef), (0, .bool true), (0, .bool true)] (by as_aux_lemma => kernel_rfl) (by as_aux_lemma => kernel_rfl) ?_
            simp only [fillG]
            have HBe := hide hHeld
            clear hHeld
            go_wp2
            go_ret
            exact GivesC.bad HNo.out HBe.out.bel
          · have F1 := hide (show decide (top < 0) = false from decide_eq_false ht)
            by_cases hb : lv < top
            · have F2 := hide (show decide (lv < top) = true from decide_eq_true hb)
              have HNo := hide (show ¬ CheckP ns (m : Int) top links from fun h => h.en.elim (fun h => HNot.out h.1) fun h => by have h1 := h.2.2; rw [HNF.out] at h1; simp only at h1; omega)
              clear ht hb
              refine startO (S := (fun W => PlB w b1 #[.slice (some ad) nn cN, .int .i64 (m : Int), .int .i64 top] W)) 26 (by as_aux_lemma => kernel_rfl) (by as_aux_lemma => kernel_rfl) (HBp.out.step (Below.refl _ _).drew) (fun hHeld => ?_)
              clear HBp
              generalize hWd : World.drew _ = Wd at *
              clear hWd
              refine putsO [0, 1, 2] [2, 1, 0] [(94, .bool true), (93, .bool true), (92, .bool false)] 3 rfl [92, 93, 94] (by as_aux_lemma => kernel_rfl) (by as_aux_lemma => kernel_rfl) rfl (fun _ _ _ _ _ h => h) hHeld ?_
              refine takeO 3 95 (.load 24 (.const (.pointer (some ⟨b1, 0, none⟩)))) 24 (.agg #[.slice (some ad) nn cN, .int .i64 (m : Int), .int .i64 top]) (by as_aux_lemma => kernel_rfl) (by as_aux_lemma => kernel_rfl) (by as_aux_lemma => kernel_rfl) (fun _ _ _ _ _ h => h) (fun W hS => by have z0 := hS.cells; obtain ⟨z1, z2, z3⟩ := z0; clear hS hHeld; unfold cEv opC; as_aux_lemma => first | (go_simp; done) | (go_simp <;> rfl)) hHeld ?_
              refine takeO 4 96 (.fieldAddr 24 (.const (.pointer (some ⟨b1, 0, none⟩))) 1) 0 (.pointer (some ⟨b1, 1, none⟩)) (by as_aux_lemma => kernel_rfl) (by as_aux_lemma => kernel_rfl) (by as_aux_lemma => kernel_rfl) (fun _ _ _ _ _ h => h) (fun W hS => by clear hS hHeld; unfold cEv opC; as_aux_lemma => first | (go_simp; done) | (go_simp <;> rfl)) hHeld ?_
              refine takeO 5 97 (.load 3 (.const (.pointer (some ⟨b1, 1, none⟩)))) 3 (.int .i64 (m : Int)) (by as_aux_lemma => kernel_rfl) (by as_aux_lemma => kernel_rfl) (by as_aux_lemma => kernel_rfl) (fun _ _ _ _ _ h => h) (fun W hS => by have z0 := hS.cells; obtain ⟨z1, z2, z3⟩ := z0; clear hS hHeld; unfold cEv opC; as_aux_lemma => first | (go_simp; done) | (go_simp <;> rfl)) hHeld ?_
              refine readyO [6] (by as_aux_lemma => kernel_rfl) (by simp) ?_
              refine callO 6 98 (.call { callee := .value (.func 17), args := #[.const (.agg #[.slice (some ad) nn cN, .int .i64 (m : Int), .int .i64 top]), .const (.int .i64 (m : Int))], argTypes := #[24, 3] }) 4 17 #[.agg #[.slice (some ad) nn cN, .int .i64 (m : Int), .int .i64 top], .int .i64 (m : Int)] (by as_aux_lemma => kernel_rfl) (by as_aux_lemma => kernel_rfl) (by unfold cEv opC; go_simp) ?_ AllReadyH.nil
              refine (there_any (nn := nn) (cN := cN) (en := (m : Int)) (top := top) (HP.out.at_ hHeld.bel).nd HP.out.len (m : Int)).mono ?_
              rintro e w9 ⟨rfl, hb9⟩
              rw [HTh.out]
              refine ⟨_, rfl, (hHeld.step hb9), fun hHeld2 => ?_⟩
              clear hHeld
              have hHeld := hHeld2
              clear hHeld2
              clear hb9
              refine putsO [7, 8] [8, 7] [(100, .bool false), (99, .bool false)] 2 rfl [99, 100] (by as_aux_lemma => kernel_rfl) (by as_aux_lemma => kernel_rfl) rfl (fun _ _ _ _ _ h => h) hHeld ?_
              refine takeO 9 101 (.fieldAddr 24 (.const (.pointer (some ⟨b1, 0, none⟩))) 2) 0 (.pointer (some ⟨b1, 2, none⟩)) (by as_aux_lemma => kernel_rfl) (by as_aux_lemma => kernel_rfl) (by as_aux_lemma => kernel_rfl) (fun _ _ _ _ _ h => h) (fun W hS => by clear hS hHeld; unfold cEv opC; as_aux_lemma => first | (go_simp; done) | (go_simp <;> rfl)) hHeld ?_
              refine takeO 10 102 (.load 3 (.const (.pointer (some ⟨b1, 2, none⟩)))) 3 (.int .i64 top) (by as_aux_lemma => kernel_rfl) (by as_aux_lemma => kernel_rfl) (by as_aux_lemma => kernel_rfl) (fun _ _ _ _ _ h => h) (fun W hS => by have z0 := hS.cells; obtain ⟨z1, z2, z3⟩ := z0; clear hS hHeld; unfold cEv opC; as_aux_lemma => first | (go_simp; done) | (go_simp <;> rfl)) hHeld ?_
              refine takeO 11 103 (.binOp .lss 3 (.const (.int .i64 top)) (.const (.int .i64 0)) 3) 4 (.bool false) (by as_aux_lemma => kernel_rfl) (by as_aux_lemma => kernel_rfl) (by as_aux_lemma => kernel_rfl) (fun _ _ _ _ _ h => h) (fun W hS => by have f1 := F1.out; clear hS hHeld; unfold cEv opC; as_aux_lemma => first | (go_simp; done) | (go_simp <;> rfl)) hHeld ?_
              refine putsO [12, 13] [13, 12] [(105, .bool false), (104, .bool false)] 2 rfl [104, 105] (by as_aux_lemma => kernel_rfl) (by as_aux_lemma => kernel_rfl) rfl (fun _ _ _ _ _ h => h) hHeld ?_
              refine takeO 14 106 (.fieldAddr 24 (.const (.pointer (some ⟨b1, 0, none⟩))) 2) 0 (.pointer (some ⟨b1, 2, none⟩)) (by as_aux_lemma => kernel_rfl) (by as_aux_lemma => kernel_rfl) (by as_aux_lemma => kernel_rfl) (fun _ _ _ _ _ h => h) (fun W hS => by clear hS hHeld; unfold cEv opC; as_aux_lemma => first | (go_simp; done) | (go_simp <;> rfl)) hHeld ?_
              refine takeO 16 108 (.fieldAddr 24 (.const (.pointer (some ⟨b1, 0, none⟩))) 0) 0 (.pointer (some ⟨b1, 0, none⟩)) (by as_aux_lemma => kernel_rfl) (by as_aux_lemma => kernel_rfl) (by as_aux_lemma => kernel_rfl) (fun _ _ _ _ _ h => h) (fun W hS => by clear hS hHeld; unfold cEv opC; as_aux_lemma => first | (go_simp; done) | (go_simp <;> rfl)) hHeld ?_
              refine takeO 18 110 (.fieldAddr 24 (.const (.pointer (some ⟨b1, 0, none⟩))) 1) 0 (.pointer (some ⟨b1, 1, none⟩)) (by as_aux_lemma => kernel_rfl) (by as_aux_lemma => kernel_rfl) (by as_aux_lemma => kernel_rfl) (fun _ _ _ _ _ h => h) (fun W hS => by clear hS hHeld; unfold cEv opC; as_aux_lemma => first | (go_simp; done) | (go_simp <;> rfl)) hHeld ?_
              refine takeO 15 107 (.load 3 (.const (.pointer (some ⟨b1, 2, none⟩)))) 3 (.int .i64 top) (by as_aux_lemma => kernel_rfl) (by as_aux_lemma => kernel_rfl) (by as_aux_lemma => kernel_rfl) (fun _ _ _ _ _ h => h) (fun W hS => by have z0 := hS.cells; obtain ⟨z1, z2, z3⟩ := z0; clear hS hHeld; unfold cEv opC; as_aux_lemma => first | (go_simp; done) | (go_simp <;> rfl)) hHeld ?_
              refine takeO 17 109 (.load 22 (.const (.pointer (some ⟨b1, 0, none⟩)))) 22 (.slice (some ad) nn cN) (by as_aux_lemma => kernel_rfl) (by as_aux_lemma => kernel_rfl) (by as_aux_lemma => kernel_rfl) (fun _ _ _ _ _ h => h) (fun W hS => by have z0 := hS.cells; obtain ⟨z1, z2, z3⟩ := z0; clear hS hHeld; unfold cEv opC; as_aux_lemma => first | (go_simp; done) | (go_simp <;> rfl)) hHeld ?_
              refine takeO 19 111 (.load 3 (.const (.pointer (some ⟨b1, 1, none⟩)))) 3 (.int .i64 (m : Int)) (by as_aux_lemma => kernel_rfl) (by as_aux_lemma => kernel_rfl) (by as_aux_lemma => kernel_rfl) (fun _ _ _ _ _ h => h) (fun W hS => by have z0 := hS.cells; obtain ⟨z1, z2, z3⟩ := z0; clear hS hHeld; unfold cEv opC; as_aux_lemma => first | (go_simp; done) | (go_simp <;> rfl)) hHeld ?_
              refine takeO 20 112 (.indexAddr 22 (.const (.slice (some ad) nn cN)) (.const (.int .i64 (m : Int)))) 0 (.pointer (some (ad.add (m * 7)))) (by as_aux_lemma => kernel_rfl) (by as_aux_lemma => kernel_rfl) (by as_aux_lemma => kernel_rfl) (fun _ _ _ _ _ h => h) (fun W hS => by have m0 : (0 : Int) ≤ m := (by omega); have m1 : (m : Int) < nn := (by have := HKn.out; omega); clear hS hHeld; unfold cEv opC; as_aux_lemma => first | (go_simp; done) | (go_simp <;> rfl)) hHeld ?_
              refine takeO 21 113 (.fieldAddr 53 (.const (.pointer (some (ad.add (m * 7))))) 1) 0 (.pointer (some ⟨(ad.add (m * 7)).block, (ad.add (m * 7)).off + 3, none⟩)) (by as_aux_lemma => kernel_rfl) (by as_aux_lemma => kernel_rfl) (by as_aux_lemma => kernel_rfl) (fun _ _ _ _ _ h => h) (fun W hS => by clear hS hHeld; unfold cEv opC; as_aux_lemma => first | (go_simp; done) | (go_simp <;> rfl)) hHeld ?_
              refine takeO 22 114 (.load 3 (.const (.pointer (some ⟨(ad.add (m * 7)).block, (ad.add (m * 7)).off + 3, none⟩)))) 3 (.int .i64 lv) (by as_aux_lemma => kernel_rfl) (by as_aux_lemma => kernel_rfl) (by as_aux_lemma => kernel_rfl) (fun _ _ _ _ _ h => h) (fun W hS => by have z0 := (hS.bel.cell (p := ⟨(ad.add (m * 7)).block, (ad.add (m * 7)).off + 3, none⟩) HBn.out).trans HC3.out; clear hS hHeld; unfold cEv opC; as_aux_lemma => first | (go_simp; done) | (go_simp <;> rfl)) hHeld ?_
              refine takeO 23 115 (.binOp .gtr 3 (.const (.int .i64 top)) (.const (.int .i64 lv)) 3) 4 (.bool true) (by as_aux_lemma => kernel_rfl) (by as_aux_lemma => kernel_rfl) (by as_aux_lemma => kernel_rfl) (fun _ _ _ _ _ h => h) (fun W hS => by have f2 := F2.out; clear hS hHeld; unfold cEv opC; as_aux_lemma => first | (go_simp; done) | (go_simp <;> rfl)) hHeld ?_
              refine putsO [24, 25] [25, 24] [(117, .bool true), (116, .bool true)] 2 rfl [116, 117] (by as_aux_lemma => kernel_rfl) (by as_aux_lemma => kernel_rfl) rfl (fun _ _ _ _ _ h => h) hHeld ?_
              refine doneO [(92, .bool false), (0, .bool true), (0, .bool true), (0, .agg #[.slice (some ad) nn cN, .int .i64 (m : Int), .int .i64 top]), (0, .pointer (some ⟨b1, 1, none⟩)), (0, .int .i64 (m : Int)), (0, .bool true), (0, .bool false), (0, .bool false), (0, .pointer (some ⟨b1, 2, none⟩)), (0, .int .i64 top), (0, .bool false), (0, .bool false), (0, .bool false), (0, .pointer (some ⟨b1, 2, none⟩)), (0, .int .i64 top), (0, .pointer (some ⟨b1, 0, none⟩)), (0, .slice (some ad) nn cN), (0, .pointer (some ⟨b1, 1, none⟩)), (0, .int .i64 (m : Int)), (0, .pointer (some (ad.add (m * 7)))), (0, .pointer (some ⟨(ad.add (m * 7)).block, (ad.add (m * 7)).off + 3, none⟩)), (0, .int .i64 lv), (0, .bool true), (0, .bool true), (0, .bool true)] (by as_aux_lemma => kernel_rfl) (by as_aux_lemma => kernel_rfl) ?_
              simp only [fillG]
              have HBe := hide hHeld
              clear hHeld
              go_wp2
              go_ret
              exact GivesC.bad HNo.out HBe.out.bel
            · have F2 := hide (show decide (lv < top) = false from decide_eq_false hb)
              have HY2 := hide (HYes.out (.inr ⟨HTh.out, by omega, by rw [HNF.out]; simp only; omega⟩))
              clear ht hb
              refine startO (S := (fun W => PlB w b1 #[.slice (some ad) nn cN, .int .i64 (m : Int), .int .i64 top] W)) 26 (by as_aux_lemma => kernel_rfl) (by as_aux_lemma => kernel_rfl) (HBp.out.step (Below.refl _ _).drew) (fun hHeld => ?_)
              clear HBp
              generalize hWd : World.drew _ = Wd at *
              clear hWd
              refine putsO [0, 1, 2] [2, 1, 0] [(94, .bool true), (93, .bool true), (92, .bool false)] 3 rfl [92, 93, 94] (by as_aux_lemma => kernel_rfl) (by as_aux_lemma => kernel_rfl) rfl (fun _ _ _ _ _ h => h) hHeld ?_
              refine takeO 3 95 (.load 24 (.const (.pointer (some ⟨b1, 0, none⟩)))) 24 (.agg #[.slice (some ad) nn cN, .int .i64 (m : Int), .int .i64 top]) (by as_aux_lemma => kernel_rfl) (by as_aux_lemma => kernel_rfl) (by as_aux_lemma => kernel_rfl) (fun _ _ _ _ _ h => h) (fun W hS => by have z0 := hS.cells; obtain ⟨z1, z2, z3⟩ := z0; clear hS hHeld; unfold cEv opC; as_aux_lemma => first | (go_simp; done) | (go_simp <;> rfl)) hHeld ?_
              refine takeO 4 96 (.fieldAddr 24 (.const (.pointer (some ⟨b1, 0, none⟩))) 1) 0 (.pointer (some ⟨b1, 1, none⟩)) (by as_aux_lemma => kernel_rfl) (by as_aux_lemma => kernel_rfl) (by as_aux_lemma => kernel_rfl) (fun _ _ _ _ _ h => h) (fun W hS => by clear hS hHeld; unfold cEv opC; as_aux_lemma => first | (go_simp; done) | (go_simp <;> rfl)) hHeld ?_
              refine takeO 5 97 (.load 3 (.const (.pointer (some ⟨b1, 1, none⟩)))) 3 (.int .i64 (m : Int)) (by as_aux_lemma => kernel_rfl) (by as_aux_lemma => kernel_rfl) (by as_aux_lemma => kernel_rfl) (fun _ _ _ _ _ h => h) (fun W hS => by have z0 := hS.cells; obtain ⟨z1, z2, z3⟩ := z0; clear hS hHeld; unfold cEv opC; as_aux_lemma => first | (go_simp; done) | (go_simp <;> rfl)) hHeld ?_
              refine readyO [6] (by as_aux_lemma => kernel_rfl) (by simp) ?_
              refine callO 6 98 (.call { callee := .value (.func 17), args := #[.const (.agg #[.slice (some ad) nn cN, .int .i64 (m : Int), .int .i64 top]), .const (.int .i64 (m : Int))], argTypes := #[24, 3] }) 4 17 #[.agg #[.slice (some ad) nn cN, .int .i64 (m : Int), .int .i64 top], .int .i64 (m : Int)] (by as_aux_lemma => kernel_rfl) (by as_aux_lemma => kernel_rfl) (by unfold cEv opC; go_simp) ?_ AllReadyH.nil
              refine (there_any (nn := nn) (cN := cN) (en := (m : Int)) (top := top) (HP.out.at_ hHeld.bel).nd HP.out.len (m : Int)).mono ?_
              rintro e w9 ⟨rfl, hb9⟩
              rw [HTh.out]
              refine ⟨_, rfl, (hHeld.step hb9), fun hHeld2 => ?_⟩
              clear hHeld
              have hHeld := hHeld2
              clear hHeld2
              clear hb9
              refine putsO [7, 8] [8, 7] [(100, .bool false), (99, .bool false)] 2 rfl [99, 100] (by as_aux_lemma => kernel_rfl) (by as_aux_lemma => kernel_rfl) rfl (fun _ _ _ _ _ h => h) hHeld ?_
              refine takeO 9 101 (.fieldAddr 24 (.const (.pointer (some ⟨b1, 0, none⟩))) 2) 0 (.pointer (some ⟨b1, 2, none⟩)) (by as_aux_lemma => kernel_rfl) (by as_aux_lemma => kernel_rfl) (by as_aux_lemma => kernel_rfl) (fun _ _ _ _ _ h => h) (fun W hS => by clear hS hHeld; unfold cEv opC; as_aux_lemma => first | (go_simp; done) | (go_simp <;> rfl)) hHeld ?_
              refine takeO 10 102 (.load 3 (.const (.pointer (some ⟨b1, 2, none⟩)))) 3 (.int .i64 top) (by as_aux_lemma => kernel_rfl) (by as_aux_lemma => kernel_rfl) (by as_aux_lemma => kernel_rfl) (fun _ _ _ _ _ h => h) (fun W hS => by have z0 := hS.cells; obtain ⟨z1, z2, z3⟩ := z0; clear hS hHeld; unfold cEv opC; as_aux_lemma => first | (go_simp; done) | (go_simp <;> rfl)) hHeld ?_
              refine takeO 11 103 (.binOp .lss 3 (.const (.int .i64 top)) (.const (.int .i64 0)) 3) 4 (.bool false) (by as_aux_lemma => kernel_rfl) (by as_aux_lemma => kernel_rfl) (by as_aux_lemma => kernel_rfl) (fun _ _ _ _ _ h => h) (fun W hS => by have f1 := F1.out; clear hS hHeld; unfold cEv opC; as_aux_lemma => first | (go_simp; done) | (go_simp <;> rfl)) hHeld ?_
              refine putsO [12, 13] [13, 12] [(105, .bool false), (104, .bool false)] 2 rfl [104, 105] (by as_aux_lemma => kernel_rfl) (by as_aux_lemma => kernel_rfl) rfl (fun _ _ _ _ _ h => h) hHeld ?_
              refine takeO 14 106 (.fieldAddr 24 (.const (.pointer (some ⟨b1, 0, none⟩))) 2) 0 (.pointer (some ⟨b1, 2, none⟩)) (by as_aux_lemma => kernel_rfl) (by as_aux_lemma => kernel_rfl) (by as_aux_lemma => kernel_rfl) (fun _ _ _ _ _ h => h) (fun W hS => by clear hS hHeld; unfold cEv opC; as_aux_lemma => first | (go_simp; done) | (go_simp <;> rfl)) hHeld ?_
              refine takeO 16 108 (.fieldAddr 24 (.const (.pointer (some ⟨b1, 0, none⟩))) 0) 0 (.pointer (some ⟨b1, 0, none⟩)) (by as_aux_lemma => kernel_rfl) (by as_aux_lemma => kernel_rfl) (by as_aux_lemma => kernel_rfl) (fun _ _ _ _ _ h => h) (fun W hS => by clear hS hHeld; unfold cEv opC; as_aux_lemma => first | (go_simp; done) | (go_simp <;> rfl)) hHeld ?_
              refine takeO 18 110 (.fieldAddr 24 (.const (.pointer (some ⟨b1, 0, none⟩))) 1) 0 (.pointer (some ⟨b1, 1, none⟩)) (by as_aux_lemma => kernel_rfl) (by as_aux_lemma => kernel_rfl) (by as_aux_lemma => kernel_rfl) (fun _ _ _ _ _ h => h) (fun W hS => by clear hS hHeld; unfold cEv opC; as_aux_lemma => first | (go_simp; done) | (go_simp <;> rfl)) hHeld ?_
              refine takeO 15 107 (.load 3 (.const (.pointer (some ⟨b1, 2, none⟩)))) 3 (.int .i64 top) (by as_aux_lemma => kernel_rfl) (by as_aux_lemma => kernel_rfl) (by as_aux_lemma => kernel_rfl) (fun _ _ _ _ _ h => h) (fun W hS => by have z0 := hS.cells; obtain ⟨z1, z2, z3⟩ := z0; clear hS hHeld; unfold cEv opC; as_aux_lemma => first | (go_simp; done) | (go_simp <;> rfl)) hHeld ?_
              refine takeO 17 109 (.load 22 (.const (.pointer (some ⟨b1, 0, none⟩)))) 22 (.slice (some ad) nn cN) (by as_aux_lemma => kernel_rfl) (by as_aux_lemma => kernel_rfl) (by as_aux_lemma => kernel_rfl) (fun _ _ _ _ _ h => h) (fun W hS => by have z0 := hS.cells; obtain ⟨z1, z2, z3⟩ := z0; clear hS hHeld; unfold cEv opC; as_aux_lemma => first | (go_simp; done) | (go_simp <;> rfl)) hHeld ?_
              refine takeO 19 111 (.load 3 (.const (.pointer (some ⟨b1, 1, none⟩)))) 3 (.int .i64 (m : Int)) (by as_aux_lemma => kernel_rfl) (by as_aux_lemma => kernel_rfl) (by as_aux_lemma => kernel_rfl) (fun _ _ _ _ _ h => h) (fun W hS => by have z0 := hS.cells; obtain ⟨z1, z2, z3⟩ := z0; clear hS hHeld; unfold cEv opC; as_aux_lemma => first | (go_simp; done) | (go_simp <;> rfl)) hHeld ?_
              refine takeO 20 112 (.indexAddr 22 (.const (.slice (some ad) nn cN)) (.const (.int .i64 (m : Int)))) 0 (.pointer (some (ad.add (m * 7)))) (by as_aux_lemma => kernel_rfl) (by as_aux_lemma => kernel_rfl) (by as_aux_lemma => kernel_rfl) (fun _ _ _ _ _ h => h) (fun W hS => by have m0 : (0 : Int) ≤ m := (by omega); have m1 : (m : Int) < nn := (by have := HKn.out; omega); clear hS hHeld; unfold cEv opC; as_aux_lemma => first | (go_simp; done) | (go_simp <;> rfl)) hHeld ?_
              refine takeO 21 113 (.fieldAddr 53 (.const (.pointer (some (ad.add (m * 7))))) 1) 0 (.pointer (some ⟨(ad.add (m * 7)).block, (ad.add (m * 7)).off + 3, none⟩)) (by as_aux_lemma => kernel_rfl) (by as_aux_lemma => kernel_rfl) (by as_aux_lemma => kernel_rfl) (fun _ _ _ _ _ h => h) (fun W hS => by clear hS hHeld; unfold cEv opC; as_aux_lemma => first | (go_simp; done) | (go_simp <;> rfl)) hHeld ?_
              refine takeO 22 114 (.load 3 (.const (.pointer (some ⟨(ad.add (m * 7)).block, (ad.add (m * 7)).off + 3, none⟩)))) 3 (.int .i64 lv) (by as_aux_lemma => kernel_rfl) (by as_aux_lemma => kernel_rfl) (by as_aux_lemma => kernel_rfl) (fun _ _ _ _ _ h => h) (fun W hS => by have z0 := (hS.bel.cell (p := ⟨(ad.add (m * 7)).block, (ad.add (m * 7)).off + 3, none⟩) HBn.out).trans HC3.out; clear hS hHeld; unfold cEv opC; as_aux_lemma => first | (go_simp; done) | (go_simp <;> rfl)) hHeld ?_
              refine takeO 23 115 (.binOp .gtr 3 (.const (.int .i64 top)) (.const (.int .i64 lv)) 3) 4 (.bool false) (by as_aux_lemma => kernel_rfl) (by as_aux_lemma => kernel_rfl) (by as_aux_lemma => kernel_rfl) (fun _ _ _ _ _ h => h) (fun W hS => by have f2 := F2.out; clear hS hHeld; unfold cEv opC; as_aux_lemma => first | (go_simp; done) | (go_simp <;> rfl)) hHeld ?_
              refine putsO [24, 25] [25, 24] [(117, .bool false), (116, .bool false)] 2 rfl [116, 117] (by as_aux_lemma => kernel_rfl) (by as_aux_lemma => kernel_rfl) rfl (fun _ _ _ _ _ h => h) hHeld ?_
              refine doneO [(92, .bool false), (0, .bool true), (0, .bool true), (0, .agg #[.slice (some ad) nn cN, .int .i64 (m : Int), .int .i64 top]), (0, .pointer (some ⟨b1, 1, none⟩)), (0, .int .i64 (m : Int)), (0, .bool true), (0, .bool false), (0, .bool false), (0, .pointer (some ⟨b1, 2, none⟩)), (0, .int .i64 top), (0, .bool false), (0, .bool false), (0, .bool false), (0, .pointer (some ⟨b1, 2, none⟩)), (0, .int .i64 top), (0, .pointer (some ⟨b1, 0, none⟩)), (0, .slice (some ad) nn cN), (0, .pointer (some ⟨b1, 1, none⟩)), (0, .int .i64 (m : Int)), (0, .pointer (some (ad.add (m * 7)))), (0, .pointer (some ⟨(ad.add (m * 7)).block, (ad.add (m * 7)).off + 3, none⟩)), (0, .int .i64 lv), (0, .bool false), (0, .bool false), (0, .bool false)] (by as_aux_lemma => kernel_rfl) (by as_aux_lemma => kernel_rfl) ?_
              simp only [fillG]
              have HBe := hide hHeld
              clear hHeld
              go_wp2
              go_ret
              exact GivesC.good HY2.out HBe.out.bel
end
end Go.Proofs.YtgiplahhalgbdaaGreat
