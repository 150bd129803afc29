/-
  The package walk: Step. Conditions: the slice of nodes reads as a list, its numbers are small.
-/
import Derived.Test.YtphbdffgeeicaadWlkE
import Derived.Test.YtphbdffgeeicaadRnkG
namespace Go.Proofs.Ytphbdffgeeicaad
set_option linter.unusedSimpArgs false
set_option linter.unusedVariables false
open Go.RowKit

theorem fcs_snocW (l : List Spt) (s : Spt) : fcs encS (l ++ [s]) = fcs encS l ++ [.int .u64 s.1.1, .int .u64 s.1.2, .int .i64 s.2] := by
  unfold fcs
  rw [List.flatMap_append]
  simp [encS]
/-- a plane and a vector that came in -/
structure PlW (w : World) (N : Option Addr) (nn : Nat) (ns : List NodeP) (Aq : Option Addr) (nq cq : Nat) (qs : List Int) : Prop where
  nd : Rd SNode w w.heap.size N ns
  len : ns.length = nn
  ok : ∀ x ∈ ns, OkN x
  sm : ∀ x ∈ ns, SmN x
  n20 : nn ≤ 20
  q : Rd (Sh.int .i32) w w.heap.size Aq qs
  lq : qs.length = nq
  c1 : nq ≤ cq
  c2 : cq ≤ 9223372036854775807
  qi : I32 qs
section
variable {w W W' : World} {N Aq : Option Addr} {nn cN nq cq : Nat} {ns : List NodeP} {en top : Int} {qs : List Int}
theorem PlW.at_ (h : PlW w N nn ns Aq nq cq qs) (hb : Below w.heap.size w W) : PlW W N nn ns Aq nq cq qs := ⟨h.nd.at_world hb, h.len, h.ok, h.sm, h.n20, h.q.at_world hb, h.lq, h.c1, h.c2, h.qi⟩
theorem PlW.spot (h : PlW w N nn ns Aq nq cq qs) (slot : Int) : Calls Try.prog 10 #[.agg #[.slice N nn cN, .int .i64 en, .int .i64 top], .slice Aq nq cq, .int .i64 slot] w fun e w' => e = .returned (.agg #[.int .u64 (spotF ns qs slot).1.1, .int .u64 (spotF ns qs slot).1.2, .int .i64 slot]) ∧ Below w.heap.size w w' :=
  wSpot_any h.nd h.len h.ok h.q h.lq h.c1 h.c2 h.qi slot
theorem kept_sm {l : List Int} {ns : List NodeP} {slot level : Int} (h : ∀ x ∈ ns, SmN x) : (nearF ns slot level).length ≤ 100 := by
  unfold nearF
  split
  · simp
  · split
    · rename_i x hx
      refine Nat.le_trans (kept_len _ _ _) ?_
      unfold rawF
      rw [List.length_append]
      have h1 : (if 0 < slot ∧ 0 ≤ level ∧ level < x.2.2.1.length then x.2.2.1[level.toNat]?.getD [] else []).length ≤ 80 := by
        split
        · cases e : x.2.2.1[level.toNat]? with
          | none => simp
          | some l => exact (h x (List.mem_of_getElem? hx)).2.2 l (List.mem_of_getElem? e)
        · simp
      have h2 : (if level = 0 then [x.2.2.2.1, x.2.2.2.2] else []).length ≤ 2 := by split <;> simp
      omega
    · simp
theorem srt_take1 {l : List Spt} {b : Spt} (h : (srtS l)[0]? = some b) {n : Nat} (hn : l.length = n) : (srtS l).take (lstN 1 n) = [b] := by
  have hl : lstN 1 n = 1 := by
    have : (srtS l).length = n := by rw [srtS_len, hn]
    have h0 := (List.getElem?_eq_some_iff.1 h).1
    unfold lstN
    have e : (1 : Int).toNat = 1 := rfl
    rw [e]
    omega
  rw [hl]
  cases e : srtS l with
  | nil => rw [e] at h; simp at h
  | cons a t => rw [e] at h; simp at h; subst h; simp
set_option maxHeartbeats 8000000 in
theorem step_any (h : PlW w N nn ns Aq nq cq qs) (slot level : Int) : Calls Try.prog 13 #[.agg #[.slice N nn cN, .int .i64 en, .int .i64 top], .slice Aq nq cq, .int .i64 slot, .int .i64 level] w fun e w' => e = .returned (.tuple #[.int .i64 (stepF ns qs slot level), .bool (stepF ns qs slot level != slot)]) ∧ Below w.heap.size w w' := by
  have hb1 := below1 w (.cells #[.slice N nn cN, .int .i64 en, .int .i64 top] 24)
  have HB1 := hide hb1
  have HP1 := hide (Blk.new w 24 #[.slice N nn cN, .int .i64 en, .int .i64 top])
  have HPl := hide h
  have HLn := hide (kept_sm (l := []) (slot := slot) (level := level) h.sm)
  obtain ⟨b, hb0, hbs, _, _⟩ := step_spec ns qs slot level
  have HBs := hide hb0
  have HBe := hide (show b.2 = stepF ns qs slot level by rw [hbs]; rfl)
  clear h hb1 hb0 hbs
  go_enter Try.func13, Try.ntmps13
  go_upto_region 1 with fail
  generalize World.alloc w _ = w1 at *
  obtain ⟨b4, hb4⟩ : ∃ b, w.heap.size = b := ⟨_, rfl⟩
  rw [hb4] at HP1
  rw [hb4]
  have Hb4 := hide hb4
  clear hb4
  have p0 := HP1.out.cell 0
  have p1 := HP1.out.cell 1
  have p2 := HP1.out.cell 2
  simp at p0 p1 p2
  have CS := hide (fun (W : World) (hb : Below w.heap.size w W) (s : Int) => (HPl.out.at_ hb).spot (cN := cN) (en := en) (top := top) s)
  go_upto_region 2 with (go_at_call 10; refine (CS.out _ HB1.out slot).mono ?_; rintro e w2 ⟨rfl, hb2⟩; have HB2 := hide (Below.step HB1.out hb2); have HP2 := hide (HP1.out.below hb2 HP1.out.lt); clear hb2)
  clear HP1 HB1 p0 p1 p2
  have HO3 := hide (show (w2.alloc (.cells #[.int .u64 (spotF ns qs slot).1.1, .int .u64 (spotF ns qs slot).1.2, .int .i64 slot] 37)).ownsRow w.heap.size 37 3 (.slice (some ⟨w2.heap.size, 0, none⟩) 1 1) 1 (fcs encS [spotF ns qs slot]) from World.ownsRow_lit (base := w.heap.size) (e := 37) (size := 3) w2 #[.int .u64 (spotF ns qs slot).1.1, .int .u64 (spotF ns qs slot).1.2, .int .i64 slot] 1 HB2.out.size (by decide) rfl)
  have HB3 := hide (Below.step HB2.out (below1 w2 (.cells #[.int .u64 (spotF ns qs slot).1.1, .int .u64 (spotF ns qs slot).1.2, .int .i64 slot] 37)))
  have HP3 := hide (HP2.out.alloc (.cells #[.int .u64 (spotF ns qs slot).1.1, .int .u64 (spotF ns qs slot).1.2, .int .i64 slot] 37))
  have Hlt := hide (show w2.heap.size < (w2.alloc (.cells #[.int .u64 (spotF ns qs slot).1.1, .int .u64 (spotF ns qs slot).1.2, .int .i64 slot] 37)).heap.size by simp)
  clear HP2 HB2
  generalize World.alloc w2 _ = w3 at *
  generalize w2.heap.size = g3 at *
  have p0 := HP3.out.cell 0
  have p1 := HP3.out.cell 1
  have p2 := HP3.out.cell 2
  simp at p0 p1 p2
  go_wp2_with (go_at_call 7; refine (near_any (cN := cN) (en := en) (top := top) (HPl.out.at_ HB3.out).nd HPl.out.len HPl.out.ok HPl.out.sm slot level).mono ?_; rintro e w4 ⟨A4, n4, c4, rfl, k1, k2, k3, hr4, hb4⟩; have HK1 := hide k1; have HR4 := hide hr4; have HB4 := hide (Below.step HB3.out hb4); have HP4 := hide (HP3.out.below hb4 HP3.out.lt); have HO4 := hide (own_keep HO3.out fun d hd => hb4.block d (HO3.out.lt d hd).2); have Hlo := hide (Nat.le_refl w3.heap.size); have Hsz := hide hb4.size; clear k1 hr4 hb4)
  clear p0 p1 p2 HP3 HB3 HO3
  have hn4 : n4 ≤ 100 := by have := HK1.out; have := HLn.out; omega
  go_loopw [10, 12, 24] (fun s _ i wr => ∃ (k c : Nat) (A : Option Addr), k ≤ n4 ∧ i = .int .i64 k ∧ s = .slice A (k + 1) c ∧ k + 1 ≤ c ∧ c ≤ 9223372036854775807 ∧ Hid (wr.ownsRow w.heap.size 37 3 (.slice A (k + 1) c) (k + 1) (fcs encS (spotF ns qs slot :: ((nearF ns slot level).take k).map (spotF ns qs)))) ∧ Hid (∀ d, (Value.slice A (k + 1) c).ownBlock = some d → d < w3.heap.size ∨ w4.heap.size ≤ d) ∧ Hid (RdR (Sh.int .i64) wr (Btw w3.heap.size w4.heap.size) A4 (nearF ns slot level)) ∧ Hid (Below w.heap.size w wr) ∧ Hid (w4.heap.size ≤ wr.heap.size) ∧ Hid (Blk wr b4 24 #[.slice N nn cN, .int .i64 en, .int .i64 top])) (fun _ _ i _ => n4 - (intOf i).toNat)
  case atStart => exact ⟨0, 1, _, by omega, rfl, rfl, by omega, by omega, hide (by simpa using HO4.out), hide (fun d hd => .inl (by simp [Value.ownBlock] at hd; rw [← hd]; exact Hlt.out)), HR4, HB4, hide (Nat.le_refl _), HP4⟩
  case round =>
    obtain ⟨k, c, A, hk, rfl, rfl, hc1, hc2, HO, HAp, HR, HB, HSz, HP⟩ := hrel
    clear HO4 HR4 HB4 HP4
    by_cases hlt : k < n4
    · obtain ⟨ad, y, rfl, _, hv, q0⟩ := RdR.cell HR.out (k := k) (by have := HK1.out; omega)
      have g0 : (0 : Int) ≤ k := by omega
      have g1 : (k : Int) < n4 := by omega
      have HV := hide hv
      clear hv
      have p0 := HP.out.cell 0
      have p1 := HP.out.cell 1
      have p2 := HP.out.cell 2
      simp at p0 p1 p2
      go_wp2_with (first
        | (go_at_call 10; refine (CS.out _ HB.out y).mono ?_; rintro e w5 ⟨rfl, hb5⟩; have HO5 := hide (own_keep HO.out fun d hd => hb5.block d (HO.out.lt d hd).2); have HB5 := hide (Below.step HB.out hb5); have HP5 := hide (HP.out.below hb5 HP.out.lt); have HR5 := hide (HR.out.below hb5 fun d hd => Nat.lt_of_lt_of_le hd.2 HSz.out); have HS5 := hide (Nat.le_trans HSz.out hb5.size); clear hb5)
        | (at_builtin; refine wpList_append_elem rfl (.tmp 28) (.tmp 33) 56 rfl w.heap.size Try.underlying56 info_spot rfl (by decide) (.slice A (k + 1) c) (k + 1) _ rfl HO5.out _ _ rfl rfl (by simp [Value.oneCell']) (by simp only [maxLen]; omega) (by omega) HB5.out.size ?_; intro v9 w9 hown9 hgr9 hat9; have HO9 := hide (show w9.ownsRow w.heap.size 37 3 v9 (k + 1 + 1) (fcs encS (spotF ns qs slot :: ((nearF ns slot level).take (k + 1)).map (spotF ns qs))) by rw [take_snocW HV.out, List.map_append, ← List.cons_append]; exact (by rw [show [y].map (spotF ns qs) = [spotF ns qs y] from rfl, fcs_snocW]; exact hown9)); have HB9 := hide (below_own HB5.out HO5.out HB5.out.size hgr9); have HA9 := hide (show ∀ d, v9.ownBlock = some d → d < w3.heap.size ∨ w4.heap.size ≤ d from fun d hd => hat9.elim (fun e => HAp.out d (e ▸ hd)) fun e => .inr (by rw [e] at hd; injection hd with hd; have := HS5.out; omega)); have HR9 := hide (HR5.out.keepBlocks fun d hd => hgr9.block d (Nat.lt_of_lt_of_le hd.2 HS5.out) fun e => (HAp.out d e.symm).elim (fun h => by have := hd.1; omega) fun h => by have := hd.2; omega); have HS9 := hide (Nat.le_trans HS5.out hgr9.size); have HP9 := hide (HP5.out.grown hgr9 fun e => own_blk_ne HO5.out HP5.out (by decide) e.symm); obtain ⟨A9, c9, rfl, l1, l2⟩ := own_form hown9; clear hown9 hgr9 hat9))
      go_roundw
      case rel => exact ⟨k + 1, c9, A9, by omega, by go_num, rfl, l1, l2, HO9, HA9, HR9, HB9, HS9, HP9⟩
      case measure => simp [intOf]; omega
    · obtain rfl : n4 = k := by omega
      have HL := hide (show (spotF ns qs slot :: ((nearF ns slot level).take n4).map (spotF ns qs)) = seenF ns qs slot level by unfold seenF; rw [List.take_of_length_le (by have := HK1.out; omega)])
      have HO2 := hide (show Rd SP wr wr.heap.size A (seenF ns qs slot level) from ((flatS.own (l := seenF ns qs slot level) (by rw [← HL.out]; exact HO.out)).rd fun d hd => hd.2))
      have HLs := hide (show (seenF ns qs slot level).length = n4 + 1 by unfold seenF; simp [HK1.out])
      have HLe : Hid (Calls Try.prog 21 #[.slice A (n4 + 1) c, .int .i64 1] wr fun e w7 => ∃ ad7 c7, e = .returned (.slice (some ad7) 1 c7) ∧ w7.cell? ⟨ad7.block, ad7.off + 2, none⟩ = some (.int .i64 (stepF ns qs slot level)) ∧ Below wr.heap.size wr w7) := by
        refine hide ((least_any A (n4 + 1) c 1 (seenF ns qs slot level) _ HO2.out HLs.out hc1 hc2 (by omega)).mono ?_)
        rintro e w7 ⟨v7, rfl, A7, n7, c7, rfl, m1, m2, m3, m4, m5⟩
        rw [srt_take1 HBs.out HLs.out] at m1 m4
        obtain rfl : 1 = n7 := m1
        obtain ⟨ad7, y7, e7, _, hv7, t0, t1, t2⟩ := RdR.scell m4 (k := 0) (by simp)
        obtain rfl : b = y7 := by simpa using hv7
        obtain rfl : A7 = some ad7 := e7
        rw [Nat.zero_mul, add_zero', HBe.out] at t2
        exact ⟨ad7, c7, rfl, t2, m5⟩
      go_wp2_with (go_at_call 21; refine (HLe.out).mono ?_; rintro e w7 ⟨ad7, c7, rfl, t2, m5⟩; have HB7 := hide (Below.step HB.out m5); clear m5)
      go_ret2
      exact ⟨by simp, HB7.out⟩
end
end Go.Proofs.Ytphbdffgeeicaad
