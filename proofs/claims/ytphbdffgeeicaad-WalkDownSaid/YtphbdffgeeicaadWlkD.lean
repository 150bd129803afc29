/-
  The package plane: Near. Conditions: the slice of nodes reads as a list, its numbers are small.
-/
import Derived.Test.YtphbdffgeeicaadWlkC
namespace Go.Proofs.Ytphbdffgeeicaad
set_option linter.unusedSimpArgs false
set_option linter.unusedVariables false
open Go.RowKit

/-- the nodes' numbers are numbers -/
structure OkN (x : NodeP) : Prop where
  v : I32 x.1.2.1
  l : ∀ l ∈ x.2.2.1, ∀ y ∈ l, (Lit.int .i64 y).wf = true
  n : (Lit.int .i64 x.2.2.2.1).wf = true
  p : (Lit.int .i64 x.2.2.2.2).wf = true
/-- the nodes' lists are small -/
def SmN (x : NodeP) : Prop := x.2.2.1.length ≤ 10 ∧ x.1.2.1.length ≤ 50 ∧ ∀ l ∈ x.2.2.1, l.length ≤ 80
theorem own_lowW {w : World} {base base' : Nat} {e : TypeId} {k n : Nat} {v : Value} {xs : List Value} (h : w.ownsRow base e k v n xs) (hb : base' ≤ base) : w.ownsRow base' e k v n xs :=
  ⟨h.1, h.2.imp id fun ⟨g, cap, cur, a, b, c⟩ => ⟨g, cap, cur, a, Nat.le_trans hb b, c⟩⟩
theorem own_or {w : World} {base n : Nat} {v : Value} {l : List Int} (h : w.ownsRow base 3 1 v n (fcs encI l)) : (v = .slice none 0 0 ∧ n = 0 ∧ l = []) ∨ ∃ g cap, v = .slice (some ⟨g, 0, none⟩) n cap ∧ RowN w base g n cap l ∧ n ≤ cap ∧ cap ≤ 9223372036854775807 := by
  rcases h.2 with ⟨rfl, hn⟩ | ⟨g, cap, cur, rfl, h1, h2, h3, h4, h5⟩
  · have hl := h.1
    subst hn
    rw [fcsI, List.length_map] at hl
    exact .inl ⟨rfl, rfl, List.eq_nil_of_length_eq_zero (by omega)⟩
  · exact .inr ⟨g, cap, rfl, h, h3, by simpa [maxLen] using h4⟩
set_option maxHeartbeats 1000000 in
theorem cloneW_any (A : Option Addr) (n c : Nat) (l : List Int) (w : World) (hx : Rd (Sh.int .i64) w w.heap.size A l) (hn : l.length = n) (hc : n ≤ c) (hm : c ≤ 9223372036854775807) (h6 : n ≤ 1000000) :
    Calls Try.prog 15 #[.slice A n c] w fun e w' => ∃ v, e = .returned v ∧ w'.ownsRow w.heap.size 3 1 v n (fcs encI l) ∧ Below w.heap.size w w' := by
  have he := fun (W : World) (a : Option Addr) (n c : Nat) => Lib.run_eql_slice_nil (P := Try.prog) W 28 3 a n c 0 0 Try.underlying28
  rcases A with _ | ad
  · have hl : l = [] := by
      rcases l with _ | ⟨x, l⟩
      · rfl
      · obtain ⟨_, h, _⟩ := hx (by simp)
        cases h
    subst hl
    obtain rfl : n = 0 := by simpa using hn.symm
    go_enter Try.func15, Try.ntmps15
    go_wp2
    go_ret
    exact ⟨_, rfl, ⟨rfl, .inl ⟨rfl, rfl⟩⟩, Below.refl _ _⟩
  · have HB := hide (below1 w (.cells #[] 3))
    have HR := hide (flatI.reads (fun _ h => h) (hx.alloc (Nat.le_refl _) (.cells #[] 3)) hn)
    have HO := hide (own_start w 3 1)
    obtain ⟨i1, hi1, hz1⟩ := Option.map_eq_some_iff.1 info_intE
    simp only [Prod.mk.injEq] at hz1
    have HI := hide hi1
    have HZ := hide hz1.1
    have HS := hide hz1.2.1
    have HY := hide hz1.2.2
    clear hx hn hi1 hz1
    go_enter Try.func15, Try.ntmps15
    go_wp2_with (at_builtin; refine wpList_append_any _ rfl _ _ 28 rfl w.heap.size 3 i1 _ 1 8 Try.underlying28 HI.out HZ.out HS.out HY.out rfl (by decide) _ 0 [] rfl HO.out _ (some ad) n c (fcs encI l) rfl HR.out (flatI.ones l) (by simp only [maxLen]; omega) (by omega) HB.out.size ?_; intro v' w9 hown9 hgr9 _; have HO9 := hide hown9; have HB9 := hide (below_own HB.out HO.out HB.out.size hgr9); clear hown9 hgr9)
    all_goals go_ret
    all_goals exact ⟨_, rfl, by have h := HO9.out; rwa [Nat.zero_add] at h, HB9.out⟩
set_option maxHeartbeats 1000000 in
theorem deleteNil_any (b3 b9 : Nat) (w : World) : Calls Try.prog 16 #[.slice none 0 0, .func (.func 17) #[] #[.pointer (some ⟨b9, 0, none⟩), .pointer (some ⟨b3, 0, none⟩)]] w fun e w' => e = .returned (.slice none 0 0) ∧ w = w' := by
  have HI : ∀ W : World, Calls Try.prog 22 #[.slice none 0 0, .func (.func 17) #[] #[.pointer (some ⟨b9, 0, none⟩), .pointer (some ⟨b3, 0, none⟩)]] W fun e w' => e = .returned (.int .i64 (-1)) ∧ W = w' := fun W => by
    go_enter Try.func22, Try.ntmps22
    go_wp2
    go_loopw [5, 8] (fun _ i wr => i = .int .i64 0 ∧ wr = W) (fun _ _ _ => 0)
    case atStart => exact ⟨rfl, rfl⟩
    case round =>
      obtain ⟨rfl, rfl⟩ := hrel
      go_wp2
      go_ret
      exact ⟨rfl, rfl⟩
  go_enter Try.func16, Try.ntmps16
  go_wp2_with (go_at_call 22; refine (HI _).mono ?_; rintro e _ ⟨rfl, rfl⟩)
  go_ret
  exact ⟨rfl, rfl⟩
theorem near_start {w W : World} {b3 : Nat} {cs : Array Value} {N : Option Addr} {ns : List NodeP} (hb : Below w.heap.size w W) (p : Blk W b3 24 cs) (hx : Rd SNode w w.heap.size N ns) : NrW w b3 (W.heap.size + 1) W.heap.size cs N ns [] ((W.alloc (.map #[] 0)).alloc (.cells #[.map (some W.heap.size)] 51)) := by
  have hb2 : Below w.heap.size w ((W.alloc (.map #[] 0)).alloc (.cells #[.map (some W.heap.size)] 51)) := (hb.alloc hb.size _).alloc (by have := hb.size; simp; omega) _
  refine ⟨hb2, (p.alloc _).alloc _, ?_, ?_, hx.below hb2 (Nat.le_refl _), hb.size⟩
  · have := Blk.new (W.alloc (.map #[] 0)) 51 #[.map (some W.heap.size)]
    simpa using this
  · exact MapA.block (MapA.new W) (Below.heap_alloc _ _ _ (by simp))
/-- what Near gives -/
def GivesN (w : World) (l : List Int) (e : Ending) (w' : World) : Prop := ∃ A n c, e = .returned (.slice A n c) ∧ l.length = n ∧ n ≤ c ∧ c ≤ 9223372036854775807 ∧ RdR (Sh.int .i64) w' (Btw w.heap.size w'.heap.size) A l ∧ Below w.heap.size w w'
theorem GivesN.row {w w' : World} {g n cap : Nat} {l : List Int} (hR : RowN w' w.heap.size g n cap l) (hb : Below w.heap.size w w') : GivesN w l (.returned (.slice (some ⟨g, 0, none⟩) n cap)) w' := by
  obtain ⟨h0, cur, h1, h2, h3, h4, h5⟩ := hR.blk
  exact ⟨_, _, _, rfl, hR.len, h4, by simpa [maxLen] using h5, hR.rdr ⟨h0, hR.lt⟩, hb⟩
section
variable {w : World} {N : Option Addr} {nn cN : Nat} {ns : List NodeP} {en top : Int}
set_option maxHeartbeats 8000000 in
theorem near_any (hx : Rd SNode w w.heap.size N ns) (hn : ns.length = nn) (hok : ∀ x ∈ ns, OkN x) (hsm : ∀ x ∈ ns, SmN x) (slot level : Int) : Calls Try.prog 7 #[.agg #[.slice N nn cN, .int .i64 en, .int .i64 top], .int .i64 slot, .int .i64 level] w (GivesN w (nearF ns slot level)) := by
  have hb1 := below1 w (.cells #[.slice N nn cN, .int .i64 en, .int .i64 top] 24)
  have HB1 := hide hb1
  have HP1 := hide (Blk.new w 24 #[.slice N nn cN, .int .i64 en, .int .i64 top])
  have HX := hide hx
  have Hn := hide hn
  by_cases hout : slot < 0 ∨ (nn : Int) ≤ slot
  · have HF := hide (show nearF ns slot level = [] by unfold nearF; rw [if_pos (by rw [hn]; exact hout)])
    clear hb1 hx hn
    have HG := hide (show GivesN w [] (.returned (.slice none 0 0)) (w.alloc (.cells #[.slice N nn cN, .int .i64 en, .int .i64 top] 24)) from ⟨none, 0, 0, rfl, rfl, by omega, by omega, RdR.nil, HB1.out⟩)
    rw [HF.out]
    by_cases h0 : slot < 0
    · have b0 : decide (slot < 0) = true := decide_eq_true h0
      go_enter Try.func7, Try.ntmps7
      go_wp2
      go_ret
      exact HG.out
    · have b0 : decide (slot < 0) = false := decide_eq_false h0
      have h1 : (nn : Int) ≤ slot := by omega
      have b1 : decide ((nn : Int) ≤ slot) = true := decide_eq_true h1
      go_enter Try.func7, Try.ntmps7
      go_wp2
      go_ret
      exact HG.out
  obtain ⟨k, rfl⟩ : ∃ k : Nat, slot = k := ⟨slot.toNat, by omega⟩
  have hk0 : (0 : Int) ≤ k := by omega
  have hk1 : (k : Int) < nn := by omega
  have b0 : decide ((k : Int) < 0) = false := decide_eq_false (by omega)
  have b1 : decide ((nn : Int) ≤ k) = false := decide_eq_false (by omega)
  obtain ⟨ad, x, V, cV, L, cL, rfl, hbl, hkx, hc⟩ := hx.node (k := k) (by omega)
  have HOk := hide (hok x (List.mem_of_getElem? hkx))
  have HSm := hide (hsm x (List.mem_of_getElem? hkx))
  have HF := hide (show nearF ns k level = kept ns (rawF x k level) (rawF x k level).length by
    unfold nearF
    rw [if_neg (by rw [hn]; exact hout), show ((k : Int)).toNat = k by omega, hkx])
  have HC := hide hc
  have hcell : ∀ p : Addr, p.block = ad.block → (w.alloc (.cells #[.slice (some ad) nn cN, .int .i64 en, .int .i64 top] 24)).cell? p = w.cell? p := fun p hp => hb1.cell (by rw [hp]; exact hbl)
  have hba : (ad.add (k * 7)).block = ad.block := block_of_add _ _
  have c0 := (hcell _ hba).trans hc.c0
  have c1 := (hcell ⟨(ad.add (k * 7)).block, (ad.add (k * 7)).off + 1, none⟩ hba).trans hc.c1
  have c2 := (hcell ⟨(ad.add (k * 7)).block, (ad.add (k * 7)).off + 2, none⟩ hba).trans hc.c2
  have c3 := (hcell ⟨(ad.add (k * 7)).block, (ad.add (k * 7)).off + 3, none⟩ hba).trans hc.c3
  have c4 := (hcell ⟨(ad.add (k * 7)).block, (ad.add (k * 7)).off + 4, none⟩ hba).trans hc.c4
  have c5 := (hcell ⟨(ad.add (k * 7)).block, (ad.add (k * 7)).off + 5, none⟩ hba).trans hc.c5
  have c6 := (hcell ⟨(ad.add (k * 7)).block, (ad.add (k * 7)).off + 6, none⟩ hba).trans hc.c6
  rw [HF.out]
  obtain ⟨⟨id, vs, tg⟩, lv, ls, nx, pv⟩ := x
  simp only at c0 c1 c2 c3 c4 c5 c6
  clear hx hn hok hsm hout hc hcell hba hb1 hkx hbl
  have hmm := @run_makeMap Try.prog
  go_enter Try.func7, Try.ntmps7
  go_upto_region 4 with fail
  have HB2 := hide (Below.step HB1.out (below1 (w.alloc (.cells #[.slice (some ad) nn cN, .int .i64 en, .int .i64 top] 24)) (.cells #[.int .u64 id, .slice V vs.length cV, .int .u64 tg, .int .i64 lv, .slice L ls.length cL, .int .i64 nx, .int .i64 pv] 47)))
  have HP2 := hide (HP1.out.alloc (.cells #[.int .u64 id, .slice V vs.length cV, .int .u64 tg, .int .i64 lv, .slice L ls.length cL, .int .i64 nx, .int .i64 pv] 47))
  have HN2 := hide (show Blk ((w.alloc (.cells #[.slice (some ad) nn cN, .int .i64 en, .int .i64 top] 24)).alloc (.cells #[.int .u64 id, .slice V vs.length cV, .int .u64 tg, .int .i64 lv, .slice L ls.length cL, .int .i64 nx, .int .i64 pv] 47)) (w.heap.size + 1) 47 #[.int .u64 id, .slice V vs.length cV, .int .u64 tg, .int .i64 lv, .slice L ls.length cL, .int .i64 nx, .int .i64 pv] by have := Blk.new (w.alloc (.cells #[.slice (some ad) nn cN, .int .i64 en, .int .i64 top] 24)) 47 #[.int .u64 id, .slice V vs.length cV, .int .u64 tg, .int .i64 lv, .slice L ls.length cL, .int .i64 nx, .int .i64 pv]; simpa using this)
  clear c0 c1 c2 c3 c4 c5 c6 HB1 HP1
  generalize World.alloc (World.alloc w _) _ = W2 at *
  generalize w.heap.size + 1 = g2 at *
  obtain ⟨b3, hb3⟩ : ∃ b, w.heap.size = b := ⟨_, rfl⟩
  rw [hb3] at HP2
  rw [hb3]
  have Hb3 := hide hb3
  clear hb3
  have d4 := HN2.out.cell 4
  have d5 := HN2.out.cell 5
  have d6 := HN2.out.cell 6
  simp at d4 d5 d6
  by_cases hin : 0 < (k : Int) ∧ 0 ≤ level ∧ level < ls.length
  · obtain ⟨hk2, hlv, hll⟩ := hin
    obtain ⟨lev, rfl⟩ : ∃ m : Nat, level = m := ⟨level.toNat, by omega⟩
    have e0 : decide (0 < (k : Int)) = true := decide_eq_true hk2
    have e1 : decide (0 ≤ (lev : Int)) = true := decide_eq_true hlv
    have e2 : decide ((lev : Int) < ls.length) = true := decide_eq_true hll
    obtain ⟨adL, li, Li, cLi, hAL, hbL, hli, q0, q1, q2, hrl⟩ := RdR.slc HC.out.l (k := lev) (show lev < ls.length by omega)
    obtain rfl : L = some adL := hAL
    have HLi := hide hli
    have q0' : W2.cell? (adL.add lev) = some (.slice Li li.length cLi) := (HB2.out.cell (by rw [block_of_add]; exact hbL)).trans q0
    have HRl := hide (show Rd (Sh.int .i64) W2 W2.heap.size Li li from Rd.at_world hrl HB2.out)
    have hl80 : li.length ≤ 80 := HSm.out.2.2 li (List.mem_of_getElem? hli)
    have HWl := hide (fun y hy => HOk.out.l li (List.mem_of_getElem? hli) y hy)
    clear hli q0 hrl hbL
    go_upto_region 7 with (go_at_call 15; refine (cloneW_any Li li.length cLi li _ HRl.out rfl q1 q2 (by omega)).mono ?_; rintro e w3 ⟨v3, rfl, ho3, hb3⟩; have HB3 := hide (Below.step HB2.out hb3); have HPp := hide (HP2.out.below hb3 HP2.out.lt); have HPn := hide (HN2.out.below hb3 HN2.out.lt); have HO3 := hide (own_lowW ho3 HB2.out.size); clear ho3 hb3)
    clear q0' HRl HP2 HN2 HB2 d4 d5 d6
    obtain ⟨A3, c3, rfl, k31, k32⟩ := own_form HO3.out
    by_cases hl0 : lev = 0
    · have el : ((lev : Int) == 0) = true := by rw [hl0]; rfl
      have HT := hide (show rawF ((id, vs, tg), lv, ls, nx, pv) k (lev : Int) = li ++ [nx, pv] by unfold rawF; rw [if_pos ⟨hk2, hlv, hll⟩, if_pos (show (lev : Int) = 0 by omega), show ((lev : Int)).toNat = lev by omega, HLi.out]; rfl)
      have HWf := hide (show ∀ x ∈ li ++ [nx, pv], (Lit.int .i64 x).wf = true from fun y hy => (List.mem_append.1 hy).elim (HWl.out y) fun h => by
        rcases List.mem_cons.1 h with rfl | h
        · exact HOk.out.n
        · rw [List.mem_singleton.1 h]; exact HOk.out.p)
      have HLn := hide (show (li ++ [nx, pv]).length ≤ 1000 by simp; omega)
      go_upto_region 8 with fail
      have d5 := HPn.out.cell 5
      have d6 := HPn.out.cell 6
      simp at d5 d6
      have HLit := hide (Blk.new w3 3 #[.int .i64 nx, .int .i64 pv])
      have HRl := hide (show Rd (Sh.int .i64) (w3.alloc (.cells #[.int .i64 nx, .int .i64 pv] 3)) (w3.alloc (.cells #[.int .i64 nx, .int .i64 pv] 3)).heap.size (some ⟨w3.heap.size, 0, none⟩) [nx, pv] from flatI.blk (l := [nx, pv]) HLit.out rfl)
      have HOa := hide (HO3.out.alloc _ : (w3.alloc (.cells #[.int .i64 nx, .int .i64 pv] 3)).ownsRow w.heap.size 3 1 _ li.length (fcs encI li))
      have HBa := hide (HB3.out.alloc HB3.out.size (.cells #[.int .i64 nx, .int .i64 pv] 3))
      have HPa := hide (HPp.out.alloc (.cells #[.int .i64 nx, .int .i64 pv] 3))
      have HSa := hide (show w.heap.size ≤ (w3.alloc (.cells #[.int .i64 nx, .int .i64 pv] 3)).heap.size from HBa.out.size)
      go_upto_region 9 with (at_builtin; refine wpList_append_ints rfl (.tmp 45) (.tmp 50) 28 rfl w.heap.size Try.underlying28 info_intE rfl _ _ _ rfl HOa.out _ _ 2 2 [nx, pv] rfl HRl.out rfl (by simp only [maxLen]; omega) (by omega) HSa.out ?_; intro v9 w9 hown9 hgr9 hat9; have HB := hide (below_own HBa.out HOa.out HSa.out hgr9); have HPq := hide (HPa.out.grown hgr9 (fun e => own_blk_ne HOa.out HPa.out (by decide) e.symm)); have HO := hide (show w9.ownsRow w.heap.size 3 1 v9 (li.length + 2) (fcs encI (li ++ [nx, pv])) by rw [fcsI]; simpa [fcsI] using hown9); obtain ⟨A9, c9, rfl, k1, k2⟩ := own_form HO.out; clear hown9 hgr9 hat9)
      clear HOa HBa HPa HSa
      clear HLit HRl
      have HS := hide (near_start HB.out HPq.out HX.out)
      rcases own_or HO.out with ⟨hv, hn0, ht0⟩ | ⟨g, cap, hv, hR, hnc, hcm⟩
      · exact absurd hn0 (by omega)
      · rw [hv]
        clear hv
        have HI := hide (show IxW w b3 (w9.heap.size + 1) w9.heap.size #[.slice (some ad) nn cN, .int .i64 en, .int .i64 top] (some ad) ns g _ _ (li ++ [nx, pv]) 0 ((w9.alloc (.map #[] 0)).alloc (.cells #[.map (some w9.heap.size)] 51)) from ⟨⟨[], HS.out, CntM.nil⟩, (hR.below (below1 _ _) hR.lt).below (below1 _ _) (by have := hR.lt; simp; omega), rfl⟩)
        have Hl := hide hR.len
        clear hR HS
        go_wp2_with (go_at_call 16; refine (deleteNear_any HI.out rfl Hn.out HWf.out HLn.out hcm hnc).mono ?_; rintro e W9 ⟨rfl, hr9, hb9⟩; have HG := hide (GivesN.row hr9 hb9); clear hr9 hb9)
        go_ret
        have hle := Hl.out
        rw [HT.out]
        first
          | (rw [hle]; exact HG.out)
          | exact HG.out
    · have el : ((lev : Int) == 0) = false := by rw [beq_eq_false_iff_ne]; omega
      have HT := hide (show rawF ((id, vs, tg), lv, ls, nx, pv) k (lev : Int) = li by unfold rawF; rw [if_pos ⟨hk2, hlv, hll⟩, if_neg (by omega), show ((lev : Int)).toNat = lev by omega, HLi.out, List.append_nil]; rfl)
      have HWf := hide (show ∀ x ∈ li, (Lit.int .i64 x).wf = true from HWl.out)
      have HLn := hide (show li.length ≤ 1000 by omega)
      go_upto_region 9 with fail
      have HB := hide HB3.out
      have HPq := hide HPp.out
      have HO := hide HO3.out
      have HS := hide (near_start HB.out HPq.out HX.out)
      rcases own_or HO.out with ⟨hv, hn0, ht0⟩ | ⟨g, cap, hv, hR, hnc, hcm⟩
      · rw [hv]
        clear hv
        have HT0 := hide ht0
        have HB9 := hide HS.out.bel
        clear ht0
        go_wp2_with (go_at_call 16; refine (deleteNil_any _ _ _).mono ?_; rintro e _ ⟨rfl, rfl⟩)
        go_ret
        rw [HT.out, HT0.out]
        exact ⟨none, 0, 0, rfl, rfl, by omega, by omega, RdR.nil, HB9.out⟩
      · rw [hv]
        clear hv
        have HI := hide (show IxW w b3 (w3.heap.size + 1) w3.heap.size #[.slice (some ad) nn cN, .int .i64 en, .int .i64 top] (some ad) ns g _ _ li 0 ((w3.alloc (.map #[] 0)).alloc (.cells #[.map (some w3.heap.size)] 51)) from ⟨⟨[], HS.out, CntM.nil⟩, (hR.below (below1 _ _) hR.lt).below (below1 _ _) (by have := hR.lt; simp; omega), rfl⟩)
        have Hl := hide hR.len
        clear hR HS
        go_wp2_with (go_at_call 16; refine (deleteNear_any HI.out rfl Hn.out HWf.out HLn.out hcm hnc).mono ?_; rintro e W9 ⟨rfl, hr9, hb9⟩; have HG := hide (GivesN.row hr9 hb9); clear hr9 hb9)
        go_ret
        have hle := Hl.out
        rw [HT.out]
        first
          | (rw [hle]; exact HG.out)
          | exact HG.out
  · have HT1 := hide (show rawF ((id, vs, tg), lv, ls, nx, pv) k level = (if level = 0 then [nx, pv] else []) by unfold rawF; rw [if_neg hin, List.nil_append])
    have HB3 := hide HB2.out
    have HPp := hide HP2.out
    have HPn := hide HN2.out
    by_cases hl0 : level = 0
    · subst hl0
      have HT := hide (show rawF ((id, vs, tg), lv, ls, nx, pv) k 0 = [nx, pv] by rw [HT1.out, if_pos rfl])
      have HWf := hide (show ∀ x ∈ [nx, pv], (Lit.int .i64 x).wf = true from fun y h => by
        rcases List.mem_cons.1 h with rfl | h
        · exact HOk.out.n
        · rw [List.mem_singleton.1 h]; exact HOk.out.p)
      have HLn := hide (show [nx, pv].length ≤ 1000 by simp)
      have hdd : (if 0 < (k : Int) then decide ((0 : Int) < ls.length) else false) = false := by
        split
        · exact decide_eq_false (by omega)
        · rfl
      by_cases hk2 : 0 < (k : Int)
      · have e0 : decide (0 < (k : Int)) = true := decide_eq_true hk2
        have e2 : decide ((0 : Int) < ls.length) = false := decide_eq_false (by omega)
        go_upto_region 8 with fail
        have d5 := HPn.out.cell 5
        have d6 := HPn.out.cell 6
        simp at d5 d6
        have HLit := hide (Blk.new W2 3 #[.int .i64 nx, .int .i64 pv])
        have HRl := hide (show Rd (Sh.int .i64) (W2.alloc (.cells #[.int .i64 nx, .int .i64 pv] 3)) (W2.alloc (.cells #[.int .i64 nx, .int .i64 pv] 3)).heap.size (some ⟨W2.heap.size, 0, none⟩) [nx, pv] from flatI.blk (l := [nx, pv]) HLit.out rfl)
        have HOa := hide (World.ownsRow_nil _ _ _ _ : (W2.alloc (.cells #[.int .i64 nx, .int .i64 pv] 3)).ownsRow w.heap.size 3 1 _ 0 [])
        have HBa := hide (HB3.out.alloc HB3.out.size (.cells #[.int .i64 nx, .int .i64 pv] 3))
        have HPa := hide (HPp.out.alloc (.cells #[.int .i64 nx, .int .i64 pv] 3))
        have HSa := hide (show w.heap.size ≤ (W2.alloc (.cells #[.int .i64 nx, .int .i64 pv] 3)).heap.size from HBa.out.size)
        go_upto_region 9 with (at_builtin; refine wpList_append_ints rfl (.tmp 45) (.tmp 50) 28 rfl w.heap.size Try.underlying28 info_intE rfl _ _ _ rfl HOa.out _ _ 2 2 [nx, pv] rfl HRl.out rfl (by simp only [maxLen]; omega) (by omega) HSa.out ?_; intro v9 w9 hown9 hgr9 hat9; have HB := hide (below_own HBa.out HOa.out HSa.out hgr9); have HPq := hide (HPa.out.grown hgr9 (fun e => own_blk_ne HOa.out HPa.out (by decide) e.symm)); have HO := hide (show w9.ownsRow w.heap.size 3 1 v9 (0 + 2) (fcs encI [nx, pv]) by rw [fcsI]; simpa [fcsI] using hown9); obtain ⟨A9, c9, rfl, k1, k2⟩ := own_form HO.out; clear hown9 hgr9 hat9)
        clear HOa HBa HPa HSa
        clear HLit HRl
        have HS := hide (near_start HB.out HPq.out HX.out)
        rcases own_or HO.out with ⟨hv, hn0, ht0⟩ | ⟨g, cap, hv, hR, hnc, hcm⟩
        · exact absurd hn0 (by omega)
        · rw [hv]
          clear hv
          have HI := hide (show IxW w b3 (w9.heap.size + 1) w9.heap.size #[.slice (some ad) nn cN, .int .i64 en, .int .i64 top] (some ad) ns g _ _ [nx, pv] 0 ((w9.alloc (.map #[] 0)).alloc (.cells #[.map (some w9.heap.size)] 51)) from ⟨⟨[], HS.out, CntM.nil⟩, (hR.below (below1 _ _) hR.lt).below (below1 _ _) (by have := hR.lt; simp; omega), rfl⟩)
          have Hl := hide hR.len
          clear hR HS
          go_wp2_with (go_at_call 16; refine (deleteNear_any HI.out rfl Hn.out HWf.out HLn.out hcm hnc).mono ?_; rintro e W9 ⟨rfl, hr9, hb9⟩; have HG := hide (GivesN.row hr9 hb9); clear hr9 hb9)
          go_ret
          have hle := Hl.out
          rw [HT.out]
          first
            | (rw [hle]; exact HG.out)
            | exact HG.out
      · have e0 : decide (0 < (k : Int)) = false := decide_eq_false hk2
        go_upto_region 8 with fail
        have d5 := HPn.out.cell 5
        have d6 := HPn.out.cell 6
        simp at d5 d6
        have HLit := hide (Blk.new W2 3 #[.int .i64 nx, .int .i64 pv])
        have HRl := hide (show Rd (Sh.int .i64) (W2.alloc (.cells #[.int .i64 nx, .int .i64 pv] 3)) (W2.alloc (.cells #[.int .i64 nx, .int .i64 pv] 3)).heap.size (some ⟨W2.heap.size, 0, none⟩) [nx, pv] from flatI.blk (l := [nx, pv]) HLit.out rfl)
        have HOa := hide (World.ownsRow_nil _ _ _ _ : (W2.alloc (.cells #[.int .i64 nx, .int .i64 pv] 3)).ownsRow w.heap.size 3 1 _ 0 [])
        have HBa := hide (HB3.out.alloc HB3.out.size (.cells #[.int .i64 nx, .int .i64 pv] 3))
        have HPa := hide (HPp.out.alloc (.cells #[.int .i64 nx, .int .i64 pv] 3))
        have HSa := hide (show w.heap.size ≤ (W2.alloc (.cells #[.int .i64 nx, .int .i64 pv] 3)).heap.size from HBa.out.size)
        go_upto_region 9 with (at_builtin; refine wpList_append_ints rfl (.tmp 45) (.tmp 50) 28 rfl w.heap.size Try.underlying28 info_intE rfl _ _ _ rfl HOa.out _ _ 2 2 [nx, pv] rfl HRl.out rfl (by simp only [maxLen]; omega) (by omega) HSa.out ?_; intro v9 w9 hown9 hgr9 hat9; have HB := hide (below_own HBa.out HOa.out HSa.out hgr9); have HPq := hide (HPa.out.grown hgr9 (fun e => own_blk_ne HOa.out HPa.out (by decide) e.symm)); have HO := hide (show w9.ownsRow w.heap.size 3 1 v9 (0 + 2) (fcs encI [nx, pv]) by rw [fcsI]; simpa [fcsI] using hown9); obtain ⟨A9, c9, rfl, k1, k2⟩ := own_form HO.out; clear hown9 hgr9 hat9)
        clear HOa HBa HPa HSa
        clear HLit HRl
        have HS := hide (near_start HB.out HPq.out HX.out)
        rcases own_or HO.out with ⟨hv, hn0, ht0⟩ | ⟨g, cap, hv, hR, hnc, hcm⟩
        · exact absurd hn0 (by omega)
        · rw [hv]
          clear hv
          have HI := hide (show IxW w b3 (w9.heap.size + 1) w9.heap.size #[.slice (some ad) nn cN, .int .i64 en, .int .i64 top] (some ad) ns g _ _ [nx, pv] 0 ((w9.alloc (.map #[] 0)).alloc (.cells #[.map (some w9.heap.size)] 51)) from ⟨⟨[], HS.out, CntM.nil⟩, (hR.below (below1 _ _) hR.lt).below (below1 _ _) (by have := hR.lt; simp; omega), rfl⟩)
          have Hl := hide hR.len
          clear hR HS
          go_wp2_with (go_at_call 16; refine (deleteNear_any HI.out rfl Hn.out HWf.out HLn.out hcm hnc).mono ?_; rintro e W9 ⟨rfl, hr9, hb9⟩; have HG := hide (GivesN.row hr9 hb9); clear hr9 hb9)
          go_ret
          have hle := Hl.out
          rw [HT.out]
          first
            | (rw [hle]; exact HG.out)
            | exact HG.out
    · have el : (level == 0) = false := by rw [beq_eq_false_iff_ne]; exact hl0
      have HT := hide (show rawF ((id, vs, tg), lv, ls, nx, pv) k level = [] by rw [HT1.out, if_neg hl0])
      have HS := hide (near_start HB3.out HPp.out HX.out)
      have HB9 := hide HS.out.bel
      have fin : GivesN w (kept ns (rawF ((id, vs, tg), lv, ls, nx, pv) k level) (rawF ((id, vs, tg), lv, ls, nx, pv) k level).length) (.returned (.slice none 0 0)) ((W2.alloc (.map #[] 0)).alloc (.cells #[.map (some W2.heap.size)] 51)) := by
        rw [HT.out]
        exact ⟨none, 0, 0, rfl, rfl, by omega, by omega, RdR.nil, HB9.out⟩
      have HG := hide fin
      clear fin
      by_cases hk2 : 0 < (k : Int)
      · have e0 : decide (0 < (k : Int)) = true := decide_eq_true hk2
        by_cases hl2 : 0 ≤ level
        · have e1 : decide (0 ≤ level) = true := decide_eq_true hl2
          have e2 : decide (level < (ls.length : Int)) = false := decide_eq_false (by omega)
          go_wp2_with (go_at_call 16; refine (deleteNil_any _ _ _).mono ?_; rintro e _ ⟨rfl, rfl⟩)
          go_ret
          exact HG.out
        · have e1 : decide (0 ≤ level) = false := decide_eq_false hl2
          go_wp2_with (go_at_call 16; refine (deleteNil_any _ _ _).mono ?_; rintro e _ ⟨rfl, rfl⟩)
          go_ret
          exact HG.out
      · have e0 : decide (0 < (k : Int)) = false := decide_eq_false hk2
        go_wp2_with (go_at_call 16; refine (deleteNil_any _ _ _).mono ?_; rintro e _ ⟨rfl, rfl⟩)
        go_ret
        exact HG.out
end
end Go.Proofs.Ytphbdffgeeicaad
