/-
  Texts of one part, put together. No condition.
-/
import Derived.Test.YtlnbeeflifmnjadGreatMgO
import Derived.Test.YtlnbeeflifmnjadGreatMgR
import Derived.Test.YtlnbeeflifmnjadGreatMgG
import Derived.Test.YtlnbeeflifmnjadGreatItB
/-
  The statements' own functions: same, begins8. No condition.
-/
namespace Go.Proofs.YtlnbeeflifmnjadGreat
set_option linter.unusedSimpArgs false
set_option linter.unusedVariables false
open Go.RowKit

set_option maxHeartbeats 1000000 in
theorem topSame_any (A B : Option Addr) (n c m d : Nat) (xs ys : List Hit) (w : World) (hx : Rd SH w w.heap.size A xs) (hn : xs.length = n) (hc : n ≤ c) (hm : c ≤ 9223372036854775807)
    (hy : Rd SH w w.heap.size B ys) (hn' : ys.length = m) (hd : m ≤ d) (hm' : d ≤ 9223372036854775807) :
    Calls Tryz.prog 11 #[.slice A n c, .slice B m d] w fun e w' => e = .returned (.bool (decide (xs = ys))) ∧ Drew w w' := by
  have Hn := hide hn
  have Hm := hide hn'
  by_cases hnm : n = m
  · subst hnm
    clear hn hn'
    go_enter Tryz.func11, Tryz.ntmps11
    go_wp2
    go_loopw [5, 13] (fun _ i wr => ∃ k : Nat, k ≤ n ∧ i = .int .i64 k ∧ Hid (xs.take k = ys.take k) ∧ Drew w wr) (fun _ i _ => n - (intOf i).toNat)
    case atStart => exact ⟨0, by omega, rfl, hide (by simp), Drew.refl _⟩
    case round =>
      obtain ⟨k, hk, rfl, ht, j, rfl⟩ := hrel
      by_cases hlt : k < n
      · obtain ⟨ad, ⟨x1, x2⟩, rfl, _, hx1, c1, c1'⟩ := hx.hcell (k := k) (by have := Hn.out; omega)
        obtain ⟨ad2, ⟨y1, y2⟩, rfl, _, hy1, c2, c2'⟩ := hy.hcell (k := k) (by have := Hm.out; omega)
        simp only at c1 c1' c2 c2'
        have h0 : (0 : Int) ≤ k := by omega
        have h1 : (k : Int) < n := by omega
        by_cases e : (x1, x2) = (y1, y2)
        · have HT := hide (show xs.take (k + 1) = ys.take (k + 1) by rw [take_snoc hx1, take_snoc hy1, ht.out, e])
          have he := run_neq_hit x1 x2 y1 y2 (hit_same e)
          clear hx hy hx1 hy1 e
          go_upto_region 6 with fail
          go_quiet (fail)
          go_wp2
          go_roundw
          case rel => exact ⟨k + 1, by omega, by go_num, HT, by first | exact ⟨_, rfl⟩ | exact drewN_drewN' _ _ _⟩
          case measure => simp [intOf]; omega
        · have HF := hide (at_falseG hx1 hy1 e)
          have he := run_neq_hit x1 x2 y1 y2 (hit_other e)
          clear hx hy hx1 hy1 e
          go_upto_region 6 with fail
          go_quiet (fail)
          go_wp2
          go_ret
          exact ⟨by rw [HF.out]; rfl, by first | exact ⟨_, rfl⟩ | exact drewN_drewN' _ _ _⟩
      · obtain rfl : k = n := by omega
        have HF := hide (show decide (xs = ys) = true from decide_eq_true (by
          have h := ht.out
          rwa [List.take_of_length_le (by have := Hn.out; omega), List.take_of_length_le (by have := Hm.out; omega)] at h))
        clear hx hy
        go_wp2
        go_ret
        exact ⟨by rw [HF.out]; rfl, by first | exact ⟨_, rfl⟩ | exact drewN_drewN' _ _ _⟩
  · have HF := hide (lens_falseG (xs := xs) (ys := ys) (by omega))
    have hb : ((n : Int) != m) = true := by rw [bne_iff_ne]; omega
    clear hx hy hn hn' hnm
    go_enter Tryz.func11, Tryz.ntmps11
    go_wp2
    go_ret
    exact ⟨by rw [HF.out]; rfl, Drew.refl _⟩

/-- the plane of begins8 -/
def be1 : List NodeP := [((0, [], 0), 0, [], 1, 1), ((3, [2], 0), 0, [[]], 0, 0)]
theorem put_be1 : putNs [headN] (3, [2], 0) = be1 := by decide
theorem live_be1 : liveF be1 = [1] := by decide
theorem ckbe (links : Int) : CheckP be1 0 0 links := by
  refine ⟨by decide, ⟨fun k x h => ?_, by decide⟩, fun s hs => ?_, by decide, .inl ⟨rfl, rfl⟩⟩
  · rcases k with _ | _ | k
    · obtain rfl : (((0, [], 0), 0, [], 1, 1) : NodeP) = x := by simpa [be1] using h
      decide
    · obtain rfl : (((3, [2], 0), 0, [[]], 0, 0) : NodeP) = x := by simpa [be1] using h
      decide
    · simp [be1] at h
  · rw [live_be1] at hs
    obtain rfl : s = 1 := by simpa using hs
    exact node0 (by decide) (by decide)
theorem small_be {x : NodeP} (h : x ∈ be1) : OkN x ∧ SmN x ∧ (Lit.int .u64 x.1.1).wf = true := by
  have h2 : x = ((0, [], 0), 0, [], 1, 1) ∨ x = ((3, [2], 0), 0, [[]], 0, 0) := by simpa [be1] using h
  rcases h2 with rfl | rfl <;> refine ⟨⟨fun y hy => ?_, fun l hl y hy => ?_, by decide, by decide⟩, ⟨by decide, by decide, fun l hl => ?_⟩, by decide⟩ <;> simp at * <;> (try subst hl) <;> (try simp at hy) <;> (try subst hy) <;> (try simp) <;> (try omega)
theorem hits_be1 : hitsM [0] 0 [(3, [2], 0)] = [(4, 3)] := by
  unfold hitsM
  rw [show cntM [0] 0 [(3, [2], 0)] = [(4, 3)] by decide]
  exact srtH_is (List.Perm.refl _) (by decide)
section
variable {W : World} {N Aq A : Option Addr} {cN cq c : Nat}
theorem bePut (h : PlN W N 1 [headN]) (hq : Rd (Sh.int .i32) W W.heap.size Aq [2]) : Calls Tryz.prog 16 #[.agg #[.slice N 1 cN, .int .i64 0, .int .i64 0], .agg #[.int .u64 3, .slice Aq 1 1, .int .u64 0], .int .i64 0, .int .i64 1] W fun e w' => ∃ A c, e = .returned (.tuple #[.agg #[.slice A 2 c, .int .i64 0, .int .i64 0], .int .i64 1, .int .i64 0]) ∧ PlN w' A 2 be1 ∧ Below W.heap.size W w' := by
  refine (put_any h (ck0 1) (id := 3) (tg := 0) (nv := 1) hq rfl (by omega) (by rw [show liveF [headN] = [] by decide]; simp) (by decide) (by omega)).mono ?_
  rintro e w' ⟨A, c, rfl, ho⟩
  rw [put_be1] at ho
  exact ⟨A, c, rfl, ho.pl rfl (fun x hx => (small_be hx).1) (fun x hx => (small_be hx).2.1) (by omega) fun x hx => (small_be hx).2.2, ho.bel⟩
theorem beWhole (h : PlN W N 2 be1) : Calls Tryz.prog 9 #[.agg #[.slice N 2 cN, .int .i64 0, .int .i64 0]] W fun e w' => e = .returned (.bool true) ∧ Below W.heap.size W w' := by
  refine (whole_any (cN := cN) (en := 0) (top := 0) h).mono ?_
  rintro e w' ⟨l, h1, rfl, h2⟩
  have := (from_whole h1 (check_whole (ckbe 0))).length_eq
  exact ⟨by rw [this]; simp, h2⟩
theorem beSearch (h : PlW W N 2 be1 Aq 1 cq [0]) : Calls Tryz.prog 10 #[.agg #[.slice N 2 cN, .int .i64 0, .int .i64 0], .slice Aq 1 cq, .int .u64 0, .int .i64 1, .int .i64 1] W fun e w' => ∃ A c, e = .returned (.slice A 1 c) ∧ 1 ≤ c ∧ c ≤ 9223372036854775807 ∧ Rd SH w' w'.heap.size A [(4, 3)] ∧ Below W.heap.size W w' := by
  refine (bSearch_any h (by omega) 1 (mask := 0) (ef := 1) (en := 0) (top := 0)).mono ?_
  rintro e w' ⟨l, t, k, A, n', c, rfl, h1, h2, h3, h4, h5, h6, h7, h8⟩
  have e := start_no h1
  have hK : (liveF be1).length ≤ mostB (max 1 1) := by rw [live_be1]; decide
  obtain ⟨dn, i1, i2, i3, i4, i5⟩ := know_all (ckbe 0) (l := l) (fun x hx => e ▸ hx) hK h2
  have := found_all i1 i4 hK (1 : Int).toNat
  rw [live_be1, show ([1] : List Int).map (itemF be1) = [(3, [2], 0)] by decide, hits_be1] at this
  rw [this] at h3 h7
  obtain rfl : 1 = n' := h3
  exact ⟨A, c, rfl, h5, h6, h7.rd fun d hd => hd.2, h8⟩
end
set_option maxHeartbeats 8000000 in
set_option maxRecDepth 100000 in
theorem begins8_any (w : World) : Calls Tryz.prog 5 #[] w fun e w' => e = .returned (.bool true) ∧ Below w.heap.size w w' := by
  go_enter Tryz.func5, Tryz.ntmps5
  go_wp2_with fail
  refine (pNew_any _).mono ?_
  rintro e w1 ⟨g1, c1, rfl, ho⟩
  have HP := hide (pl_bl ho (.inl rfl) rfl (by omega))
  have HB := hide ho.bel
  clear ho
  go_wp2_with fail
  have hb := below1 w1 (.cells #[.int .i32 2] 21)
  have HQ := hide ((flatInt .i32).blk (l := [2]) (Blk.new w1 21 #[.int .i32 2]) rfl)
  replace HP := hide (HP.out.at_ hb)
  replace HB := hide (Below.step HB.out hb)
  clear hb
  generalize World.alloc w1 _ = w2 at *
  generalize w1.heap.size = gq1 at *
  refine (bePut HP.out HQ.out).mono ?_
  rintro e w3 ⟨A3, c3, rfl, hp, hb⟩
  replace HP := hide hp
  replace HB := hide (Below.step HB.out hb)
  clear hp hb HQ
  go_upto_region 2 with fail
  have hb := below1 w3 (.cells #[.slice A3 2 c3, .int .i64 0, .int .i64 0] 24)
  have hq := Blk.new w3 24 #[.slice A3 2 c3, .int .i64 0, .int .i64 0]
  replace HP := hide (HP.out.at_ hb)
  replace HB := hide (Below.step HB.out hb)
  have HV := hide hq
  clear hq hb
  generalize World.alloc w3 _ = w4 at *
  generalize w3.heap.size = b1 at *
  obtain ⟨p0, p1, p2⟩ := HV.out.cell3
  go_wp2_with fail
  have hb := below1 w4 (.cells #[.int .i32 0] 21)
  have HQ := hide ((flatInt .i32).blk (l := [0]) (Blk.new w4 21 #[.int .i32 0]) rfl)
  replace HP := hide (HP.out.at_ hb)
  replace HB := hide (Below.step HB.out hb)
  replace HV := hide (HV.out.below hb HV.out.lt)
  clear hb p0 p1 p2
  generalize World.alloc w4 _ = w5 at *
  generalize w4.heap.size = gq2 at *
  refine (beSearch (HP.out.plw HQ.out rfl (by omega) (by omega) (fun y hy => by obtain rfl := List.mem_singleton.1 hy; omega))).mono ?_
  rintro e w6 ⟨A9, c9, rfl, q1, q2, hr, hb⟩
  replace HP := hide (HP.out.at_ hb)
  replace HB := hide (Below.step HB.out hb)
  replace HV := hide (HV.out.below hb HV.out.lt)
  have HR := hide hr
  clear hr hb HQ
  obtain ⟨p0, p1, p2⟩ := HV.out.cell3
  go_wp2_with fail
  refine (beWhole HP.out).mono ?_
  rintro e w7 ⟨rfl, hb⟩
  replace HB := hide (Below.step HB.out hb)
  replace HR := hide (HR.out.at_world hb)
  clear hb HP HV p0 p1 p2
  obtain ⟨ad, x, rfl, _, hx, r0, r1⟩ := HR.out.hcell (k := 0) (by simp)
  obtain rfl : ((4 : Int), (3 : Int)) = x := by simpa using hx
  have he := run_eql_hit 4 3 4 3 (r := true) rfl
  simp only [Nat.zero_mul, add_zero'] at r0 r1
  clear hx HR
  go_wp2
  go_ret
  exact ⟨rfl, HB.out⟩
end Go.Proofs.YtlnbeeflifmnjadGreat

/-
  The law TopReached: the walk. Conditions: the slices read as lists, what they hold is small.
-/
namespace Go.Proofs.YtlnbeeflifmnjadGreat
set_option linter.unusedSimpArgs false
set_option linter.unusedVariables false
open Go.RowKit

theorem flt_no {p : Int → Bool} {l : List Int} {k : Nat} {x : Int} (h : l[k]? = some x) (hx : p x = false) : (l.take (k + 1)).filter p = (l.take k).filter p := by
  rw [take_snoc h, List.filter_append]; simp [hx]
theorem flt_yes {p : Int → Bool} {l : List Int} {k : Nat} {x : Int} (h : l[k]? = some x) (hx : p x = true) : (l.take (k + 1)).filter p = (l.take k).filter p ++ [x] := by
  rw [take_snoc h, List.filter_append]; simp [hx]
section
variable {w : World} {N : Option Addr} {nn cN : Nat} {ns : List NodeP} {en top : Int} {Aq Al : Option Addr} {nq cq nl cl : Nat} {qs l : List Int}
set_option maxHeartbeats 16000000 in
set_option maxRecDepth 100000 in
theorem topReached_any (hx : Rd SNode w w.heap.size N ns) (hn : ns.length = nn) (hc : nn ≤ cN) (hm : cN ≤ 9223372036854775807) (hok : ∀ x ∈ ns, OkN x) (hsm : ∀ x ∈ ns, SmN x) (hidw : ∀ x ∈ ns, (Lit.int .u64 x.1.1).wf = true)
    (hq : Rd (Sh.int .i32) w w.heap.size Aq qs) (hnq : qs.length = nq) (hcq : nq ≤ cq) (hcq2 : cq ≤ 9223372036854775807) (hqi : I32 qs) (hq6 : nq ≤ 1048576) (mask : Int)
    (hl : Rd (Sh.int .i64) w w.heap.size Al l) (hnl : l.length = nl) (hcl : nl ≤ cl) (hcl2 : cl ≤ 9223372036854775807) (level : Int) :
    Calls Tryz.prog 4 #[.agg #[.slice N nn cN, .int .i64 en, .int .i64 top], .slice Aq nq cq, .int .u64 mask, .slice Al nl cl, .int .i64 level] w fun e w' => e = .returned (.bool true) ∧ Below w.heap.size w w' := by
  have HP1 := hide (PlB.start w #[.slice N nn cN, .int .i64 en, .int .i64 top])
  have HPl := hide (fun (h : nn ≤ 20) => (⟨hx, hn, hok, hsm, h, hq, hnq, hcq, hcq2, hqi⟩ : PlW w N nn ns Aq nq cq qs))
  have HPn := hide (fun (h : nn ≤ 20) => (⟨hx, hn, hok, hsm, h, hidw⟩ : PlN w N nn ns))
  have HLi := hide hl
  have HNl := hide hnl
  clear hx hn hok hsm hq hnq hqi hidw hl hnl
  go_enter Tryz.func4, Tryz.ntmps4
  go_upto_region 1 with fail
  generalize World.alloc w _ = w1 at *
  obtain ⟨b5, hb5⟩ : ∃ b, w.heap.size = b := ⟨_, rfl⟩
  rw [hb5] at HP1
  rw [hb5]
  clear hb5
  go_upto_region 3 with (go_at_call 5; refine (begins8_any _).mono ?_; rintro e w2 ⟨rfl, hb2⟩; have HP2 := hide (HP1.out.step hb2); clear hb2)
  clear HP1
  obtain ⟨p0, p1, p2⟩ := HP2.out.cells
  by_cases h20 : nn ≤ 20
  case neg =>
    have e1 : decide ((20 : Int) < nn) = true := by simp; omega
    have e0 : decide (20 < nn) = true := by simp; omega
    clear HPl HPn
    go_wp2
    go_ret
    exact ⟨rfl, HP2.out.bel⟩
  have e1 : decide ((20 : Int) < nn) = false := by simp; omega
  have e0 : decide (20 < nn) = false := by simp; omega
  by_cases hl20 : nl ≤ 20
  case neg =>
    have e3 : decide ((20 : Int) < nl) = true := by simp; omega
    have e2 : decide (20 < nl) = true := by simp; omega
    clear HPl HPn
    go_wp2
    go_ret
    exact ⟨rfl, HP2.out.bel⟩
  have e3 : decide ((20 : Int) < nl) = false := by simp; omega
  have e2 : decide (20 < nl) = false := by simp; omega
  have HPw := hide (HPl.out h20)
  have HPN := hide (HPn.out h20)
  have HB0 := hide (Below.refl w2.heap.size w2)
  clear HPl HPn
  go_upto_region 6 with fail
  clear e0 e1 e2 e3 p0 p1 p2
  go_wp2
  go_loopw [11, 33] (fun o i wr => ∃ (k j : Nat) (A : Option Addr) (c : Nat), k ≤ nl ∧ j ≤ k ∧ i = .int .i64 k ∧ o = .slice A j c ∧ j ≤ c ∧ c ≤ 9223372036854775807 ∧ Hid (((l.take k).filter (thereF ns)).length = j) ∧ Hid (wr.ownsRow w2.heap.size 3 1 (.slice A j c) j (fcs encI ((l.take k).filter (thereF ns)))) ∧ Hid (Below w2.heap.size w2 wr)) (fun _ i _ => nl - (intOf i).toNat)
  case atStart => exact ⟨0, 0, none, 0, by omega, by omega, rfl, rfl, by omega, by omega, hide rfl, hide (World.ownsRow_nil _ _ _ _), HB0⟩
  case round =>
    obtain ⟨k, j, A, c, hk, hj, rfl, rfl, c1, c2, HLn, HO, HBr⟩ := hrel
    clear HB0
    have HPr := hide (HP2.out.step HBr.out)
    by_cases hlt : k < nl
    · have g0 : (0 : Int) ≤ k := by omega
      have g1 : (k : Int) < nl := by omega
      obtain ⟨al, y, rfl, _, hv, q0⟩ := Rd.icell (HLi.out.at_world HPr.out.bel) (k := k) (by have := HNl.out; omega)
      obtain ⟨p0, p1, p2⟩ := HPr.out.cells
      have CT := hide (there_any (nn := nn) (cN := cN) (en := en) (top := top) (HPN.out.at_ HPr.out.bel).nd HPN.out.len y)
      rcases ht : thereF ns y with _ | _
      · rw [ht] at CT
        have HSn := hide (flt_no hv ht)
        clear hv ht
        go_wp2_with (go_at_call 7; refine CT.out.mono ?_; rintro e w4 ⟨rfl, hb⟩; have HB4 := hide (Below.step HBr.out hb); have HO4 := hide (own_keep HO.out fun g hg => hb.block g (HO.out.lt g hg).2); clear hb)
        go_roundw
        case rel => exact ⟨k + 1, j, A, c, by omega, by omega, by go_num, rfl, c1, c2, by rw [HSn.out]; exact HLn, by rw [HSn.out]; exact HO4, HB4⟩
        case measure => simp [intOf]; omega
      · rw [ht] at CT
        have HSn := hide (flt_yes hv ht)
        clear hv ht
        go_wp2_with (first
          | (go_at_call 7; refine CT.out.mono ?_; rintro e w4 ⟨rfl, hb⟩; have HB4 := hide (Below.step HBr.out hb); have HO4 := hide (own_keep HO.out fun g hg => hb.block g (HO.out.lt g hg).2); clear hb p0 p1 p2 CT)
          | (at_builtin; refine wpList_append_elem rfl (.tmp 40) (.tmp 42) 44 rfl w2.heap.size Tryz.underlying44 info_intE rfl (by decide) (.slice A j c) j _ rfl HO4.out _ _ rfl rfl (by simp [Value.oneCell']) (by simp only [maxLen]; omega) (by omega) HB4.out.size ?_; intro v9 w9 hown9 hgr9 hat9; have HO9 := hide (show w9.ownsRow w2.heap.size 3 1 v9 (j + 1) (fcs encI ((l.take (k + 1)).filter (thereF ns))) by rw [HSn.out, fcsI_snoc]; exact hown9); have HB9 := hide (below_own HB4.out HO4.out HB4.out.size hgr9); obtain ⟨A8, c8, rfl, l1, l2⟩ := own_form hown9; clear hown9 hgr9 hat9))
        go_roundw
        case rel => exact ⟨k + 1, j + 1, A8, c8, by omega, by omega, by go_num, rfl, l1, l2, hide (by rw [HSn.out, List.length_append, HLn.out]; rfl), HO9, HB9⟩
        case measure => simp [intOf]; omega
    · obtain rfl : nl = k := by omega
      have e1 : l.take nl = l := List.take_of_length_le (by rw [HNl.out]; exact Nat.le_refl _)
      rw [e1] at HLn HO
      clear e1
      have HSt := hide ((flatI.own HO.out).rd (B := wr.heap.size) fun d hd => hd.2)
      have HSw := hide (show ∀ x ∈ l.filter (thereF ns), (Lit.int .i64 x).wf = true from fun x hx => by have := there_lt (List.mem_filter.1 hx).2; have := HPN.out.len; exact wfI (by omega))
      obtain ⟨p0, p1, p2⟩ := HPr.out.cells
      go_upto_region 13 with fail
      go_wp2_with (go_at_call 13; refine (wFrom_any (cN := cN) (en := en) (top := top) (level := level) (HPN.out.at_ HPr.out.bel) HSt.out HLn.out (by omega) HSw.out).mono ?_; rintro e w4 ⟨F, hF, A4, n4, c4, rfl, hl4, hc4, hc5, hr4, hb4⟩; have HF := hide hF; have HL4 := hide hl4; have HK := hide (show ItB w w4 b5 #[.slice N nn cN, .int .i64 en, .int .i64 top] none 0 0 [] w4 from ⟨HPr.out.step hb4, ⟨[], World.ownsRow_nil _ _ _ _, RowX.nil⟩, Below.refl _ _, (Below.step HPr.out.bel hb4).size⟩); have HR4 := hide (hr4.rd fun d hd => hd.2); clear hF hl4 hr4 hb4)
      clear p0 p1 p2 HPr HSt HSw HO HBr
      have h24 : n4 ≤ 20 := by
        have h1 := sub_lenI (from_nodup HF.out) (m := liveF ns) fun x hx => live_mem.2 ((from_mem HF.out).1 hx).1
        have h2 : (liveF ns).length ≤ ns.length := there_len (ns := ns) (liveK_nodup ns _ : (liveF ns).Nodup) fun x hx => live_mem.1 hx
        have := HL4.out; have := HPN.out.len
        omega
      go_loopw [14, 50] (fun v i wr => ∃ (k : Nat) (A : Option Addr) (c : Nat), k ≤ n4 ∧ i = .int .i64 k ∧ v = .slice A k c ∧ k ≤ c ∧ c ≤ 9223372036854775807 ∧ Hid (ItB w w4 b5 #[.slice N nn cN, .int .i64 en, .int .i64 top] A k c (itsF ns (F.take k)) wr)) (fun _ i _ => n4 - (intOf i).toNat)
      case atStart => exact ⟨0, none, 0, by omega, rfl, rfl, by omega, by omega, HK⟩
      case round =>
        obtain ⟨k, A, c, hk, rfl, rfl, h1, h2, HB⟩ := hrel
        clear HK
        by_cases hlt : k < n4
        · have g0 : (0 : Int) ≤ k := by omega
          have g1 : (k : Int) < n4 := by omega
          obtain ⟨al, y, rfl, hal, hv, q0⟩ := RdR.icell (HR4.out.at_world HB.out.b4) (k := k) (by have := HL4.out; omega)
          have HSn := hide (its_snoc (ns := ns) hv)
          have hth := ((from_mem HF.out).1 (List.mem_of_getElem? hv)).1
          have hrg := there_lt hth
          obtain ⟨m, rfl⟩ : ∃ m : Nat, y = m := ⟨y.toNat, by omega⟩
          have hm1 : m < ns.length := by omega
          have m0 : (1 : Int) ≤ m := by omega
          have m00 : (0 : Int) ≤ m := by omega
          have m1 : (m : Int) < nn := by have := HPN.out.len; omega
          have t0 : decide ((m : Int) < 1) = false := decide_eq_false (by omega)
          have t1 : decide ((nn : Int) ≤ m) = false := decide_eq_false (by omega)
          have t2 : decide (nn ≤ m) = false := decide_eq_false (by omega)
          obtain ⟨ad, x, V, cV, L, cL, hA, hbl, hkx, hcc⟩ := HPN.out.nd.node (k := m) hm1
          have HIt := hide (itemF_at hkx)
          have HAd := hide hA
          subst hA
          have hba : (ad.add (m * 7)).block = ad.block := block_of_add _ _
          have hcell : ∀ p : Addr, p.block = ad.block → wr.cell? p = w.cell? p := fun p hp => HB.out.p.bel.cell (by rw [hp]; exact hbl)
          have z0 := (hcell _ hba).trans hcc.c0
          have z1 := (hcell ⟨(ad.add (m * 7)).block, (ad.add (m * 7)).off + 1, none⟩ hba).trans hcc.c1
          have z2 := (hcell ⟨(ad.add (m * 7)).block, (ad.add (m * 7)).off + 2, none⟩ hba).trans hcc.c2
          obtain ⟨⟨id, vs, tg⟩, lv, ls, nx, pv⟩ := x
          simp only at z0 z1 z2
          have HRi := hide (item_of (x := (id, vs, tg)) hcc.v1 hcc.v2 hcc.v)
          have hv2 := hcc.v2
          obtain ⟨xs, hox, hrx⟩ := HB.out.own
          have HO := hide hox
          have HRx := hide hrx
          obtain ⟨p0, p1, p2⟩ := HB.out.p.cells
          clear hox hrx hcell hba hbl hkx hcc hth hrg hv
          obtain ⟨nv, hnv⟩ : ∃ n, vs.length = n := ⟨_, rfl⟩
          rw [hnv] at z1 HRi
          clear hnv
          go_wp2_with (at_builtin; refine wpList_append_elem rfl (.tmp 63) (.tmp 70) 47 rfl w4.heap.size Tryz.underlying47 info_itemE rfl (by decide) (.slice A k c) k xs rfl HO.out _ _ rfl rfl (by simp [Value.oneCell']) (by simp only [maxLen]; omega) (by omega) HB.out.b4.size ?_; intro v9 w9 hown9 hgr9 hat9; obtain ⟨A8, c8, rfl, l1, l2⟩ := own_form hown9; have HB9 := hide (show ItB w w4 b5 #[.slice (some ad) nn cN, .int .i64 en, .int .i64 top] A8 (k + 1) c8 (itsF ns (F.take (k + 1))) w9 from ItB.app HB.out HO.out HRx.out hgr9 hown9 HRi.out (by rw [HSn.out, HIt.out])); clear hown9 hgr9 hat9)
          go_roundw
          case rel => exact ⟨k + 1, A8, c8, by omega, by go_num, rfl, l1, l2, HB9⟩
          case measure => simp [intOf]; omega
        · obtain rfl : n4 = k := by omega
          have HIts := hide (show itsF ns (F.take n4) = itsF ns F from by rw [List.take_of_length_le (by rw [HL4.out]; exact Nat.le_refl _)])
          rw [HIts.out] at HB
          obtain ⟨p0, p1, p2⟩ := HB.out.p.cells
          have CA := hide (around_any (HPw.out.at_ HB.out.p.bel) (by omega) (nl := nl) (cl := cl) (HLi.out.at_world HB.out.p.bel) HNl.out (by omega) (level := level) (mask := mask) (ef := 40) (cN := cN) (en := en) (top := top))
          go_upto_region 21 with fail
          go_wp2_with (go_at_call 14; refine CA.out.mono ?_; rintro e w5 ⟨l5, t5, k5, Af, nf, cf, rfl, hst, hlk, htl, hn6, hcf, hcm, hrf, hb5⟩; subst hst; have HLk := hide hlk; have HLf := hide htl; have HF5 := hide (show FoB w w4 b5 #[.slice N nn cN, .int .i64 en, .int .i64 top] A n4 c (itsF ns F) Af t5.2.2 w5 from ⟨HB.out.step hb5, hrf.rd fun d hd => hd.2⟩); clear hlk htl hrf hb5)
          clear p0 p1 p2 HB HIts HR4 CA
          have HE := hide (show t5.2.2.map (·.1) = hitsM qs mask (F.map (itemF ns)) from look_from (K := mostB 40) (by
            have h2 : (liveF ns).length ≤ ns.length := there_len (ns := ns) (liveK_nodup ns _ : (liveF ns).Nodup) fun x hx => live_mem.1 hx
            have := HPN.out.len
            have : mostB 40 = 40 := rfl
            omega) HLk.out HF.out)
          have HO0 := hide (World.ownsRow_nil (w := w5) w5.heap.size 42 2)
          have HB5 := hide (Below.refl w5.heap.size w5)
          go_loopw [17, 80] (fun o i wr => ∃ (k : Nat) (A3 : Option Addr) (c3 : Nat), k ≤ nf ∧ i = .int .i64 k ∧ o = .slice A3 k c3 ∧ k ≤ c3 ∧ c3 ≤ 9223372036854775807 ∧ Hid (wr.ownsRow w5.heap.size 42 2 (.slice A3 k c3) k (fcs encH ((t5.2.2.take k).map (·.1)))) ∧ Hid (Below w5.heap.size w5 wr)) (fun _ i _ => nf - (intOf i).toNat)
          case atStart => exact ⟨0, none, 0, by omega, rfl, rfl, by omega, by omega, HO0, HB5⟩
          case round =>
            obtain ⟨k, A3, c3, hk, rfl, rfl, d1, d2, HO, HBr⟩ := hrel
            clear HO0 HB5
            by_cases hlt : k < nf
            · have g0 : (0 : Int) ≤ k := by omega
              have g1 : (k : Int) < nf := by omega
              obtain ⟨adf, s, hA, hbf, hs, q0, q1, q2⟩ := RdR.scell (HF5.out.f.at_world HBr.out) (k := k) (by have := HLf.out; omega)
              have HSn := hide (show (t5.2.2.take (k + 1)).map (·.1) = (t5.2.2.take k).map (·.1) ++ [s.1] by rw [take_snoc hs, List.map_append]; rfl)
              subst hA
              obtain ⟨⟨d, id⟩, sl⟩ := s
              simp only at q0 q1 q2 HSn
              clear hs hbf
              go_upto_region 24 with fail
              have HB6 := hide (Below.step HBr.out (below1 wr (.cells #[.int .u64 d, .int .u64 id, .int .i64 sl] 52)))
              have HO6 := hide (own_keep HO.out fun g hg => Below.heap_alloc wr (.cells #[.int .u64 d, .int .u64 id, .int .i64 sl] 52) g (HO.out.lt g hg).2)
              have HBk := hide (Blk.new wr 52 #[.int .u64 d, .int .u64 id, .int .i64 sl])
              clear q0 q1 q2
              generalize World.alloc wr _ = w6 at *
              generalize wr.heap.size = b6 at *
              have r0 := HBk.out.cell 0
              have r1 := HBk.out.cell 1
              simp at r0 r1
              go_wp2_with (at_builtin; refine wpList_append_elem rfl (.tmp 84) (.tmp 87) 39 rfl w5.heap.size Tryz.underlying39 info_hitB rfl (by decide) (.slice A3 k c3) k _ rfl HO6.out _ _ rfl rfl (by simp [Value.oneCell']) (by simp only [maxLen]; omega) (by omega) HB6.out.size ?_; intro v9 w9 hown9 hgr9 hat9; have HO9 := hide (show w9.ownsRow w5.heap.size 42 2 v9 (k + 1) (fcs encH ((t5.2.2.take (k + 1)).map (·.1))) by rw [HSn.out, fcsH_snoc]; exact hown9); have HB9 := hide (below_own HB6.out HO6.out HB6.out.size hgr9); obtain ⟨A8, c8, rfl, l1, l2⟩ := own_form hown9; clear hown9 hgr9 hat9)
              go_roundw
              case rel => exact ⟨k + 1, A8, c8, by omega, by go_num, rfl, l1, l2, HO9, HB9⟩
              case measure => simp [intOf]; omega
            · obtain rfl : nf = k := by omega
              have e1 : (t5.2.2.take nf).map (·.1) = hitsM qs mask (itsF ns F) := by
                rw [List.take_of_length_le (by rw [HLf.out]; exact Nat.le_refl _)]; exact HE.out
              rw [e1] at HO
              have HNf := hide (show (hitsM qs mask (itsF ns F)).length = nf from by rw [← e1, List.length_map, List.length_take, HLf.out, Nat.min_self])
              have HThF := hide (show ∀ x ∈ F, thereF ns x = true from fun x hx => ((from_mem HF.out).1 hx).1)
              clear e1 HE HLk HF
              have HRf := hide ((flatH.own HO.out).rd (B := wr.heap.size) fun d hd => hd.2)
              have HI := hide (HF5.out.i.step HBr.out)
              have HIs := hide (show ItsI (itsF ns F) from by
                intro it hit
                obtain ⟨x, hx, rfl⟩ := List.mem_map.1 hit
                have h := there_lt ((HThF.out x hx))
                obtain ⟨m, rfl⟩ : ∃ m : Nat, x = m := ⟨x.toNat, by omega⟩
                obtain ⟨y, hy⟩ : ∃ y, ns[m]? = some y := ⟨_, List.getElem?_eq_getElem (by omega)⟩
                rw [itemF_at hy]
                exact (HPN.out.ok y (List.mem_of_getElem? hy)).v)
              have HIl := hide (show (itsF ns F).length = n4 from by unfold itsF; rw [List.length_map]; exact HL4.out)
              have hcs := HI.out
              go_wp2_with (first
                | (go_at_call 15; refine (search_any A Aq n4 c nq cq (itsF ns F) qs mask n4 wr HI.out.rd HIl.out HIs.out h1 h2 (HPw.out.at_ HI.out.p.bel).q HPw.out.lq HPw.out.qi HPw.out.c1 HPw.out.c2 (by omega)).mono ?_; rintro e w7 ⟨v7, rfl, A7, n7, c7, rfl, k1, k2, k3, k4, k5⟩; have hK := hide (take_lstU (hitsM qs mask (itsF ns F)) n4); rw [hK.out] at k1 k4; have hT := hide (show (hitsM qs mask (itsF ns F)).take ((n4 : Int)).toNat = hitsM qs mask (itsF ns F) from List.take_of_length_le (by have := hitsM_le qs mask (itsF ns F); have := HIl.out; omega)); rw [hT.out] at k1 k4; have HL7 := hide k1; have HR7 := hide (k4.rd fun d hd => hd.2); have HB7 := hide (Below.step HI.out.p.bel k5); have HRf7 := hide (HRf.out.at_world k5); clear k1 k4 k5)
                | (go_at_call 11; refine (topSame_any A3 A7 nf c3 n7 c7 _ _ w7 HRf7.out HNf.out d1 d2 HR7.out HL7.out k2 k3).mono ?_; rintro e w8 ⟨rfl, hd⟩; have HB8 := hide (Below.step HB7.out hd.below); clear hd))
              go_ret
              exact ⟨by simp, HB8.out⟩
end
end Go.Proofs.YtlnbeeflifmnjadGreat
