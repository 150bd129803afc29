/-
  Texts of one part, put together. No condition.
-/
import Derived.Test.YtlnbeeflifmnjadGreatMgO
import Derived.Test.YtlnbeeflifmnjadGreatMgR
import Derived.Test.YtlnbeeflifmnjadGreatMgG
import Derived.Test.YtlnbeeflifmnjadGreatItB
import Derived.Test.YtlnbeeflifmnjadGreatMgV
/-
  The statements' own functions: same, begins8. No condition.
-/
namespace Go.Proofs.YtlnbeeflifmnjadGreat
set_option linter.unusedSimpArgs false
set_option linter.unusedVariables false
open Go.RowKit

set_option maxHeartbeats 1000000 in
theorem topSame_any (A B : Option Addr) (n c m d : Nat) (xs ys : List Hit) (w : World) (hx : Rd SH w w.heap.size A xs) (hn : xs.length = n) (hc : n ≤ c) (hm : c ≤ 9223372036854775807)
    (hy : Rd SH w w.heap.size B ys) (hn' : ys.length = m) (hd : m ≤ d) (hm' : d ≤ 9223372036854775807) :
    Calls Tryz.prog 11 #[.slice A n c, .slice B m d] w fun e w' => e = .returned (.bool (decide (xs = ys))) ∧ Drew w w' := by
  have Hn := hide hn
  have Hm := hide hn'
  by_cases hnm : n = m
  · subst hnm
    clear hn hn'
    go_enter Tryz.func11, Tryz.ntmps11
    go_wp2
    go_loopw [5, 13] (fun _ i wr => ∃ k : Nat, k ≤ n ∧ i = .int .i64 k ∧ Hid (xs.take k = ys.take k) ∧ Drew w wr) (fun _ i _ => n - (intOf i).toNat)
    case atStart => exact ⟨0, by omega, rfl, hide (by simp), Drew.refl _⟩
    case round =>
      obtain ⟨k, hk, rfl, ht, j, rfl⟩ := hrel
      by_cases hlt : k < n
      · obtain ⟨ad, ⟨x1, x2⟩, rfl, _, hx1, c1, c1'⟩ := hx.hcell (k := k) (by have := Hn.out; omega)
        obtain ⟨ad2, ⟨y1, y2⟩, rfl, _, hy1, c2, c2'⟩ := hy.hcell (k := k) (by have := Hm.out; omega)
        simp only at c1 c1' c2 c2'
        have h0 : (0 : Int) ≤ k := by omega
        have h1 : (k : Int) < n := by omega
        by_cases e : (x1, x2) = (y1, y2)
        · have HT := hide (show xs.take (k + 1) = ys.take (k + 1) by rw [take_snoc hx1, take_snoc hy1, ht.out, e])
          have he := run_neq_hit x1 x2 y1 y2 (hit_same e)
          clear hx hy hx1 hy1 e
          go_upto_region 6 with fail
          go_quiet (fail)
          go_wp2
          go_roundw
          case rel => exact ⟨k + 1, by omega, by go_num, HT, by first | exact ⟨_, rfl⟩ | exact drewN_drewN' _ _ _⟩
          case measure => simp [intOf]; omega
        · have HF := hide (at_falseG hx1 hy1 e)
          have he := run_neq_hit x1 x2 y1 y2 (hit_other e)
          clear hx hy hx1 hy1 e
          go_upto_region 6 with fail
          go_quiet (fail)
          go_wp2
          go_ret
          exact ⟨by rw [HF.out]; rfl, by first | exact ⟨_, rfl⟩ | exact drewN_drewN' _ _ _⟩
      · obtain rfl : k = n := by omega
        have HF := hide (show decide (xs = ys) = true from decide_eq_true (by
          have h := ht.out
          rwa [List.take_of_length_le (by have := Hn.out; omega), List.take_of_length_le (by have := Hm.out; omega)] at h))
        clear hx hy
        go_wp2
        go_ret
        exact ⟨by rw [HF.out]; rfl, by first | exact ⟨_, rfl⟩ | exact drewN_drewN' _ _ _⟩
  · have HF := hide (lens_falseG (xs := xs) (ys := ys) (by omega))
    have hb : ((n : Int) != m) = true := by rw [bne_iff_ne]; omega
    clear hx hy hn hn' hnm
    go_enter Tryz.func11, Tryz.ntmps11
    go_wp2
    go_ret
    exact ⟨by rw [HF.out]; rfl, Drew.refl _⟩

/-- the plane of begins8 -/
def be1 : List NodeP := [((0, [], 0), 0, [], 1, 1), ((3, [2], 0), 0, [[]], 0, 0)]
theorem put_be1 : putNs [headN] (3, [2], 0) = be1 := by decide
theorem live_be1 : liveF be1 = [1] := by decide
theorem ckbe (links : Int) : CheckP be1 0 0 links := by
  refine ⟨by decide, ⟨fun k x h => ?_, by decide⟩, fun s hs => ?_, by decide, .inl ⟨rfl, rfl⟩⟩
  · rcases k with _ | _ | k
    · obtain rfl : (((0, [], 0), 0, [], 1, 1) : NodeP) = x := by simpa [be1] using h
      decide
    · obtain rfl : (((3, [2], 0), 0, [[]], 0, 0) : NodeP) = x := by simpa [be1] using h
      decide
    · simp [be1] at h
  · rw [live_be1] at hs
    obtain rfl : s = 1 := by simpa using hs
    exact node0 (by decide) (by decide)
theorem small_be {x : NodeP} (h : x ∈ be1) : OkN x ∧ SmN x ∧ (Lit.int .u64 x.1.1).wf = true := by
  have h2 : x = ((0, [], 0), 0, [], 1, 1) ∨ x = ((3, [2], 0), 0, [[]], 0, 0) := by simpa [be1] using h
  rcases h2 with rfl | rfl <;> refine ⟨⟨fun y hy => ?_, fun l hl y hy => ?_, by decide, by decide⟩, ⟨by decide, by decide, fun l hl => ?_⟩, by decide⟩ <;> simp at * <;> (try subst hl) <;> (try simp at hy) <;> (try subst hy) <;> (try simp) <;> (try omega)
theorem hits_be1 : hitsM [0] 0 [(3, [2], 0)] = [(4, 3)] := by
  unfold hitsM
  rw [show cntM [0] 0 [(3, [2], 0)] = [(4, 3)] by decide]
  exact srtH_is (List.Perm.refl _) (by decide)
section
variable {W : World} {N Aq A : Option Addr} {cN cq c : Nat}
theorem bePut (h : PlN W N 1 [headN]) (hq : Rd (Sh.int .i32) W W.heap.size Aq [2]) : Calls Tryz.prog 16 #[.agg #[.slice N 1 cN, .int .i64 0, .int .i64 0], .agg #[.int .u64 3, .slice Aq 1 1, .int .u64 0], .int .i64 0, .int .i64 1] W fun e w' => ∃ A c, e = .returned (.tuple #[.agg #[.slice A 2 c, .int .i64 0, .int .i64 0], .int .i64 1, .int .i64 0]) ∧ PlN w' A 2 be1 ∧ Below W.heap.size W w' := by
  refine (put_any h (ck0 1) (id := 3) (tg := 0) (nv := 1) hq rfl (by omega) (by rw [show liveF [headN] = [] by decide]; simp) (by decide) (by omega)).mono ?_
  rintro e w' ⟨A, c, rfl, ho⟩
  rw [put_be1] at ho
  exact ⟨A, c, rfl, ho.pl rfl (fun x hx => (small_be hx).1) (fun x hx => (small_be hx).2.1) (by omega) fun x hx => (small_be hx).2.2, ho.bel⟩
theorem beWhole (h : PlN W N 2 be1) : Calls Tryz.prog 9 #[.agg #[.slice N 2 cN, .int .i64 0, .int .i64 0]] W fun e w' => e = .returned (.bool true) ∧ Below W.heap.size W w' := by
  refine (whole_any (cN := cN) (en := 0) (top := 0) h).mono ?_
  rintro e w' ⟨l, h1, rfl, h2⟩
  have := (from_whole h1 (check_whole (ckbe 0))).length_eq
  exact ⟨by rw [this]; simp, h2⟩
theorem beSearch (h : PlW W N 2 be1 Aq 1 cq [0]) : Calls Tryz.prog 10 #[.agg #[.slice N 2 cN, .int .i64 0, .int .i64 0], .slice Aq 1 cq, .int .u64 0, .int .i64 1, .int .i64 1] W fun e w' => ∃ A c, e = .returned (.slice A 1 c) ∧ 1 ≤ c ∧ c ≤ 9223372036854775807 ∧ Rd SH w' w'.heap.size A [(4, 3)] ∧ Below W.heap.size W w' := by
  refine (bSearch_any h (by omega) 1 (mask := 0) (ef := 1) (en := 0) (top := 0)).mono ?_
  rintro e w' ⟨l, t, k, A, n', c, rfl, h1, h2, h3, h4, h5, h6, h7, h8⟩
  have e := start_no h1
  have hK : (liveF be1).length ≤ mostB (max 1 1) := by rw [live_be1]; decide
  obtain ⟨dn, i1, i2, i3, i4, i5⟩ := know_all (ckbe 0) (l := l) (fun x hx => e ▸ hx) hK h2
  have := found_all i1 i4 hK (1 : Int).toNat
  rw [live_be1, show ([1] : List Int).map (itemF be1) = [(3, [2], 0)] by decide, hits_be1] at this
  rw [this] at h3 h7
  obtain rfl : 1 = n' := h3
  exact ⟨A, c, rfl, h5, h6, h7.rd fun d hd => hd.2, h8⟩
end
set_option maxHeartbeats 8000000 in
set_option maxRecDepth 100000 in
theorem begins8_any (w : World) : Calls Tryz.prog 5 #[] w fun e w' => e = .returned (.bool true) ∧ Below w.heap.size w w' := by
  go_enter Tryz.func5, Tryz.ntmps5
  go_wp2_with fail
  refine (pNew_any _).mono ?_
  rintro e w1 ⟨g1, c1, rfl, ho⟩
  have HP := hide (pl_bl ho (.inl rfl) rfl (by omega))
  have HB := hide ho.bel
  clear ho
  go_wp2_with fail
  have hb := below1 w1 (.cells #[.int .i32 2] 21)
  have HQ := hide ((flatInt .i32).blk (l := [2]) (Blk.new w1 21 #[.int .i32 2]) rfl)
  replace HP := hide (HP.out.at_ hb)
  replace HB := hide (Below.step HB.out hb)
  clear hb
  generalize World.alloc w1 _ = w2 at *
  generalize w1.heap.size = gq1 at *
  refine (bePut HP.out HQ.out).mono ?_
  rintro e w3 ⟨A3, c3, rfl, hp, hb⟩
  replace HP := hide hp
  replace HB := hide (Below.step HB.out hb)
  clear hp hb HQ
  go_upto_region 2 with fail
  have hb := below1 w3 (.cells #[.slice A3 2 c3, .int .i64 0, .int .i64 0] 24)
  have hq := Blk.new w3 24 #[.slice A3 2 c3, .int .i64 0, .int .i64 0]
  replace HP := hide (HP.out.at_ hb)
  replace HB := hide (Below.step HB.out hb)
  have HV := hide hq
  clear hq hb
  generalize World.alloc w3 _ = w4 at *
  generalize w3.heap.size = b1 at *
  obtain ⟨p0, p1, p2⟩ := HV.out.cell3
  go_wp2_with fail
  have hb := below1 w4 (.cells #[.int .i32 0] 21)
  have HQ := hide ((flatInt .i32).blk (l := [0]) (Blk.new w4 21 #[.int .i32 0]) rfl)
  replace HP := hide (HP.out.at_ hb)
  replace HB := hide (Below.step HB.out hb)
  replace HV := hide (HV.out.below hb HV.out.lt)
  clear hb p0 p1 p2
  generalize World.alloc w4 _ = w5 at *
  generalize w4.heap.size = gq2 at *
  refine (beSearch (HP.out.plw HQ.out rfl (by omega) (by omega) (fun y hy => by obtain rfl := List.mem_singleton.1 hy; omega))).mono ?_
  rintro e w6 ⟨A9, c9, rfl, q1, q2, hr, hb⟩
  replace HP := hide (HP.out.at_ hb)
  replace HB := hide (Below.step HB.out hb)
  replace HV := hide (HV.out.below hb HV.out.lt)
  have HR := hide hr
  clear hr hb HQ
  obtain ⟨p0, p1, p2⟩ := HV.out.cell3
  go_wp2_with fail
  refine (beWhole HP.out).mono ?_
  rintro e w7 ⟨rfl, hb⟩
  replace HB := hide (Below.step HB.out hb)
  replace HR := hide (HR.out.at_world hb)
  clear hb HP HV p0 p1 p2
  obtain ⟨ad, x, rfl, _, hx, r0, r1⟩ := HR.out.hcell (k := 0) (by simp)
  obtain rfl : ((4 : Int), (3 : Int)) = x := by simpa using hx
  have he := run_eql_hit 4 3 4 3 (r := true) rfl
  simp only [Nat.zero_mul, add_zero'] at r0 r1
  clear hx HR
  go_wp2
  go_ret
  exact ⟨rfl, HB.out⟩
end Go.Proofs.YtlnbeeflifmnjadGreat

/-
  The law TopDropped: the walk. Conditions: the slices read as lists, what they hold is small.
-/
namespace Go.Proofs.YtlnbeeflifmnjadGreat
set_option linter.unusedSimpArgs false
set_option linter.unusedVariables false
open Go.RowKit

theorem live_leN (ns : List NodeP) : (liveF ns).length ≤ ns.length := there_len (ns := ns) (liveK_nodup ns _ : (liveF ns).Nodup) fun x hx => live_mem.1 hx
theorem fltH_no {p : Hit → Bool} {l : List Hit} {k : Nat} {x : Hit} (h : l[k]? = some x) (hx : p x = false) : (l.take (k + 1)).filter p = (l.take k).filter p := by
  rw [take_snoc h, List.filter_append]; simp [hx]
theorem fltH_yes {p : Hit → Bool} {l : List Hit} {k : Nat} {x : Hit} (h : l[k]? = some x) (hx : p x = true) : (l.take (k + 1)).filter p = (l.take k).filter p ++ [x] := by
  rw [take_snoc h, List.filter_append]; simp [hx]
/-- a search that may find all, in a plane that is whole -/
theorem se_all {ns : List NodeP} {qs : List Int} {en top : Int} (hw : WholeP ns) (hn : ns.length ≤ 20) {l : List Int} (hs : StartR ns qs en top l) {t : PrS} {k : Nat} (h : LookR ns qs 0 (mostB (max 40 40)) 0 (offL ns qs 0 (mostB (max 40 40)) noS l) t k) : (t.2.2.take (40 : Int).toNat).map (·.1) = hitsM qs 0 ((liveF ns).map (itemF ns)) := by
  have hK : (liveF ns).length ≤ mostB (max 40 40) := by have := live_leN ns; have : mostB (max 40 40) = 40 := rfl; omega
  obtain ⟨dn, i1, i2⟩ := know_whole hw (start_near hs) hK h
  rw [found_all i1 i2 hK, List.take_of_length_le]
  have h1 := hitsM_le qs 0 ((liveF ns).map (itemF ns))
  rw [List.length_map] at h1
  have := live_leN ns
  have : (40 : Int).toNat = 40 := rfl
  omega
section
variable {w : World} {N : Option Addr} {nn cN : Nat} {ns : List NodeP} {en top : Int} {Aq : Option Addr} {nq cq : Nat} {qs : List Int}
set_option maxHeartbeats 4000000 in
theorem seAll_any (hpl : PlW w N nn ns Aq nq cq qs) (hw : WholeP ns) (hq6 : nq ≤ 1048576) : Calls Tryz.prog 10 #[.agg #[.slice N nn cN, .int .i64 en, .int .i64 top], .slice Aq nq cq, .int .u64 0, .int .i64 40, .int .i64 40] w fun e w' =>
    ∃ A n c, e = .returned (.slice A n c) ∧ (hitsM qs 0 ((liveF ns).map (itemF ns))).length = n ∧ n ≤ c ∧ c ≤ 9223372036854775807 ∧ Rd SH w' w'.heap.size A (hitsM qs 0 ((liveF ns).map (itemF ns))) ∧ Below w.heap.size w w' := by
  refine (bSearch_any hpl (by omega) 40 (mask := 0) (ef := 40) (cN := cN) (en := en) (top := top)).mono ?_
  rintro e w' ⟨l, t, k, A, n', c, rfl, h1, h2, h3, h4, h5, h6, h7, h8⟩
  rw [se_all hw (by have := hpl.len; have := hpl.n20; omega) h1 h2] at h3 h7
  exact ⟨A, n', c, rfl, h3, h5, h6, h7.rd fun d hd => hd.2, h8⟩
set_option maxHeartbeats 16000000 in
set_option maxRecDepth 100000 in
theorem topDropped_any (hx : Rd SNode w w.heap.size N ns) (hn : ns.length = nn) (hc : nn ≤ cN) (hm : cN ≤ 9223372036854775807) (hok : ∀ x ∈ ns, OkN x) (hsm : ∀ x ∈ ns, SmN x) (hidw : ∀ x ∈ ns, (Lit.int .u64 x.1.1).wf = true)
    (hq : Rd (Sh.int .i32) w w.heap.size Aq qs) (hnq : qs.length = nq) (hcq : nq ≤ cq) (hcq2 : cq ≤ 9223372036854775807) (hqi : I32 qs) (hq6 : nq ≤ 1048576) (links slot : Int) :
    Calls Tryz.prog 3 #[.agg #[.slice N nn cN, .int .i64 en, .int .i64 top], .int .i64 links, .int .i64 slot, .slice Aq nq cq] w fun e w' => e = .returned (.bool true) ∧ Below w.heap.size w w' := by
  have HP1 := hide (PlB.start w #[.slice N nn cN, .int .i64 en, .int .i64 top])
  have HPl := hide (fun (h : nn ≤ 20) => (⟨hx, hn, hok, hsm, h, hq, hnq, hcq, hcq2, hqi⟩ : PlW w N nn ns Aq nq cq qs))
  have HPn := hide (fun (h : nn ≤ 20) => (⟨hx, hn, hok, hsm, h, hidw⟩ : PlN w N nn ns))
  clear hx hn hok hsm hq hnq hqi hidw
  go_enter Tryz.func3, Tryz.ntmps3
  go_upto_region 1 with fail
  generalize World.alloc w _ = w1 at *
  obtain ⟨b4, hb4⟩ : ∃ b, w.heap.size = b := ⟨_, rfl⟩
  rw [hb4] at HP1
  rw [hb4]
  clear hb4
  go_upto_region 3 with (go_at_call 5; refine (begins8_any _).mono ?_; rintro e w2 ⟨rfl, hb2⟩; have HP2 := hide (HP1.out.step hb2); clear hb2)
  clear HP1
  obtain ⟨p0, p1, p2⟩ := HP2.out.cells
  by_cases h20 : nn ≤ 20
  case neg =>
    have e1 : decide ((20 : Int) < nn) = true := by simp; omega
    have e0 : decide (20 < nn) = true := by simp; omega
    clear HPl HPn
    go_wp2
    go_ret
    exact ⟨rfl, HP2.out.bel⟩
  have e1 : decide ((20 : Int) < nn) = false := by simp; omega
  have e0 : decide (20 < nn) = false := by simp; omega
  have HPw := hide (HPl.out h20)
  have HPN := hide (HPn.out h20)
  clear HPl HPn
  go_wp2_with fail
  refine (check_any (cN := cN) (en := en) (top := top) (HPN.out.at_ HP2.out.bel) links).mono ?_
  rintro e w3 ⟨⟨r, rfl, hr, hr7⟩, hb3⟩
  have HP3 := hide (HP2.out.step hb3)
  clear hb3 HP2 p0 p1 p2
  by_cases hr0 : r = 0
  case neg =>
    obtain rfl : r = 7 := hr7.resolve_left hr0
    clear hr hr0 hr7
    go_wp2
    go_ret
    exact ⟨rfl, HP3.out.bel⟩
  subst hr0
  have HC := hide (hr.1 rfl)
  clear hr hr7
  obtain ⟨p0, p1, p2⟩ := HP3.out.cells
  go_wp2_with fail
  refine (there_any (nn := nn) (cN := cN) (en := en) (top := top) (HPN.out.at_ HP3.out.bel).nd HPN.out.len slot).mono ?_
  rintro e w4 ⟨rfl, hb4⟩
  have HP4 := hide (HP3.out.step hb4)
  clear hb4 HP3 p0 p1 p2
  rcases ht : thereF ns slot with _ | _
  · clear ht
    go_wp2
    go_ret
    exact ⟨rfl, HP4.out.bel⟩
  have HT := hide ht
  have hrg := there_lt ht
  clear ht
  obtain ⟨m, rfl⟩ : ∃ m : Nat, slot = m := ⟨slot.toNat, by omega⟩
  have hm1 : m < nn := by have := HPN.out.len; omega
  have m00 : (0 : Int) ≤ m := by omega
  have m01 : (m : Int) < nn := by omega
  clear hrg e0 e1
  obtain ⟨p0, p1, p2⟩ := HP4.out.cells
  go_wp2_with fail
  refine (drop_any (cN := cN) (HPN.out.at_ HP4.out.bel) HC.out HT.out).mono ?_
  rintro e w5 ⟨Ad, cd, end_, topd, nsd, rfl, hor, hdp, hokd⟩
  have HDp := hide hdp
  have HP5 := hide (HP4.out.step hor.bel)
  have HPNd := hide (hor.pl (by rw [hdp.len]; exact HPN.out.len) (fun x hx => (hokd x hx).1) (fun x hx => (hokd x hx).2.1) h20 fun x hx => (hokd x hx).2.2)
  have HWd := hide (drop_whole HC.out HT.out hdp)
  clear hor hdp hokd HP4 p0 p1 p2
  go_upto_region 6 with fail
  have hb := below1 w5 (.cells #[.slice Ad nn cd, .int .i64 end_, .int .i64 topd] 24)
  have HV := hide (Blk.new w5 24 #[.slice Ad nn cd, .int .i64 end_, .int .i64 topd])
  replace HPNd := hide (HPNd.out.at_ hb)
  have HP6 := hide (HP5.out.step hb)
  clear hb HP5
  generalize World.alloc w5 _ = w6 at *
  generalize w5.heap.size = b9 at *
  obtain ⟨y0, y1, y2⟩ := HV.out.cell3
  go_wp2_with fail
  refine (whole_any (cN := cd) (en := end_) (top := topd) HPNd.out).mono ?_
  rintro e w7 ⟨lw, hlw, rfl, hb⟩
  have e7 : decide (lw.length = (liveF nsd).length) = true := decide_eq_true (from_whole hlw HWd.out).length_eq
  rw [e7]
  replace HPNd := hide (HPNd.out.at_ hb)
  have HP7 := hide (HP6.out.step hb)
  replace HV := hide (HV.out.below hb HV.out.lt)
  clear hb HP6 e7 hlw y0 y1 y2
  obtain ⟨p0, p1, p2⟩ := HP7.out.cells
  obtain ⟨ad, x, V, cV, L, cL, hA, hbl, hkx, hcc⟩ := (HPN.out.at_ HP7.out.bel).nd.node (k := m) (by have := HPN.out.len; omega)
  have HId := hide (show (itemF ns (m : Int)).1 = x.1.1 by rw [itemF_at hkx])
  have HAd := hide hA
  subst hA
  have z0 := hcc.c0
  obtain ⟨id, hid⟩ : ∃ z, x.1.1 = z := ⟨_, rfl⟩
  rw [hid] at z0 HId
  clear hid hkx hcc hbl
  go_upto_region 10 with fail
  have CS := hide (seAll_any (cN := cN) (en := en) (top := top) (HPw.out.at_ HP7.out.bel) (check_whole HC.out) hq6)
  go_wp2_with (go_at_call 10; refine CS.out.mono ?_; rintro e w8 ⟨A8, n8, c8, rfl, k1, k2, k3, k4, hb⟩; have HL8 := hide k1; have HR8 := hide k4; have HP8 := hide (HP7.out.step hb); have HPNd8 := hide (HPNd.out.at_ hb); have HV8 := hide (HV.out.below hb HV.out.lt); clear k1 k4 hb)
  clear CS p0 p1 p2 z0 HP7 HPNd HV
  have hdf := drop_found (q := qs) HC.out HT.out HDp.out
  have h8 : n8 ≤ 20 := by
    have h1 := hitsM_le qs 0 ((liveF ns).map (itemF ns))
    rw [List.length_map] at h1
    have := live_leN ns; have := HL8.out; have := HPN.out.len
    omega
  obtain ⟨R, hR⟩ : ∃ R, hitsM qs 0 ((liveF ns).map (itemF ns)) = R := ⟨_, rfl⟩
  rw [hR] at HL8 HR8 hdf
  rw [HId.out] at hdf
  have HDf := hide hdf
  clear hdf hR
  have HO0 := hide (World.ownsRow_nil (w := w8) w8.heap.size 42 2)
  have HB8 := hide (Below.refl w8.heap.size w8)
  go_loopw [12, 58] (fun o i wr => ∃ (k j : Nat) (A3 : Option Addr) (c3 : Nat), k ≤ n8 ∧ j ≤ k ∧ i = .int .i64 k ∧ o = .slice A3 j c3 ∧ j ≤ c3 ∧ c3 ≤ 9223372036854775807 ∧ Hid (((R.take k).filter (fun x => !(x.2 == id))).length = j) ∧ Hid (wr.ownsRow w8.heap.size 42 2 (.slice A3 j c3) j (fcs encH ((R.take k).filter (fun x => !(x.2 == id))))) ∧ Hid (Below w8.heap.size w8 wr)) (fun _ i _ => n8 - (intOf i).toNat)
  case atStart => exact ⟨0, 0, none, 0, by omega, by omega, rfl, rfl, by omega, by omega, hide rfl, HO0, HB8⟩
  case round =>
    obtain ⟨k, j, A3, c3, hk, hj, rfl, rfl, d1, d2, HLn, HO, HBr⟩ := hrel
    clear HO0 HB8
    by_cases hlt : k < n8
    · have g0 : (0 : Int) ≤ k := by omega
      have g1 : (k : Int) < n8 := by omega
      obtain ⟨adh, s, hA, _, hs, q0, q1⟩ := (HR8.out.at_world HBr.out).hcell (k := k) (by have := HL8.out; omega)
      subst hA
      obtain ⟨d, i2⟩ := s
      simp only at q0 q1
      have HB6 := hide (Below.step HBr.out (below1 wr (.cells #[.int .u64 d, .int .u64 i2] 42)))
      have HO6 := hide (own_keep HO.out fun g hg => Below.heap_alloc wr (.cells #[.int .u64 d, .int .u64 i2] 42) g (HO.out.lt g hg).2)
      have HBk := hide (Blk.new wr 42 #[.int .u64 d, .int .u64 i2])
      by_cases he : i2 = id
      · have e0 : (i2 != id) = false := by rw [he]; simp
        have HSn := hide (fltH_no (p := fun x : Hit => !(x.2 == id)) hs (by simp [he]))
        clear hs he
        go_upto_region 13 with fail
        clear q0 q1
        generalize World.alloc wr _ = w9 at *
        generalize wr.heap.size = b6 at *
        have r0 := HBk.out.cell 0
        have r1 := HBk.out.cell 1
        simp at r0 r1
        go_wp2
        go_roundw
        case rel => exact ⟨k + 1, j, A3, c3, by omega, by omega, by go_num, rfl, d1, d2, by rw [HSn.out]; exact HLn, by rw [HSn.out]; exact HO6, HB6⟩
        case measure => simp [intOf]; omega
      · have e0 : (i2 != id) = true := by simpa using he
        have HSn := hide (fltH_yes (p := fun x : Hit => !(x.2 == id)) hs (by simpa using he))
        clear hs he
        go_upto_region 13 with fail
        clear q0 q1
        generalize World.alloc wr _ = w9 at *
        generalize wr.heap.size = b6 at *
        have r0 := HBk.out.cell 0
        have r1 := HBk.out.cell 1
        simp at r0 r1
        go_wp2_with (at_builtin; refine wpList_append_elem rfl (.tmp 66) (.tmp 68) 39 rfl w8.heap.size Tryz.underlying39 info_hitB rfl (by decide) (.slice A3 j c3) j _ rfl HO6.out _ _ rfl rfl (by simp [Value.oneCell']) (by simp only [maxLen]; omega) (by omega) HB6.out.size ?_; intro v9 wn hown9 hgr9 hat9; have HO9 := hide (show wn.ownsRow w8.heap.size 42 2 v9 (j + 1) (fcs encH ((R.take (k + 1)).filter (fun x => !(x.2 == id)))) by rw [HSn.out, fcsH_snoc]; exact hown9); have HB9 := hide (below_own HB6.out HO6.out HB6.out.size hgr9); obtain ⟨An, cn, rfl, l1, l2⟩ := own_form hown9; clear hown9 hgr9 hat9)
        go_roundw
        case rel => exact ⟨k + 1, j + 1, An, cn, by omega, by omega, by go_num, rfl, l1, l2, hide (by rw [HSn.out, List.length_append, HLn.out]; rfl), HO9, HB9⟩
        case measure => simp [intOf]; omega
    · obtain rfl : n8 = k := by omega
      have e1 : R.take n8 = R := List.take_of_length_le (by rw [HL8.out]; exact Nat.le_refl _)
      rw [e1, HDf.out.1] at HLn HO
      clear e1
      have HRw := hide ((flatH.own HO.out).rd (B := wr.heap.size) fun d hd => hd.2)
      have HPr := hide (HP8.out.step HBr.out)
      have HPNr := hide (HPNd8.out.at_ HBr.out)
      have HVr := hide (HV8.out.below HBr.out HV8.out.lt)
      obtain ⟨y0, y1, y2⟩ := HVr.out.cell3
      obtain ⟨p0, p1, p2⟩ := HPr.out.cells
      have hPW := HPw.out.at_ HPr.out.bel
      have CS := hide (seAll_any (cN := cd) (en := end_) (top := topd) (⟨HPNr.out.nd, HPNr.out.len, HPNr.out.ok, HPNr.out.sm, HPNr.out.n20, hPW.q, hPW.lq, hPW.c1, hPW.c2, hPW.qi⟩ : PlW wr Ad nn nsd Aq nq cq qs) HWd.out hq6)
      have hlen := HDf.out.2
      rw [HLn.out] at hlen
      have HLen := hide hlen
      clear hPW hlen
      go_wp2_with fail
      refine CS.out.mono ?_
      rintro e wa ⟨Aa, na, ca, rfl, k1, k2, k3, k4, hb⟩
      have HLa := hide k1
      have HRa := hide k4
      have HRwa := hide (HRw.out.at_world hb)
      have HPa := hide (HPr.out.step hb)
      clear k1 k4 hb y0 y1 y2 p0 p1 p2 CS
      go_wp2_with fail
      refine (topSame_any Aa A3 na ca j c3 _ _ wa HRa.out HLa.out k2 k3 HRwa.out HLn.out d1 d2).mono ?_
      rintro e wb ⟨rfl, hd⟩
      have HPb := hide (HPa.out.step hd.below)
      clear hd
      rw [decide_eq_true (rfl : hitsM qs 0 ((liveF nsd).map (itemF nsd)) = hitsM qs 0 ((liveF nsd).map (itemF nsd)))]
      obtain ⟨p0, p1, p2⟩ := HPb.out.cells
      go_wp2_with fail
      refine (live_any (cN := cN) (en := en) (top := top) (HPN.out.at_ HPb.out.bel)).mono ?_
      rintro e wc ⟨Av, nv, cv, rfl, hl1, hc1, hc2, hr1, hb⟩
      have HPc := hide (HPb.out.step hb)
      have hnv : (nv : Int) - 1 = j := by have := HLen.out; omega
      have hv0 : 1 ≤ nv := by have := HLen.out; omega
      have hv1 : nv ≤ 21 := by have := HLen.out; omega
      have e9 : ((j : Int) == (nv : Int) - 1) = true := by rw [hnv]; simp
      clear hl1 hr1 hb p0 p1 p2 hnv
      go_wp2
      go_ret
      exact ⟨rfl, HPc.out.bel⟩
end
end Go.Proofs.YtlnbeeflifmnjadGreat
