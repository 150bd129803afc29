/-
  Texts of one part, put together. No condition.
-/
import Derived.Test.YtgiplahhalgbdaaGreatTafP
import Derived.Test.YtgiplahhalgbdaaGreatMge
import Derived.Test.YtgiplahhalgbdaaGreatItB
import Derived.Test.YtgiplahhalgbdaaGreatMgM
import Derived.Test.YtgiplahhalgbdaaGreatMgd
import Derived.Test.YtgiplahhalgbdaaGreatRaR
import Derived.Test.YtgiplahhalgbdaaGreatMgF
import Derived.Test.YtgiplahhalgbdaaGreatMgJ
/-
  The statement TopAllFound's own functions: begins22, all. Conditions: the plane is small.
-/
namespace Go.Proofs.YtgiplahhalgbdaaGreat
set_option linter.unusedSimpArgs false
set_option linter.unusedVariables false
open Go.RowKit

theorem bCount_any {A B : Option Addr} {w : World} (ha : Rd SH w w.heap.size A [(0, 1)]) (hb : Rd SH w w.heap.size B [(0, 1)]) : Calls Tryz.prog 9 #[.slice A 1 1, .slice B 1 1, .int .i64 1] w fun e w' => e = .returned (.tuple #[.int .i64 1, .int .i64 1]) ∧ Below w.heap.size w w' := by
  refine (eRCount_any A B 1 1 1 1 [(0, 1)] [(0, 1)] 1 w ha rfl (by omega) (by omega) (by intro h hh; obtain rfl := List.mem_singleton.1 hh; unfold wfH; omega) hb rfl (by omega) (by omega) (by intro h hh; obtain rfl := List.mem_singleton.1 hh; unfold wfH; omega)).mono ?_
  rintro e w' ⟨rfl, hb⟩
  exact ⟨by rw [show cntR (([(0, 1)] : List Hit).take (fstN 1 1)) (([(0, 1)] : List Hit).take (fstN 1 1)) = 1 from by decide, show fstN 1 1 = 1 from by decide]; rfl, hb⟩
set_option maxHeartbeats 4000000 in
set_option maxRecDepth 100000 in
theorem begins22_any (w : World) : Calls Tryz.prog 4 #[] w fun e w' => e = .returned (.bool true) ∧ Below w.heap.size w w' := by
  go_enter Tryz.func4, Tryz.ntmps4
  go_wp2_with fail
  have hb1 := below1 w (.cells #[.int .u64 0, .int .u64 1] 42)
  have hb2 := below1 (w.alloc (.cells #[.int .u64 0, .int .u64 1] 42)) (.cells #[.int .u64 0, .int .u64 1] 42)
  have HB := hide (Below.step hb1 hb2)
  have HG1 := hide ((flatH.blk (l := [(0, 1)]) (Blk.new w 42 #[.int .u64 0, .int .u64 1]) rfl).at_world hb2)
  have hg2 := flatH.blk (l := [(0, 1)]) (Blk.new (w.alloc (.cells #[.int .u64 0, .int .u64 1] 42)) 42 #[.int .u64 0, .int .u64 1]) rfl
  rw [show (w.alloc (.cells #[.int .u64 0, .int .u64 1] 42)).heap.size = w.heap.size + 1 from by simp] at hg2
  have HG2 := hide hg2
  clear hb1 hb2 hg2
  generalize World.alloc (World.alloc w _) _ = w2 at *
  generalize w.heap.size + 1 = g2 at *
  generalize hg1 : w.heap.size = g1 at HG1 ⊢
  have Hg1 := hide hg1
  clear hg1
  refine (bCount_any HG1.out HG2.out).mono ?_
  rintro e w3 ⟨rfl, hb⟩
  have HB3 := hide (Below.step HB.out hb)
  clear hb HB HG1 HG2
  go_wp2_with fail
  have hb1 := below1 w3 (.cells #[.int .u64 1] 26)
  have hb2 := below1 (w3.alloc (.cells #[.int .u64 1] 26)) (.cells #[.int .u64 2] 26)
  have HB4 := hide (Below.step HB3.out (Below.step hb1 hb2))
  have HG1 := hide (((flatInt .u64).blk (l := [1]) (Blk.new w3 26 #[.int .u64 1]) rfl).at_world hb2)
  have hg2 := (flatInt .u64).blk (l := [2]) (Blk.new (w3.alloc (.cells #[.int .u64 1] 26)) 26 #[.int .u64 2]) rfl
  rw [show (w3.alloc (.cells #[.int .u64 1] 26)).heap.size = w3.heap.size + 1 from by simp] at hg2
  have HG2 := hide hg2
  clear hb1 hb2 hg2
  generalize World.alloc (World.alloc w3 _) _ = w4 at *
  generalize w3.heap.size + 1 = g4 at *
  generalize w3.heap.size = g3 at *
  refine (apart12_any HG1.out HG2.out).mono ?_
  rintro e w5 ⟨rfl, hb⟩
  have HB5 := hide (Below.step HB4.out hb)
  clear hb HB4 HG1 HG2
  go_wp2
  go_ret
  exact ⟨rfl, HB5.out⟩
section
variable {w : World} {N : Option Addr} {nn cN : Nat} {ns : List NodeP} {en top : Int}
set_option maxHeartbeats 8000000 in
set_option maxRecDepth 100000 in
theorem all_any (hp : PlN w N nn ns) : Calls Tryz.prog 6 #[.agg #[.slice N nn cN, .int .i64 en, .int .i64 top]] w fun e w' => ∃ A k c, e = .returned (.slice A k c) ∧ (allI ns).length = k ∧ k ≤ 20 ∧ k ≤ c ∧ c ≤ 9223372036854775807 ∧ Rd SItem w' w'.heap.size A (allI ns) ∧ Below w.heap.size w w' := by
  have HPN := hide hp
  have h20 := hp.n20
  have HP1 := hide (PlB.start w #[.slice N nn cN, .int .i64 en, .int .i64 top])
  clear hp
  go_enter Tryz.func6, Tryz.ntmps6
  go_upto_region 1 with fail
  generalize World.alloc w _ = w1 at *
  obtain ⟨b6, hb6⟩ : ∃ b, w.heap.size = b := ⟨_, rfl⟩
  rw [hb6] at HP1
  rw [hb6]
  clear hb6
  obtain ⟨p0, p1, p2⟩ := HP1.out.cells
  go_wp2_with (go_at_call 15; refine (live_any (cN := cN) (en := en) (top := top) (HPN.out.at_ HP1.out.bel)).mono ?_; rintro e w4 ⟨A4, n4, c4, rfl, hl4, hc4, hc5, hr4, hb4⟩; have HL4 := hide hl4; have HK := hide (show ItB w w4 b6 #[.slice N nn cN, .int .i64 en, .int .i64 top] none 0 0 [] w4 from ⟨HP1.out.step hb4, ⟨[], World.ownsRow_nil _ _ _ _, RowX.nil⟩, Below.refl _ _, (Below.step HP1.out.bel hb4).size⟩); have HR4 := hide (hr4.rd fun d hd => hd.2); clear hl4 hr4 hb4)
  clear p0 p1 p2 HP1
  have h24 : n4 ≤ 20 := by have h := liveK_len ns ns.length; have := HL4.out; have := HPN.out.len; unfold liveF at *; omega
  go_loopw [3, 9] (fun v i wr => ∃ (k : Nat) (A : Option Addr) (c : Nat), k ≤ n4 ∧ i = .int .i64 k ∧ v = .slice A k c ∧ k ≤ c ∧ c ≤ 9223372036854775807 ∧ Hid (ItB w w4 b6 #[.slice N nn cN, .int .i64 en, .int .i64 top] A k c (itsF ns ((liveF ns).take k)) wr)) (fun _ i _ => n4 - (intOf i).toNat)
  case atStart => exact ⟨0, none, 0, by omega, rfl, rfl, by omega, by omega, HK⟩
  case round =>
    obtain ⟨k, A, c, hk, rfl, rfl, h1, h2, HB⟩ := hrel
    clear HK
    by_cases hlt : k < n4
    · have g0 : (0 : Int) ≤ k := by omega
      have g1 : (k : Int) < n4 := by omega
      obtain ⟨al, y, rfl, hal, hv, q0⟩ := RdR.icell (HR4.out.at_world HB.out.b4) (k := k) (by have := HL4.out; omega)
      have HSn := hide (its_snoc (ns := ns) hv)
      have hth := live_mem.1 (List.mem_of_getElem? hv)
      have hrg := there_lt hth
      obtain ⟨m, rfl⟩ : ∃ m : Nat, y = m := ⟨y.toNat, by omega⟩
      have hm1 : m < ns.length := by omega
      have m0 : (0 : Int) ≤ m := by omega
      have m1 : (m : Int) < nn := by have := HPN.out.len; omega
      obtain ⟨ad, x, V, cV, L, cL, hA, hbl, hkx, hcc⟩ := HPN.out.nd.node (k := m) hm1
      have HIt := hide (itemF_at hkx)
      have HAd := hide hA
      subst hA
      have hba : (ad.add (m * 7)).block = ad.block := block_of_add _ _
      have hcell : ∀ p : Addr, p.block = ad.block → wr.cell? p = w.cell? p := fun p hp => HB.out.p.bel.cell (by rw [hp]; exact hbl)
      have z0 := (hcell _ hba).trans hcc.c0
      have z1 := (hcell ⟨(ad.add (m * 7)).block, (ad.add (m * 7)).off + 1, none⟩ hba).trans hcc.c1
      have z2 := (hcell ⟨(ad.add (m * 7)).block, (ad.add (m * 7)).off + 2, none⟩ hba).trans hcc.c2
      obtain ⟨⟨id, vs, tg⟩, lv, ls, nx, pv⟩ := x
      simp only at z0 z1 z2
      have HRi := hide (item_of (x := (id, vs, tg)) hcc.v1 hcc.v2 hcc.v)
      have hv2 := hcc.v2
      obtain ⟨xs, hox, hrx⟩ := HB.out.own
      have HO := hide hox
      have HRx := hide hrx
      obtain ⟨p0, p1, p2⟩ := HB.out.p.cells
      clear hox hrx hcell hba hbl hkx hcc hth hrg hv
      obtain ⟨nv, hnv⟩ : ∃ n, vs.length = n := ⟨_, rfl⟩
      rw [hnv] at z1 HRi
      clear hnv
      go_wp2_with (at_builtin; refine wpList_append_elem rfl (.tmp 13) (.tmp 20) 30 rfl w4.heap.size Tryz.underlying30 info_itemE rfl (by decide) (.slice A k c) k xs rfl HO.out _ _ rfl rfl (by simp [Value.oneCell']) (by simp only [maxLen]; omega) (by omega) HB.out.b4.size ?_; intro v9 w9 hown9 hgr9 hat9; obtain ⟨A8, c8, rfl, l1, l2⟩ := own_form hown9; have HB9 := hide (show ItB w w4 b6 #[.slice (some ad) nn cN, .int .i64 en, .int .i64 top] A8 (k + 1) c8 (itsF ns ((liveF ns).take (k + 1))) w9 from ItB.app HB.out HO.out HRx.out hgr9 hown9 HRi.out (by rw [HSn.out, HIt.out])); clear hown9 hgr9 hat9)
      go_roundw
      case rel => exact ⟨k + 1, A8, c8, by omega, by go_num, rfl, l1, l2, HB9⟩
      case measure => simp [intOf]; omega
    · obtain rfl : n4 = k := by omega
      have HIts := hide (show itsF ns ((liveF ns).take n4) = allI ns from by rw [List.take_of_length_le (by rw [HL4.out]; exact Nat.le_refl _)]; rfl)
      rw [HIts.out] at HB
      go_wp2
      go_ret
      exact ⟨_, _, _, rfl, by unfold allI; rw [List.length_map]; exact HL4.out, h24, h1, h2, HB.out.rd, HB.out.p.bel⟩
end
end Go.Proofs.YtgiplahhalgbdaaGreat

/-
  The law TopAllFound: the walk. Conditions: the slices read as lists, what they hold is small.
-/
namespace Go.Proofs.YtgiplahhalgbdaaGreat
set_option linter.unusedSimpArgs false
set_option linter.unusedVariables false
open Go.RowKit

theorem live_leT (ns : List NodeP) : (allI ns).length ≤ ns.length := by
  unfold allI
  rw [List.length_map]
  exact there_len (ns := ns) (liveK_nodup ns _ : (liveF ns).Nodup) fun x hx => live_mem.1 hx
/-- the plane's variable, the items, the truth -/
structure TaB (w : World) (b6 : Nat) (cs : Array Value) (Ai : Option Addr) (its : List ItemP) (At_ : Option Addr) (T : List Hit) (W : World) : Prop where
  p : PlB w b6 cs W
  i : Rd SItem W W.heap.size Ai its
  t : Rd SH W W.heap.size At_ T
theorem TaB.step {w W W' : World} {b6 : Nat} {cs : Array Value} {Ai At_ : Option Addr} {its : List ItemP} {T : List Hit} (h : TaB w b6 cs Ai its At_ T W) (hb : Below W.heap.size W W') : TaB w b6 cs Ai its At_ T W' := ⟨h.p.step hb, h.i.at_world hb, h.t.at_world hb⟩
section
variable {w : World} {N : Option Addr} {nn cN : Nat} {ns : List NodeP} {en top : Int} {Aq : Option Addr} {nq cq : Nat} {qs : List Int}
set_option maxHeartbeats 16000000 in
set_option maxRecDepth 100000 in
theorem topAllFound_any (hx : Rd SNode w w.heap.size N ns) (hn : ns.length = nn) (hc : nn ≤ cN) (hm : cN ≤ 9223372036854775807) (hok : ∀ x ∈ ns, OkN x) (hsm : ∀ x ∈ ns, SmN x) (hidw : ∀ x ∈ ns, (Lit.int .u64 x.1.1).wf = true)
    (hq : Rd (Sh.int .i32) w w.heap.size Aq qs) (hnq : qs.length = nq) (hcq : nq ≤ cq) (hcq2 : cq ≤ 9223372036854775807) (hqi : I32 qs) (hq6 : nq ≤ 1048576) (links mask k ef : Int) :
    Calls Tryz.prog 3 #[.agg #[.slice N nn cN, .int .i64 en, .int .i64 top], .int .i64 links, .slice Aq nq cq, .int .u64 mask, .int .i64 k, .int .i64 ef] w fun e w' => e = .returned (.bool true) ∧ Below w.heap.size w w' := by
  have HP1 := hide (PlB.start w #[.slice N nn cN, .int .i64 en, .int .i64 top])
  have HPl := hide (fun (h : nn ≤ 20) => (⟨hx, hn, hok, hsm, h, hq, hnq, hcq, hcq2, hqi⟩ : PlW w N nn ns Aq nq cq qs))
  have HPn := hide (fun (h : nn ≤ 20) => (⟨hx, hn, hok, hsm, h, hidw⟩ : PlN w N nn ns))
  have HIw := hide (show ∀ it ∈ allI ns, 0 ≤ it.1 ∧ it.1 ≤ 18446744073709551615 from fun it hit => by
    obtain ⟨x, hx', rfl⟩ := List.mem_map.1 hit
    have h := there_lt (live_mem.1 hx')
    obtain ⟨m, rfl⟩ : ∃ m : Nat, x = m := ⟨x.toNat, by omega⟩
    obtain ⟨y, hy⟩ : ∃ y, ns[m]? = some y := ⟨_, List.getElem?_eq_getElem (by omega)⟩
    rw [itemF_at hy]
    have := hidw y (List.mem_of_getElem? hy)
    simpa [Lit.wf, IntKind.min, IntKind.max, IntKind.signed, IntKind.bits] using this)
  have HIi := hide (show ItsI (allI ns) from by
    intro it hit
    obtain ⟨x, hx', rfl⟩ := List.mem_map.1 hit
    have h := there_lt (live_mem.1 hx')
    obtain ⟨m, rfl⟩ : ∃ m : Nat, x = m := ⟨x.toNat, by omega⟩
    obtain ⟨y, hy⟩ : ∃ y, ns[m]? = some y := ⟨_, List.getElem?_eq_getElem (by omega)⟩
    rw [itemF_at hy]
    exact (hok y (List.mem_of_getElem? hy)).v)
  clear hx hn hok hsm hq hnq hqi hidw
  go_enter Tryz.func3, Tryz.ntmps3
  go_upto_region 1 with fail
  generalize World.alloc w _ = w1 at *
  obtain ⟨b6, hb6⟩ : ∃ b, w.heap.size = b := ⟨_, rfl⟩
  rw [hb6] at HP1
  rw [hb6]
  clear hb6
  go_upto_region 3 with (go_at_call 4; refine (begins22_any _).mono ?_; rintro e w2 ⟨rfl, hb2⟩; have HP2 := hide (HP1.out.step hb2); clear hb2)
  clear HP1
  obtain ⟨p0, p1, p2⟩ := HP2.out.cells
  by_cases h20 : nn ≤ 20
  case neg =>
    have e1 : decide ((20 : Int) < nn) = true := by simp; omega
    have e0 : decide (20 < nn) = true := by simp; omega
    clear HPl HPn
    go_wp2
    go_ret
    exact ⟨rfl, HP2.out.bel⟩
  have e1 : decide ((20 : Int) < nn) = false := by simp; omega
  have e0 : decide (20 < nn) = false := by simp; omega
  have HPw := hide (HPl.out h20)
  have HPN := hide (HPn.out h20)
  clear HPl HPn
  go_wp2_with fail
  refine (check_any (cN := cN) (en := en) (top := top) (HPN.out.at_ HP2.out.bel) links).mono ?_
  rintro e w3 ⟨⟨r, rfl, hr, hr7⟩, hb3⟩
  have HP3 := hide (HP2.out.step hb3)
  clear hb3 HP2 p0 p1 p2
  by_cases hr0 : r = 0
  case neg =>
    obtain rfl : r = 7 := hr7.resolve_left hr0
    clear hr hr0 hr7
    go_wp2
    go_ret
    exact ⟨rfl, HP3.out.bel⟩
  subst hr0
  have HC := hide (hr.1 rfl)
  clear hr hr7
  by_cases h50 : nq ≤ 50
  case neg =>
    have e2 : decide ((50 : Int) < nq) = true := by simp; omega
    have e3 : decide (50 < nq) = true := by simp; omega
    go_wp2
    go_ret
    exact ⟨rfl, HP3.out.bel⟩
  have e2 : decide ((50 : Int) < nq) = false := by simp; omega
  have e3 : decide (50 < nq) = false := by simp; omega
  by_cases hk0 : k < 0
  case pos =>
    have e4 : decide (k < 0) = true := decide_eq_true hk0
    clear hk0
    go_wp2
    go_ret
    exact ⟨rfl, HP3.out.bel⟩
  have e4 : decide (k < 0) = false := decide_eq_false hk0
  by_cases hk4 : 40 < k
  case pos =>
    have e5 : decide (40 < k) = true := decide_eq_true hk4
    clear hk0 hk4
    go_wp2
    go_ret
    exact ⟨rfl, HP3.out.bel⟩
  have e5 : decide (40 < k) = false := decide_eq_false hk4
  have hka : 0 ≤ k := by omega
  have hkb : k ≤ 40 := by omega
  clear hk0 hk4
  obtain ⟨p0, p1, p2⟩ := HP3.out.cells
  go_upto_region 6 with (go_at_call 6; refine (all_any (cN := cN) (en := en) (top := top) (HPN.out.at_ HP3.out.bel)).mono ?_; rintro e w4 ⟨Ai, n4, c4, rfl, k1, k2, k3, k4, k5, hb4⟩; have HL4 := hide k1; have HR4 := hide k5; have HP4 := hide (HP3.out.step hb4); clear k1 k5 hb4)
  clear e0 e1 e2 e3 e4 e5 p0 p1 p2 HP3
  have CS := hide (search_any Ai Aq n4 c4 nq cq (allI ns) qs mask k w4 HR4.out HL4.out HIi.out k3 k4 (HPw.out.at_ HP4.out.bel).q HPw.out.lq HPw.out.qi HPw.out.c1 HPw.out.c2 (by omega))
  go_upto_region 7 with (go_at_call 7; refine CS.out.mono ?_; rintro e w5 ⟨v5, rfl, At5, n5, c5, rfl, m1, m2, m3, m4, m5⟩; rw [take_lstU] at m1 m4; have HL5 := hide m1; have HB5 := hide (show TaB w b6 #[.slice N nn cN, .int .i64 en, .int .i64 top] Ai (allI ns) At5 ((hitsM qs mask (allI ns)).take k.toNat) w5 from ⟨HP4.out.step m5, HR4.out.at_world m5, m4.rd fun d hd => hd.2⟩); clear m1 m4 m5)
  clear CS HP4 HR4
  obtain ⟨kk, hkk⟩ : ∃ x, k.toNat = x := ⟨_, rfl⟩
  have Hkk := hide hkk
  rw [hkk] at HB5 HL5
  clear hkk
  have HB5d := hide (HB5.out.step (Below.refl _ _).drew)
  clear HB5
  refine startO (S := (fun W => TaB w b6 #[.slice N nn cN, .int .i64 en, .int .i64 top] Ai (allI ns) At5 ((hitsM qs mask (allI ns)).take kk) W)) 13 (by as_aux_lemma => kernel_rfl) (by as_aux_lemma => kernel_rfl) HB5d.out (fun hHeld => ?_)
  generalize World.drew _ = Wd at *
  refine putsO [1, 2, 3, 6, 7, 8, 9] [9, 8, 7, 6, 3, 2, 1] [(61, .int .i64 ef), (60, .int .i64 k), (59, .int .u64 mask), (58, .slice Aq nq cq), (55, .int .i64 k), (54, .int .u64 mask), (53, .slice Aq nq cq)] 7 rfl [53, 54, 55, 58, 59, 60, 61] (by as_aux_lemma => kernel_rfl) (by as_aux_lemma => kernel_rfl) rfl (fun _ _ _ _ _ h => h) hHeld ?_
  refine takeO 0 52 (.load 24 (.const (.pointer (some ⟨b6, 0, none⟩)))) 24 (.agg #[.slice N nn cN, .int .i64 en, .int .i64 top]) (by as_aux_lemma => kernel_rfl) (by as_aux_lemma => kernel_rfl) (by as_aux_lemma => kernel_rfl) (fun _ _ _ _ _ h => h) (fun W hS => by obtain ⟨z0, z1, z2⟩ := hS.p.cells; clear hS hHeld; unfold cEv opC; as_aux_lemma => first | (go_simp; done) | (go_simp <;> rfl)) hHeld ?_
  refine takeO 5 57 (.load 24 (.const (.pointer (some ⟨b6, 0, none⟩)))) 24 (.agg #[.slice N nn cN, .int .i64 en, .int .i64 top]) (by as_aux_lemma => kernel_rfl) (by as_aux_lemma => kernel_rfl) (by as_aux_lemma => kernel_rfl) (fun _ _ _ _ _ h => h) (fun W hS => by obtain ⟨z0, z1, z2⟩ := hS.p.cells; clear hS hHeld; unfold cEv opC; as_aux_lemma => first | (go_simp; done) | (go_simp <;> rfl)) hHeld ?_
  refine readyO [4] (by as_aux_lemma => kernel_rfl) (by simp) ?_
  refine callO 4 56 (.call { callee := .value (.func 8), args := #[.const (.agg #[.slice N nn cN, .int .i64 en, .int .i64 top]), .const (.slice Aq nq cq), .const (.int .u64 mask), .const (.int .i64 k), .const (.int .i64 40)], argTypes := #[24, 25, 26, 3, 3] }) 32 8 #[.agg #[.slice N nn cN, .int .i64 en, .int .i64 top], .slice Aq nq cq, .int .u64 mask, .int .i64 k, .int .i64 40] (by as_aux_lemma => kernel_rfl) (by as_aux_lemma => kernel_rfl) (by unfold cEv opC; go_simp) ?_ AllReadyH.nil
  refine (bSearch_any (HPw.out.at_ hHeld.p.bel) (by omega) k (mask := mask) (ef := 40) (cN := cN) (en := en) (top := top)).mono ?_
  rintro e w6 ⟨l6, t6, k6, A6, n6, c6, rfl, h1, h2, h3, h4, h5, h6, h7, h8⟩
  refine ⟨_, rfl, (hHeld.step h8), fun hHeld2 => ?_⟩
  clear hHeld
  have hHeld := hHeld2
  clear hHeld2
  have hfu : (t6.2.2.take k.toNat).map (·.1) = (hitsM qs mask (allI ns)).take kk := by
    have hK : (liveF ns).length ≤ mostB (max k 40) := by
      have h := live_leT ns
      unfold allI at h
      rw [List.length_map] at h
      have := HPN.out.len
      rw [Int.max_eq_right hkb]
      have : mostB 40 = 40 := rfl
      omega
    obtain ⟨dn, i1, i2, i3, i4, i5⟩ := know_all HC.out (l := l6) (start_near h1) hK h2
    rw [found_all i1 i4 hK, Hkk.out]; rfl
  rw [hfu] at h3 h7
  have HL6 := hide h3
  have HR6 := hide (h7.rd (B := w6.heap.size) fun d hd => hd.2)
  clear h1 h2 h3 h7 h8 hfu
  refine readyO [10] (by as_aux_lemma => kernel_rfl) (by simp) ?_
  refine callO 10 62 (.call { callee := .value (.func 8), args := #[.const (.agg #[.slice N nn cN, .int .i64 en, .int .i64 top]), .const (.slice Aq nq cq), .const (.int .u64 mask), .const (.int .i64 k), .const (.int .i64 ef)], argTypes := #[24, 25, 26, 3, 3] }) 32 8 #[.agg #[.slice N nn cN, .int .i64 en, .int .i64 top], .slice Aq nq cq, .int .u64 mask, .int .i64 k, .int .i64 ef] (by as_aux_lemma => kernel_rfl) (by as_aux_lemma => kernel_rfl) (by unfold cEv opC; go_simp) ?_ AllReadyH.nil
  refine (bSearch_any (HPw.out.at_ hHeld.p.bel) (by omega) k (mask := mask) (ef := ef) (cN := cN) (en := en) (top := top)).mono ?_
  rintro e w7 ⟨l7, t7, k7, A7, n7, c7, rfl, g1, g2, g3, g4, g5, g6, g7, g8⟩
  refine ⟨_, rfl, (hHeld.step g8), fun hHeld2 => ?_⟩
  clear hHeld
  have hHeld := hHeld2
  clear hHeld2
  obtain ⟨a, hsub, hso⟩ := some_of g2
  have hso2 : (t7.2.2.take k.toNat).map (·.1) = (hitsM qs mask a).take (min kk (mostB (max k ef))) := by
    rw [List.map_take, hso, List.take_take, Hkk.out]
  rw [hso2] at g3 g7
  have HL7 := hide g3
  have HR7 := hide (g7.rd (B := w7.heap.size) fun d hd => hd.2)
  have HR6 := hide (HR6.out.at_world g8)
  have HSub := hide hsub
  clear g1 g2 g3 g7 g8 hso hso2 hsub
  refine putsO [11, 12] [12, 11] [(16, .slice A7 n7 c7), (15, .slice A6 n6 c6)] 2 rfl [15, 16] (by as_aux_lemma => kernel_rfl) (by as_aux_lemma => kernel_rfl) rfl (fun _ _ _ _ _ h => h) hHeld ?_
  refine doneO [(15, .slice A6 n6 c6), (0, .slice A7 n7 c7), (35, .agg #[.slice N nn cN, .int .i64 en, .int .i64 top]), (0, .slice Aq nq cq), (0, .int .u64 mask), (0, .int .i64 k), (0, .slice A6 n6 c6), (0, .agg #[.slice N nn cN, .int .i64 en, .int .i64 top]), (0, .slice Aq nq cq), (0, .int .u64 mask), (0, .int .i64 k), (0, .int .i64 ef), (0, .slice A7 n7 c7)] (by as_aux_lemma => kernel_rfl) (by as_aux_lemma => kernel_rfl) ?_
  simp only [fillG]
  have HB7 := hide hHeld
  clear hHeld
  obtain ⟨H, hH⟩ : ∃ H, hitsM qs mask (allI ns) = H := ⟨_, rfl⟩
  obtain ⟨m7, hm7⟩ : ∃ m, min kk (mostB (max k ef)) = m := ⟨_, rfl⟩
  have hHl : H.length ≤ 20 := by
    have h1 := hitsM_le qs mask (allI ns)
    have h2 := live_leT ns
    have := HPN.out.len
    rw [← hH]
    omega
  have HW := hide (show ∀ n, ∀ h ∈ H.take n, wfH h from fun n => by rw [← hH]; exact wf_hits HIw.out n)
  have HWS := hide (show ∀ h ∈ (hitsM qs mask a).take m7, wfH h from wf_hits (fun it hit => HIw.out it (HSub.out.subset hit)) m7)
  have HMn := hide (show missR H ((hitsM qs mask a).take m7) = [] from hH ▸ miss_none HSub.out m7)
  have HMr := hide (show (missR ((hitsM qs mask a).take m7) H).length + ((hitsM qs mask a).take m7).length = H.length from hH ▸ miss_rest HSub.out (all_ids HC.out) m7)
  have HBe := hide (show ∀ n, n ≤ (H.take kk).length → n ≤ ((hitsM qs mask a).take m7).length → behK (H.take kk) ((hitsM qs mask a).take m7) n = 0 from fun n => hH ▸ beh_some HSub.out kk m7 n)
  rw [hH] at HL5 HL6 HR6 HB7
  rw [hm7] at HL7 HR7
  obtain ⟨S, hS⟩ : ∃ S, (hitsM qs mask a).take m7 = S := ⟨_, rfl⟩
  rw [hS] at HL7 HR7 HWS HMn HMr HBe
  have HHd := hide hH
  have hnk : n5 ≤ kk := by have := HL5.out; rw [List.length_take] at this; omega
  have hn65 : n6 = n5 := by have := HL5.out; have := HL6.out; omega
  subst hn65
  clear hH hm7 hS HSub
  obtain ⟨T, hT⟩ : ∃ T, H.take kk = T := ⟨_, rfl⟩
  have HWT := hide (show ∀ h ∈ T, wfH h from hT ▸ HW.out kk)
  rw [hT] at HL5 HL6 HR6 HB7 HBe
  have Hf5 := hide (show fstN k n6 = n6 from fst_all (by rw [Hkk.out]; exact hnk))
  have HT5 := hide (show cntR (T.take (fstN k n6)) (T.take (fstN k n6)) = n6 from by rw [Hf5.out, List.take_of_length_le (by rw [HL5.out]; exact Nat.le_refl _), cnt_self]; exact HL5.out)
  have hn7 : n7 ≤ 20 := by have := HMr.out; have := HL7.out; omega
  have h65 : n6 ≤ 20 := by have := HL5.out; rw [← hT, List.length_take] at this; omega
  have HTk := hide hT
  clear hT
  go_wp2_with fail
  refine (eRCount_any A6 At5 n6 c6 n6 c5 T T k _ HR6.out HL6.out h5 h6 HWT.out HB7.out.t HL5.out m2 m3 HWT.out).mono ?_
  rintro e w8 ⟨rfl, hb⟩
  rw [HT5.out, Hf5.out]
  replace HB7 := hide (HB7.out.step hb)
  replace HR6 := hide (HR6.out.at_world hb)
  replace HR7 := hide (HR7.out.at_world hb)
  clear hb HT5
  have e6 : ((n6 : Int) != n6) = false := by simp
  have e6' : (n6 != n6) = false := by simp
  go_wp2_with fail
  refine (ePermille_any n6 n6 _).mono ?_
  rintro e w9 ⟨rfl, hb⟩
  rw [(per_iff (Nat.le_refl n6) (by omega)).2.2 rfl]
  replace HB7 := hide (HB7.out.step hb)
  replace HR6 := hide (HR6.out.at_world hb)
  replace HR7 := hide (HR7.out.at_world hb)
  clear hb
  go_wp2_with fail
  refine (eMissing_any A6 At5 n6 c6 n6 c5 T T _ HR6.out HL6.out h5 h6 HWT.out HB7.out.t HL5.out m2 m3 (by omega) HWT.out).mono ?_
  rintro e wa ⟨va, rfl, Aa, na, ca, rfl, q1, q2, q3, q4, hb⟩
  rw [miss_self] at q1
  obtain rfl : 0 = na := q1
  replace HB7 := hide (HB7.out.step hb)
  replace HR7 := hide (HR7.out.at_world hb)
  clear hb q4 q2 q3 HR6
  go_wp2_with fail
  refine (search_any Ai Aq n4 c4 nq cq (allI ns) qs mask 40 _ HB7.out.i HL4.out HIi.out k3 k4 (HPw.out.at_ HB7.out.p.bel).q HPw.out.lq HPw.out.qi HPw.out.c1 HPw.out.c2 (by omega)).mono ?_
  rintro e wb ⟨vb, rfl, Ab, nb, cb, rfl, q1, q2, q3, q4, hb⟩
  rw [HHd.out, take_lstU, List.take_of_length_le (show H.length ≤ (40 : Int).toNat by have : (40 : Int).toNat = 40 := rfl; omega)] at q1 q4
  have HLb := hide q1
  have HRb := hide (q4.rd (B := wb.heap.size) fun d hd => hd.2)
  replace HB7 := hide (HB7.out.step hb)
  replace HR7 := hide (HR7.out.at_world hb)
  have HWb := hide (show ∀ h ∈ H, wfH h from fun h hh => HW.out H.length h (by rw [List.take_of_length_le (Nat.le_refl _)]; exact hh))
  clear hb q1 q4
  go_wp2_with fail
  refine (r_behind_any At5 A7 n6 c5 n7 c7 T S k _ HB7.out.t HL5.out m2 m3 HWT.out HR7.out HL7.out g5 g6 HWS.out).mono ?_
  rintro e wc ⟨rfl, hd⟩
  rw [HBe.out _ (by have := HL5.out; unfold fstN; omega) (by have := HL7.out; unfold fstN; omega)]
  have hb := hd.below
  replace HB7 := hide (HB7.out.step hb)
  replace HR7 := hide (HR7.out.at_world hb)
  replace HRb := hide (HRb.out.at_world hb)
  clear hb hd HBe
  have hM0 : hM 0 = 0 := by decide
  rw [hM0]
  clear hM0
  go_wp2_with fail
  refine (eMissing_any Ab A7 nb cb n7 c7 H S _ HRb.out HLb.out q2 q3 HWb.out HR7.out HL7.out g5 g6 (by omega) HWS.out).mono ?_
  rintro e wd ⟨vd, rfl, Ad, nd, cd, rfl, r1, r2, r3, r4, hb⟩
  rw [HMn.out] at r1
  obtain rfl : 0 = nd := r1
  replace HB7 := hide (HB7.out.step hb)
  replace HR7 := hide (HR7.out.at_world hb)
  replace HRb := hide (HRb.out.at_world hb)
  clear hb r4 r2 r3 HMn
  go_wp2_with fail
  refine (eMissing_any A7 Ab n7 c7 nb cb S H _ HR7.out HL7.out g5 g6 HWS.out HRb.out HLb.out q2 q3 (by have := HLb.out; omega) HWb.out).mono ?_
  rintro e we ⟨ve, rfl, Ae, ne, ce, rfl, r1, r2, r3, r4, hb⟩
  have HBe := hide (Below.step HB7.out.p.bel hb)
  have hfin : (nb : Int) - n7 = ne := by have := HMr.out; have := HL7.out; have := HLb.out; omega
  have hnb : nb ≤ 20 := by have := HLb.out; omega
  have e9 : ((ne : Int) == (nb : Int) - n7) = true := by rw [hfin]; simp
  clear r1 r4 hb hfin
  go_wp2
  go_ret
  exact ⟨rfl, HBe.out⟩
end
end Go.Proofs.YtgiplahhalgbdaaGreat
