/-
  lives of the law's package. No condition.
-/
import Derived.Test.YtoadcfjkommlkacRiL
import Derived.Test.YtoadcfjkommlkacEqI
namespace Go.Proofs.Ytoadcfjkommlkac
set_option linter.unusedSimpArgs false
set_option linter.unusedVariables false
open Go.RowKit

def lv0 : List Int := [8193, 0, 0, 0]
def lj : List Opr := [(2, 0, 0), (0, 2, 2)]
def lvx : List Int := [24579, 0, 8193, 0]
def lk : List Opr := [(1, 2, 0), (2, 0, 1), (0, 1, 2)]
def lvy : List Int := [24578, 8195, 16385, 0]
def lc : List Opr := [(1, 0, 0), (0, 1, 1), (2, -1, -1)]
def lvz : List Int := [16386, 8193, 0, 0]
theorem lv0_eq : newW (newM 3) = lv0 := by kernel_rfl
theorem lj_eq : joinW lv0 2 = lj := by kernel_rfl
theorem lvx_eq : doW lv0 (lj.map opT) = lvx := by kernel_rfl
theorem lk_eq : joinW lvx 1 = lk := by kernel_rfl
theorem lvy_eq : doW lvx (lk.map opT) = lvy := by kernel_rfl
theorem lc_eq : cutW lvy 2 = lc := by kernel_rfl
theorem lvz_eq : doW lvy (lc.map opT) = lvz := by kernel_rfl
theorem ly_list : listW lvy = [1, 2] := by kernel_rfl
theorem lz_list : listW lvz = [1] := by kernel_rfl
theorem ly_check : checkW lvy = 0 := by kernel_rfl
theorem ln_check : checkW [] = 7 := by kernel_rfl
theorem ly_at : atW lvy 2 = (0, 1) := by kernel_rfl
theorem ly_lock2 : lockW lvy 2 = [0, 1, 2] := by
  unfold lockW
  rw [if_neg (by simp [lvy]), lock_eq (by omega)]
  kernel_rfl
theorem ly_lock3 : lockW lvy 3 = [0, 1, 3] := by
  unfold lockW
  rw [if_neg (by simp [lvy]), lock_eq (by omega)]
  kernel_rfl
theorem ly_join1 : joinW lvy 1 = [] := by kernel_rfl
theorem ly_cut3 : cutW lvy 3 = [] := by kernel_rfl
theorem lv0_u : ∀ x ∈ lv0, U64 x := by simp [lv0, U64]
theorem lvx_u : ∀ x ∈ lvx, U64 x := by simp [lvx, U64]
theorem lvy_u : ∀ x ∈ lvy, U64 x := by simp [lvy, U64]
theorem lvz_u : ∀ x ∈ lvz, U64 x := by simp [lvz, U64]
/-- what stands in memory: the first joins, the ring of two, the ring of one -/
abbrev RLv (w : World) (Aj Ay Az : Option Addr) (W : World) : Prop := RL w Aj (lj.map opT) Ay lvy Az lvz W
section
variable {w W : World} {Aj Ay Az : Option Addr} {cj cy cz : Nat}
theorem l_same (h : RLv w Aj Ay Az W) : Calls Try.prog 16 #[.slice Aj 2 cj, .slice (some ⟨W.heap.size, 0, none⟩) 2 2] (W.alloc (.cells #[.int .i64 12, .int .i64 2, .int .i64 0, .int .i64 0, .int .i64 0, .int .u64 0, .slice none 0 0, .int .u64 0, .slice none 0 0, .int .u64 0, .int .i64 12, .int .i64 0, .int .i64 0, .int .i64 2, .int .i64 2, .int .u64 0, .slice none 0 0, .int .u64 0, .slice none 0 0, .int .u64 0] 44)) fun e w' => e = .returned (.bool true) ∧ RLv w Aj Ay Az w' := by
  have hb := below1 W (.cells #[.int .i64 12, .int .i64 2, .int .i64 0, .int .i64 0, .int .i64 0, .int .u64 0, .slice none 0 0, .int .u64 0, .slice none 0 0, .int .u64 0, .int .i64 12, .int .i64 0, .int .i64 0, .int .i64 2, .int .i64 2, .int .u64 0, .slice none 0 0, .int .u64 0, .slice none 0 0, .int .u64 0] 44)
  have h1 := h.step hb
  have hl := (ops_own (l := lj) (own_of_blk (base := 0) (n := 2) (cs := opsC lj) (Blk.new W 44 _) (Nat.zero_le _) rfl (by decide))).2
  refine (sameOps_any Aj (some ⟨W.heap.size, 0, none⟩) 2 cj 2 lj _ h1.j rfl hl (by omega)).mono ?_
  rintro e w' ⟨rfl, hd⟩
  exact ⟨rfl, h1.step hd.below⟩
theorem l_at (h : RLv w Aj Ay Az W) : Calls Try.prog 6 #[.slice Ay 4 cy, .int .i64 2] W fun e w' => e = .returned (.tuple #[.int .i64 0, .int .i64 1]) ∧ W = w' := by
  have := at_any Ay 4 cy lvy 2 W h.r1 rfl lvy_u
  rwa [ly_at] at this
theorem l_list (h : RLv w Aj Ay Az W) : Calls Try.prog 9 #[.slice Ay 4 cy] W fun e w' => ∃ A c, e = .returned (.slice A 2 c) ∧ 2 ≤ c ∧ c ≤ 9223372036854775807 ∧ Rd (Sh.int .i64) w' w'.heap.size A [1, 2] ∧ RLv w Aj Ay Az w' := by
  refine (qList h.r1 rfl lvy_u).mono ?_
  rintro e w' ⟨A, n, c, rfl, hn, h1, h2, h3, hb⟩
  rw [ly_list] at hn h3
  subst hn
  exact ⟨A, c, rfl, h1, h2, h3, h.step hb⟩
theorem l_list1 (h : RLv w Aj Ay Az W) : Calls Try.prog 9 #[.slice Az 4 cz] W fun e w' => ∃ A c, e = .returned (.slice A 1 c) ∧ 1 ≤ c ∧ c ≤ 9223372036854775807 ∧ Rd (Sh.int .i64) w' w'.heap.size A [1] ∧ RLv w Aj Ay Az w' := by
  refine (qList h.r2 rfl lvz_u).mono ?_
  rintro e w' ⟨A, n, c, rfl, hn, h1, h2, h3, hb⟩
  rw [lz_list] at hn h3
  subst hn
  exact ⟨A, c, rfl, h1, h2, h3, h.step hb⟩
theorem l_locks {l : List Int} (h : RLv w Aj Ay Az W) (s : Int) (he : lockW lvy s = l) : Calls Try.prog 21 #[.slice Ay 4 cy, .int .i64 s] W fun e w' => ∃ A c, e = .returned (.slice A l.length c) ∧ l.length ≤ c ∧ c ≤ 9223372036854775807 ∧ Rd (Sh.int .i64) w' w'.heap.size A l ∧ RLv w Aj Ay Az w' := by
  refine (qLocks h.r1 rfl lvy_u s he).mono ?_
  rintro e w' ⟨A, n, c, rfl, hn, h1, h2, h3, hb⟩
  subst hn
  exact ⟨A, c, rfl, h1, h2, h3, h.step hb⟩
theorem l_ints {A : Option Addr} {c : Nat} {l : List Int} (h : RLv w Aj Ay Az W) (hA : Rd (Sh.int .i64) W W.heap.size A l) (hc : l.length ≤ c) (hm : c ≤ 9223372036854775807) (h9 : l.length ≤ 100) :
    Calls Try.prog 8 #[.slice A l.length c, .slice (some ⟨W.heap.size, 0, none⟩) l.length l.length] (W.alloc (.cells (l.map (Value.int .i64)).toArray 3)) fun e w' => e = .returned (.bool true) ∧ RLv w Aj Ay Az w' := by
  have hb := below1 W (.cells (l.map (Value.int .i64)).toArray 3)
  have h1 := h.step hb
  have hN := Blk.new W 3 (l.map (Value.int .i64)).toArray
  refine (sameInts_any A (some ⟨W.heap.size, 0, none⟩) l.length c l.length l.length l l _ (hA.at_world hb) rfl hc hm (lit_at l hN hN.lt) rfl (Nat.le_refl _) (by omega)).mono ?_
  rintro e w' ⟨rfl, hd⟩
  exact ⟨by simp, h1.step hd.below⟩
theorem l_check (h : RLv w Aj Ay Az W) : Calls Try.prog 11 #[.slice Ay 4 cy] W fun e w' => e = .returned (.int .i64 0) ∧ RLv w Aj Ay Az w' := by
  refine (check_any Ay 4 cy lvy W h.r1 rfl lvy_u).mono ?_
  rintro e w' ⟨rfl, hb⟩
  rw [ly_check]
  exact ⟨rfl, h.step hb⟩
theorem l_check0 (h : RLv w Aj Ay Az W) : Calls Try.prog 11 #[.slice none 0 0] W fun e w' => e = .returned (.int .i64 7) ∧ RLv w Aj Ay Az w' := by
  refine (check_any none 0 0 [] W RdR.nil rfl (by simp)).mono ?_
  rintro e w' ⟨rfl, hb⟩
  rw [ln_check]
  exact ⟨rfl, h.step hb⟩
theorem l_join1 (h : RLv w Aj Ay Az W) : Calls Try.prog 17 #[.slice Ay 4 cy, .int .i64 1] W fun e w' => ∃ A c, e = .returned (.slice A 0 c) ∧ RLv w Aj Ay Az w' := by
  refine (qJoins h.r1 rfl lvy_u 1 ly_join1).mono ?_
  rintro e w' ⟨A, n, c, rfl, hn, h1, h2, h3, hb⟩
  subst hn
  exact ⟨A, c, rfl, h.step hb⟩
theorem l_cut3 (h : RLv w Aj Ay Az W) : Calls Try.prog 19 #[.slice Ay 4 cy, .int .i64 3] W fun e w' => ∃ A c, e = .returned (.slice A 0 c) ∧ RLv w Aj Ay Az w' := by
  refine (qCuts h.r1 rfl lvy_u 3 ly_cut3).mono ?_
  rintro e w' ⟨A, n, c, rfl, hn, h1, h2, h3, hb⟩
  subst hn
  exact ⟨A, c, rfl, h.step hb⟩
end
section
variable {w W : World}
theorem l_new : Calls Try.prog 23 #[.int .i64 3] w fun e w' => ∃ A c, e = .returned (.slice A 4 c) ∧ Rd (Sh.int .u64) w' w'.heap.size A lv0 ∧ Below w.heap.size w w' := by
  refine (qNew 3 w).mono ?_
  rintro e w' ⟨A, n, c, rfl, hn, h1, h2, h3, hb⟩
  rw [lv0_eq] at hn h3
  subst hn
  exact ⟨A, c, rfl, h3, hb⟩
theorem l_ops {A : Option Addr} {c : Nat} {ws : List Int} {s : Int} {l : List Opr} (hA : Rd (Sh.int .u64) W W.heap.size A ws) (hn : ws.length = 4) (hu : ∀ x ∈ ws, U64 x) (he : joinW ws s = l) :
    Calls Try.prog 17 #[.slice A 4 c, .int .i64 s] W fun e w' => ∃ B d, e = .returned (.slice B l.length d) ∧ Rd SOp w' w'.heap.size B (l.map opT) ∧ Below W.heap.size W w' := by
  refine (qJoins hA hn hu s he).mono ?_
  rintro e w' ⟨A, n, c, rfl, hn, h1, h2, h3, hb⟩
  subst hn
  exact ⟨A, c, rfl, h3, hb⟩
theorem l_cuts {A : Option Addr} {c : Nat} {ws : List Int} {s : Int} {l : List Opr} (hA : Rd (Sh.int .u64) W W.heap.size A ws) (hn : ws.length = 4) (hu : ∀ x ∈ ws, U64 x) (he : cutW ws s = l) :
    Calls Try.prog 19 #[.slice A 4 c, .int .i64 s] W fun e w' => ∃ B d, e = .returned (.slice B l.length d) ∧ Rd SOp w' w'.heap.size B (l.map opT) ∧ Below W.heap.size W w' := by
  refine (qCuts hA hn hu s he).mono ?_
  rintro e w' ⟨A, n, c, rfl, hn, h1, h2, h3, hb⟩
  subst hn
  exact ⟨A, c, rfl, h3, hb⟩
theorem l_do {A B : Option Addr} {c d m : Nat} {ws vs : List Int} {l : List Opr} (hA : Rd (Sh.int .u64) W W.heap.size A ws) (hn : ws.length = 4) (hB : Rd SOp W W.heap.size B (l.map opT)) (hm : l.length = m) (h7 : m ≤ 100) (he : doW ws (l.map opT) = vs) :
    Calls Try.prog 14 #[.slice A 4 c, .slice B m d] W fun e w' => ∃ B d, e = .returned (.slice B 4 d) ∧ Rd (Sh.int .u64) w' w'.heap.size B vs ∧ Below W.heap.size W w' := by
  refine (qDo hA hn (by omega) hB (by simp [hm]) (by omega)).mono ?_
  rintro e w' ⟨A, n, c, rfl, h0, h1, h2, h3, hb⟩
  rw [doW_len, hn] at h0
  subst h0
  rw [he] at h3
  exact ⟨A, c, rfl, h3, hb⟩
end
set_option maxHeartbeats 4000000 in
set_option maxRecDepth 100000 in
theorem lives_any (w : World) : Calls Try.prog 5 #[] w fun e w' => e = .returned (.bool true) ∧ Below w.heap.size w w' := by
  go_enter Try.func5, Try.ntmps5
  go_wp2_with fail
  refine l_new.mono ?_
  rintro e w1 ⟨A0, c0, rfl, h0, hb⟩
  have H0 := hide h0
  have HB := hide hb
  clear h0 hb
  go_wp2_with fail
  refine (l_ops H0.out rfl lv0_u lj_eq).mono ?_
  rintro e w2 ⟨Aj, cj, rfl, hj, hb⟩
  have HB := hide (Below.step HB.out hb)
  have H0 := hide (H0.out.at_world hb)
  have HJ := hide hj
  clear hj hb
  go_wp2_with fail
  refine (l_do H0.out rfl HJ.out rfl (by decide) lvx_eq).mono ?_
  rintro e w3 ⟨Ax, cx, rfl, hx, hb⟩
  have HB := hide (Below.step HB.out hb)
  have HJ := hide (HJ.out.at_world hb)
  have HX := hide hx
  clear hx hb H0
  go_wp2_with fail
  refine (l_ops HX.out rfl lvx_u lk_eq).mono ?_
  rintro e w4 ⟨Ak, ck, rfl, hk, hb⟩
  have HB := hide (Below.step HB.out hb)
  have HJ := hide (HJ.out.at_world hb)
  have HX := hide (HX.out.at_world hb)
  have HK := hide hk
  clear hk hb
  go_wp2_with fail
  refine (l_do HX.out rfl HK.out rfl (by decide) lvy_eq).mono ?_
  rintro e w5 ⟨Ay, cy, rfl, hy, hb⟩
  have HB := hide (Below.step HB.out hb)
  have HJ := hide (HJ.out.at_world hb)
  have HY := hide hy
  clear hy hb HX HK
  go_wp2_with fail
  have hat := at_any Ay 4 cy lvy 2 w5 HY.out rfl lvy_u
  rw [ly_at] at hat
  refine hat.mono ?_
  rintro e _ ⟨rfl, rfl⟩
  clear hat
  go_wp2_with fail
  refine (l_cuts HY.out rfl lvy_u lc_eq).mono ?_
  rintro e w6 ⟨Ac, cc, rfl, hc, hb⟩
  have HB := hide (Below.step HB.out hb)
  have HJ := hide (HJ.out.at_world hb)
  have HY := hide (HY.out.at_world hb)
  have HC := hide hc
  clear hc hb
  go_wp2_with fail
  refine (l_do HY.out rfl HC.out rfl (by decide) lvz_eq).mono ?_
  rintro e w7 ⟨Az, cz, rfl, hz, hb⟩
  have HR : Hid (RLv w Aj Ay Az w7) := hide ⟨Below.step HB.out hb, HJ.out.at_world hb, HY.out.at_world hb, hz⟩
  clear hz hb HB HC HY HJ
  go_wp2_with fail
  refine (l_same HR.out).mono ?_
  rintro e w8 ⟨rfl, hr⟩
  have HR := hide hr
  clear hr
  go_wp2_with fail
  refine (l_list HR.out).mono ?_
  rintro e w9 ⟨A1, c1, rfl, hc1, hm1, h1, hr⟩
  have HR := hide hr
  have H1 := hide h1
  clear hr h1
  go_wp2_with fail
  refine (l_ints (l := [1, 2]) HR.out H1.out hc1 hm1 (by decide)).mono ?_
  rintro e w10 ⟨rfl, hr⟩
  have HR := hide hr
  clear hr H1
  go_wp2_with fail
  refine (l_list1 HR.out).mono ?_
  rintro e w11 ⟨A2, c2, rfl, hc2, hm2, h1, hr⟩
  have HR := hide hr
  have H1 := hide h1
  clear hr h1
  go_wp2_with fail
  refine (l_ints (l := [1]) HR.out H1.out hc2 hm2 (by decide)).mono ?_
  rintro e w12 ⟨rfl, hr⟩
  have HR := hide hr
  clear hr H1
  go_wp2_with fail
  refine (l_check HR.out).mono ?_
  rintro e w13 ⟨rfl, hr⟩
  have HR := hide hr
  clear hr
  go_wp2_with fail
  refine (l_check0 HR.out).mono ?_
  rintro e w14 ⟨rfl, hr⟩
  have HR := hide hr
  clear hr
  go_wp2_with fail
  refine (l_locks HR.out 2 ly_lock2).mono ?_
  rintro e w15 ⟨A3, c3, rfl, hc3, hm3, h1, hr⟩
  have HR := hide hr
  have H1 := hide h1
  clear hr h1
  go_wp2_with fail
  refine (l_ints (l := [0, 1, 2]) HR.out H1.out hc3 hm3 (by decide)).mono ?_
  rintro e w16 ⟨rfl, hr⟩
  have HR := hide hr
  clear hr H1
  go_wp2_with fail
  refine (l_locks HR.out 3 ly_lock3).mono ?_
  rintro e w17 ⟨A4, c4, rfl, hc4, hm4, h1, hr⟩
  have HR := hide hr
  have H1 := hide h1
  clear hr h1
  go_wp2_with fail
  refine (l_ints (l := [0, 1, 3]) HR.out H1.out hc4 hm4 (by decide)).mono ?_
  rintro e w18 ⟨rfl, hr⟩
  have HR := hide hr
  clear hr H1
  go_wp2_with fail
  refine (l_join1 HR.out).mono ?_
  rintro e w19 ⟨A5, c5, rfl, hr⟩
  have HR := hide hr
  clear hr
  go_wp2_with fail
  refine (l_cut3 HR.out).mono ?_
  rintro e w20 ⟨A6, c6, rfl, hr⟩
  have HR := hide hr
  clear hr
  go_wp2_with fail
  go_ret
  exact ⟨rfl, HR.out.bel⟩
end Go.Proofs.Ytoadcfjkommlkac
