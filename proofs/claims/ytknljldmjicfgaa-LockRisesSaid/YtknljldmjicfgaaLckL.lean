/-
  lives of the law's package. No condition.
-/
import Derived.Test.YtknljldmjicfgaaLckK
import Derived.Test.YtknljldmjicfgaaEqI
namespace Go.Proofs.Ytknljldmjicfgaa
open Go.RowKit

/-- blocks that are none of the table's -/
def NotT (W : World) (T hb wb d : Nat) : Prop := d < W.heap.size ∧ d ≠ T ∧ d ≠ hb ∧ d ≠ wb
theorem rd_turn {W W' : World} {T hb wb : Nat} {A : Option Addr} {l : List Int} (h : RdR (Sh.int .i64) W (NotT W T hb wb) A l) (ht : TurnT W W' T hb wb) : RdR (Sh.int .i64) W' (NotT W' T hb wb) A l :=
  (h.keepBlocks fun d hd => ht.block d hd.1 hd.2.1 hd.2.2.1 hd.2.2.2).more fun d hd => ⟨Nat.lt_of_lt_of_le hd.1 ht.size, hd.2⟩
theorem rd_new {W W' : World} {B T hb wb : Nat} {s : Tab} {A : Option Addr} {l : List Int} (h : RdR (Sh.int .i64) W' (Btw W.heap.size W'.heap.size) A l) (ht : TabAt W B T hb wb s) : RdR (Sh.int .i64) W' (NotT W' T hb wb) A l :=
  h.more fun d hd => by obtain ⟨a, b, c⟩ := ht.lt; have := hd.1; exact ⟨hd.2, by omega, by omega, by omega⟩
set_option maxHeartbeats 1000000 in
theorem take_nil (x n : Int) (w : World) : Calls Try.prog 10 #[.pointer none, .int .i64 x, .int .i64 n] w fun e w' => e = .returned (.bool false) ∧ w = w' := by
  go_enter Try.func10, Try.ntmps10
  go_wp2
  go_ret
  exact ⟨rfl, rfl⟩
set_option maxHeartbeats 1000000 in
theorem ring_nil (w : World) : Calls Try.prog 17 #[.pointer none] w fun e w' => e = .returned (.slice none 0 0) ∧ w = w' := by
  go_enter Try.func17, Try.ntmps17
  go_wp2
  go_ret
  exact ⟨rfl, rfl⟩
set_option maxHeartbeats 1000000 in
theorem held_nil (x : Int) (w : World) : Calls Try.prog 19 #[.pointer none, .int .i64 x] w fun e w' => e = .returned (.slice none 0 0) ∧ w = w' := by
  go_enter Try.func19, Try.ntmps19
  go_wp2
  go_ret
  exact ⟨rfl, rfl⟩
def St0 : Tab := ⟨[], [], false⟩
def St1 : Tab := ⟨[(1, 0)], [], false⟩
def St2 : Tab := ⟨[(1, 0), (2, 1)], [], false⟩
def St3 : Tab := ⟨[(1, 0), (2, 1)], [(0, 2)], false⟩
def St4 : Tab := ⟨[(1, 0), (2, 1)], [(0, 2), (1, 1)], true⟩
def St5 : Tab := ⟨[(1, 0)], [(0, 2)], true⟩
def St6 : Tab := ⟨[(1, 0), (2, 0)], [], true⟩
theorem St0.ok : St0.Ok := Tab0.ok
theorem tk1_eq : takeF St0 0 1 = (St1, true) := by kernel_rfl
theorem St1.ok : St1.Ok := by have := St0.ok.take 0 1; rwa [tk1_eq] at this
theorem tk1 {W : World} {B T hb wb : Nat} (h : TabAt W B T hb wb St0) : Calls Try.prog 10 #[.pointer (some ⟨T, 0, none⟩), .int .i64 0, .int .i64 1] W fun e w' => e = .returned (.bool true) ∧ TabAt w' B T hb wb St1 ∧ TurnT W w' T hb wb := by
  have := take_any h St0.ok (x := 0) (n := 1) (w64_of (by omega)) (w64_of (by omega))
  rw [tk1_eq] at this
  exact this
theorem tk2_eq : takeF St1 1 2 = (St2, true) := by kernel_rfl
theorem St2.ok : St2.Ok := by have := St1.ok.take 1 2; rwa [tk2_eq] at this
theorem tk2 {W : World} {B T hb wb : Nat} (h : TabAt W B T hb wb St1) : Calls Try.prog 10 #[.pointer (some ⟨T, 0, none⟩), .int .i64 1, .int .i64 2] W fun e w' => e = .returned (.bool true) ∧ TabAt w' B T hb wb St2 ∧ TurnT W w' T hb wb := by
  have := take_any h St1.ok (x := 1) (n := 2) (w64_of (by omega)) (w64_of (by omega))
  rw [tk2_eq] at this
  exact this
theorem tk3_eq : takeF St2 0 2 = (St3, false) := by kernel_rfl
theorem St3.ok : St3.Ok := by have := St2.ok.take 0 2; rwa [tk3_eq] at this
theorem tk3 {W : World} {B T hb wb : Nat} (h : TabAt W B T hb wb St2) : Calls Try.prog 10 #[.pointer (some ⟨T, 0, none⟩), .int .i64 0, .int .i64 2] W fun e w' => e = .returned (.bool false) ∧ TabAt w' B T hb wb St3 ∧ TurnT W w' T hb wb := by
  have := take_any h St2.ok (x := 0) (n := 2) (w64_of (by omega)) (w64_of (by omega))
  rw [tk3_eq] at this
  exact this
theorem tk4_eq : takeF St3 1 1 = (St4, false) := by kernel_rfl
theorem St4.ok : St4.Ok := by have := St3.ok.take 1 1; rwa [tk4_eq] at this
theorem tk4 {W : World} {B T hb wb : Nat} (h : TabAt W B T hb wb St3) : Calls Try.prog 10 #[.pointer (some ⟨T, 0, none⟩), .int .i64 1, .int .i64 1] W fun e w' => e = .returned (.bool false) ∧ TabAt w' B T hb wb St4 ∧ TurnT W w' T hb wb := by
  have := take_any h St3.ok (x := 1) (n := 1) (w64_of (by omega)) (w64_of (by omega))
  rw [tk4_eq] at this
  exact this
theorem gv1_eq : giveF St4 1 2 = (St5, true) := by kernel_rfl
theorem St5.ok : St5.Ok := by have := St4.ok.give 1 2; rwa [gv1_eq] at this
theorem gv1 {W : World} {B T hb wb : Nat} (h : TabAt W B T hb wb St4) : Calls Try.prog 8 #[.pointer (some ⟨T, 0, none⟩), .int .i64 1, .int .i64 2] W fun e w' => e = .returned (.bool true) ∧ TabAt w' B T hb wb St5 ∧ TurnT W w' T hb wb := by
  have := give_any h (x := 1) (n := 2) (w64_of (by omega)) (w64_of (by omega))
  rw [gv1_eq] at this
  exact this
theorem gv2_eq : giveF St5 1 2 = (St5, false) := by kernel_rfl
theorem gv2 {W : World} {B T hb wb : Nat} (h : TabAt W B T hb wb St5) : Calls Try.prog 8 #[.pointer (some ⟨T, 0, none⟩), .int .i64 1, .int .i64 2] W fun e w' => e = .returned (.bool false) ∧ TabAt w' B T hb wb St5 ∧ TurnT W w' T hb wb := by
  have := give_any h (x := 1) (n := 2) (w64_of (by omega)) (w64_of (by omega))
  rw [gv2_eq] at this
  exact this
theorem tk5_eq : takeF St5 0 2 = (St6, true) := by kernel_rfl
theorem St6.ok : St6.Ok := by have := St5.ok.take 0 2; rwa [tk5_eq] at this
theorem tk5 {W : World} {B T hb wb : Nat} (h : TabAt W B T hb wb St5) : Calls Try.prog 10 #[.pointer (some ⟨T, 0, none⟩), .int .i64 0, .int .i64 2] W fun e w' => e = .returned (.bool true) ∧ TabAt w' B T hb wb St6 ∧ TurnT W w' T hb wb := by
  have := take_any h St5.ok (x := 0) (n := 2) (w64_of (by omega)) (w64_of (by omega))
  rw [tk5_eq] at this
  exact this
theorem tk6_eq : takeF St6 0 1 = (St6, false) := by kernel_rfl
theorem tk6 {W : World} {B T hb wb : Nat} (h : TabAt W B T hb wb St6) : Calls Try.prog 10 #[.pointer (some ⟨T, 0, none⟩), .int .i64 0, .int .i64 1] W fun e w' => e = .returned (.bool false) ∧ TabAt w' B T hb wb St6 ∧ TurnT W w' T hb wb := by
  have := take_any h St6.ok (x := 0) (n := 1) (w64_of (by omega)) (w64_of (by omega))
  rw [tk6_eq] at this
  exact this
theorem tk7_eq : takeF St6 65 9 = (St6, false) := by kernel_rfl
theorem tk7 {W : World} {B T hb wb : Nat} (h : TabAt W B T hb wb St6) : Calls Try.prog 10 #[.pointer (some ⟨T, 0, none⟩), .int .i64 65, .int .i64 9] W fun e w' => e = .returned (.bool false) ∧ TabAt w' B T hb wb St6 ∧ TurnT W w' T hb wb := by
  have := take_any h St6.ok (x := 65) (n := 9) (w64_of (by omega)) (w64_of (by omega))
  rw [tk7_eq] at this
  exact this
theorem ri3 {W : World} {B T hb wb : Nat} (h : TabAt W B T hb wb St3) : Calls Try.prog 15 #[.pointer (some ⟨T, 0, none⟩)] W fun e w' => e = .returned (.bool true) ∧ W = w' := rising_any h
theorem ri4 {W : World} {B T hb wb : Nat} (h : TabAt W B T hb wb St4) : Calls Try.prog 15 #[.pointer (some ⟨T, 0, none⟩)] W fun e w' => e = .returned (.bool false) ∧ W = w' := rising_any h
theorem wa4 {W : World} {B T hb wb : Nat} (h : TabAt W B T hb wb St4) : Calls Try.prog 13 #[.pointer (some ⟨T, 0, none⟩), .int .i64 0] W fun e w' => e = .returned (.tuple #[.int .i64 2, .bool true]) ∧ W = w' := waits_any h (w64_of (by omega))
theorem ho4 {W : World} {B T hb wb : Nat} (h : TabAt W B T hb wb St4) : Calls Try.prog 11 #[.pointer (some ⟨T, 0, none⟩), .int .i64 2] W fun e w' => e = .returned (.tuple #[.int .i64 1, .bool true]) ∧ W = w' := holder_any h (w64_of (by omega))
theorem rg4_eq : ringF St4 = [0, 1] := by kernel_rfl
theorem rg6_eq : ringF St6 = [] := by kernel_rfl
theorem he6_eq : heldF St6.h 0 = [1, 2] := by kernel_rfl
theorem rg4 {W : World} {B T hb wb : Nat} (h : TabAt W B T hb wb St4) : Calls Try.prog 17 #[.pointer (some ⟨T, 0, none⟩)] W fun e w' => ∃ v, e = .returned v ∧ NewInts .i64 W [0, 1] v w' := by
  have := ring_any h St4.ok
  rwa [rg4_eq] at this
theorem rg6 {W : World} {B T hb wb : Nat} (h : TabAt W B T hb wb St6) : Calls Try.prog 17 #[.pointer (some ⟨T, 0, none⟩)] W fun e w' => ∃ v, e = .returned v ∧ NewInts .i64 W [] v w' := by
  have := ring_any h St6.ok
  rwa [rg6_eq] at this
theorem he6 {W : World} {B T hb wb : Nat} (h : TabAt W B T hb wb St6) : Calls Try.prog 19 #[.pointer (some ⟨T, 0, none⟩), .int .i64 0] W fun e w' => ∃ v, e = .returned v ∧ NewInts .i64 W [1, 2] v w' := by
  have := held_any h St6.ok 0
  rwa [he6_eq] at this
set_option maxHeartbeats 4000000 in
set_option maxRecDepth 100000 in
theorem lives_any (w : World) : Calls Try.prog 5 #[] w fun e w' => e = .returned (.bool true) ∧ Below w.heap.size w w' := by
  go_enter Try.func5, Try.ntmps5
  go_wp2_with fail
  refine (new_any _).mono ?_
  rintro e w1 ⟨T, hb, wb, rfl, hT, hB⟩
  have HT := hide (show TabAt w1 w.heap.size T hb wb St0 from hT)
  have HB := hide hB
  clear hT hB
  go_wp2_with fail
  refine (tk1 HT.out).mono ?_
  rintro e w2 ⟨rfl, hT, hU⟩
  have HB := hide (HT.out.turn HB.out hU HB.out.size)
  have HT := hide hT
  clear hT hU
  go_wp2_with fail
  refine (tk2 HT.out).mono ?_
  rintro e w3 ⟨rfl, hT, hU⟩
  have HB := hide (HT.out.turn HB.out hU HB.out.size)
  have HT := hide hT
  clear hT hU
  go_wp2_with fail
  refine (tk3 HT.out).mono ?_
  rintro e w4 ⟨rfl, hT, hU⟩
  have HB := hide (HT.out.turn HB.out hU HB.out.size)
  have HT := hide hT
  clear hT hU
  go_wp2_with fail
  refine (ri3 HT.out).mono ?_
  rintro e _ ⟨rfl, rfl⟩
  go_wp2_with fail
  refine (tk4 HT.out).mono ?_
  rintro e w5 ⟨rfl, hT, hU⟩
  have HB := hide (HT.out.turn HB.out hU HB.out.size)
  have HT := hide hT
  clear hT hU
  go_wp2_with fail
  refine (rg4 HT.out).mono ?_
  rintro e w6 ⟨vR, rfl, hN⟩
  obtain ⟨AR, nR, cR, rfl, hlR, hcR, hmR, hr, hbl⟩ := hN
  have HR := hide (rd_new hr HT.out)
  have HB := hide (Below.step HB.out hbl)
  have HT := hide (HT.out.below hbl)
  simp at hlR
  subst hlR
  clear hr hbl
  go_wp2_with fail
  refine (ri4 HT.out).mono ?_
  rintro e _ ⟨rfl, rfl⟩
  go_wp2_with fail
  refine (wa4 HT.out).mono ?_
  rintro e _ ⟨rfl, rfl⟩
  go_wp2_with fail
  refine (ho4 HT.out).mono ?_
  rintro e _ ⟨rfl, rfl⟩
  go_wp2_with fail
  refine (gv1 HT.out).mono ?_
  rintro e w7 ⟨rfl, hT, hU⟩
  have HB := hide (HT.out.turn HB.out hU HB.out.size)
  have HR := hide (rd_turn HR.out hU)
  have HT := hide hT
  clear hT hU
  go_wp2_with fail
  refine (gv2 HT.out).mono ?_
  rintro e w8 ⟨rfl, hT, hU⟩
  have HB := hide (HT.out.turn HB.out hU HB.out.size)
  have HR := hide (rd_turn HR.out hU)
  have HT := hide hT
  clear hT hU
  go_wp2_with fail
  refine (tk5 HT.out).mono ?_
  rintro e w9 ⟨rfl, hT, hU⟩
  have HB := hide (HT.out.turn HB.out hU HB.out.size)
  have HR := hide (rd_turn HR.out hU)
  have HT := hide hT
  clear hT hU
  go_wp2_with fail
  refine (holder_nil 1 _).mono ?_
  rintro e _ ⟨rfl, rfl⟩
  go_wp2_with fail
  have hb1 := below1 w9 (.cells #[.int .i64 0, .int .i64 1] 3)
  have HN := hide (Blk.new w9 3 #[.int .i64 0, .int .i64 1])
  have HR1 := hide (rd_turn HR.out (TurnT.of_below hb1))
  have HB := hide (Below.step HB.out hb1)
  have HT := hide (HT.out.below hb1)
  clear hb1
  refine (sameInts_any AR (some ⟨_, 0, none⟩) 2 cR 2 2 [0, 1] [0, 1] _ (HR1.out.rd fun d hd => hd.1) rfl hcR hmR (lit_at [0, 1] HN.out (by simp)) rfl (by omega) (by omega)).mono ?_
  rintro e w10 ⟨hev, hd⟩
  have hev : e = .returned (.bool true) := hev.trans (by simp)
  subst hev
  have hbl := hd.below
  have HB := hide (Below.step HB.out hbl)
  have HT := hide (HT.out.below hbl)
  clear hbl hd HN
  go_wp2_with fail
  refine (he6 HT.out).mono ?_
  rintro e w11 ⟨vE, rfl, hN⟩
  obtain ⟨AE, nE, cE, rfl, hlE, hcE, hmE, hr, hbl⟩ := hN
  have HE := hide (rd_new hr HT.out)
  have HB := hide (Below.step HB.out hbl)
  have HT := hide (HT.out.below hbl)
  simp at hlE
  subst hlE
  clear hr hbl
  go_wp2_with fail
  have hb1 := below1 w11 (.cells #[.int .i64 1, .int .i64 2] 3)
  have HN := hide (Blk.new w11 3 #[.int .i64 1, .int .i64 2])
  have HE1 := hide (rd_turn HE.out (TurnT.of_below hb1))
  have HB := hide (Below.step HB.out hb1)
  have HT := hide (HT.out.below hb1)
  clear hb1
  refine (sameInts_any AE (some ⟨_, 0, none⟩) 2 cE 2 2 [1, 2] [1, 2] _ (HE1.out.rd fun d hd => hd.1) rfl hcE hmE (lit_at [1, 2] HN.out (by simp)) rfl (by omega) (by omega)).mono ?_
  rintro e w12 ⟨hev, hd⟩
  have hev : e = .returned (.bool true) := hev.trans (by simp)
  subst hev
  have hbl := hd.below
  have HB := hide (Below.step HB.out hbl)
  have HT := hide (HT.out.below hbl)
  clear hbl hd HN
  go_wp2_with fail
  refine (rg6 HT.out).mono ?_
  rintro e w13 ⟨vQ, rfl, hN⟩
  obtain ⟨AQ, nQ, cQ, rfl, hlQ, hcQ, hmQ, hr, hbl⟩ := hN
  have HQ := hide (rd_new hr HT.out)
  have HB := hide (Below.step HB.out hbl)
  have HT := hide (HT.out.below hbl)
  simp at hlQ
  subst hlQ
  clear hr hbl
  go_wp2_with fail
  refine (tk6 HT.out).mono ?_
  rintro e w14 ⟨rfl, hT, hU⟩
  have HB := hide (HT.out.turn HB.out hU HB.out.size)
  have HT := hide hT
  clear hT hU
  go_wp2_with fail
  refine (tk7 HT.out).mono ?_
  rintro e w15 ⟨rfl, hT, hU⟩
  have HB := hide (HT.out.turn HB.out hU HB.out.size)
  have HT := hide hT
  clear hT hU
  go_wp2_with fail
  refine (take_nil 0 1 _).mono ?_
  rintro e _ ⟨rfl, rfl⟩
  go_wp2_with fail
  refine (rising_nil _).mono ?_
  rintro e _ ⟨rfl, rfl⟩
  go_wp2_with fail
  refine (ring_nil _).mono ?_
  rintro e _ ⟨rfl, rfl⟩
  go_wp2_with fail
  refine (held_nil 0 _).mono ?_
  rintro e _ ⟨rfl, rfl⟩
  go_wp2_with fail
  go_ret
  exact ⟨rfl, HB.out⟩
end Go.Proofs.Ytknljldmjicfgaa
