/-
  The law EdgesTells. Conditions: the slices read as lists of ints, of items, and as a vector.
-/
import Derived.Test.YtggbokgacffamaaEdgT
namespace Go.Proofs.Ytggbokgacffamaa
open Go.RowKit

set_option maxHeartbeats 4000000 in
set_option maxRecDepth 100000 in
theorem tells_any (A B C : Option Addr) (n c m d p r : Nat) (l q : List Int) (its : List ItemP) (x links level slots : Int) (w : World) (hx : Rd (Sh.int .i64) w w.heap.size A l) (hn : l.length = n) (hxi : I64 l) (hc : n ≤ c) (hm : c ≤ 9223372036854775807)
    (hy : Rd (Sh.int .i32) w w.heap.size B q) (hn' : q.length = m) (hyi : I32 q) (hd : m ≤ d) (hm' : d ≤ 9223372036854775807)
    (hz : Rd SItem w w.heap.size C its) (hn2 : its.length = p) (hzi : ItsI its) (hd2 : p ≤ r) (hm2 : r ≤ 9223372036854775807) :
    Calls Try.prog 3 #[.slice A n c, .int .i64 x, .int .i64 links, .int .i64 level, .int .i64 slots, .slice B m d, .slice C p r] w fun e w' => e = .returned (.bool true) ∧ Below w.heap.size w w' := by
  rcases Nat.lt_or_ge 100 n with h1 | h1
  · have b1 : decide ((100 : Int) < n) = true := by simp; omega
    have b0 : decide (100 < n) = true := by simp; omega
    clear hx hy hz hxi hyi hzi
    go_enter Try.func3, Try.ntmps3
    go_wp2_with (go_at_call 5; refine (lives_any _).mono ?_; rintro e w1 ⟨rfl, hb⟩)
    go_ret
    exact ⟨rfl, hb⟩
  rcases Nat.lt_or_ge 100 p with h2 | h2
  · have b1 : decide ((100 : Int) < n) = false := by simp; omega
    have b0 : decide (100 < n) = false := by simp; omega
    have b2 : decide ((100 : Int) < p) = true := by simp; omega
    have b3 : decide (100 < p) = true := by simp; omega
    clear hx hy hz hxi hyi hzi
    go_enter Try.func3, Try.ntmps3
    go_wp2_with (go_at_call 5; refine (lives_any _).mono ?_; rintro e w1 ⟨rfl, hb⟩)
    go_ret
    exact ⟨rfl, hb⟩
  have b1 : decide ((100 : Int) < n) = false := by simp; omega
  have b0 : decide (100 < n) = false := by simp; omega
  have b2 : decide ((100 : Int) < p) = false := by simp; omega
  have b3 : decide (100 < p) = false := by simp; omega
  obtain ⟨⟨⟨f1, f2⟩, f3⟩, hf⟩ : ∃ s, farF q l its = s := ⟨_, rfl⟩
  obtain ⟨bz, hbz⟩ : ∃ b, decide (0 < n) = b := ⟨_, rfl⟩
  obtain ⟨mm, hmm⟩ : ∃ y, mostF links level = y := ⟨_, rfl⟩
  obtain ⟨hB, hhB⟩ : ∃ y, decide (x ∈ l) = y := ⟨_, rfl⟩
  obtain ⟨rB, hrB⟩ : ∃ y, decide (rightE l x links level slots) = y := ⟨_, rfl⟩
  have HF := hide hf
  have HBZ := hide hbz
  have HMM := hide hmm
  have HHB := hide hhB
  have HRB := hide hrB
  have HK : Hid (Below w.heap.size w w ∧ Rd (Sh.int .i64) w w.heap.size A l ∧ Rd (Sh.int .i32) w w.heap.size B q ∧ Rd SItem w w.heap.size C its) := hide ⟨Below.refl _ _, hx, hy, hz⟩
  have Hn := hide hn
  have Hm := hide hn'
  have Hp := hide hn2
  have HI := hide hxi
  have HYI := hide hyi
  have HZI := hide hzi
  have he := run_eql_spot f1 f2 f3 f1 f2 f3 (r := true) (by simp)
  have e1 : (bz == bz) = true := by simp
  have e2 : (mm == mm) = true := by simp
  have e3 : (hB == hB) = true := by simp
  have e4 : (rB == rB) = true := by simp
  clear hx hy hz hn hn' hn2 hxi hyi hzi hf hbz hmm hhB hrB
  go_enter Try.func3, Try.ntmps3
  go_wp2_with fail
  refine (Stab.call (K := (fun W => Below w.heap.size w W ∧ Rd (Sh.int .i64) W W.heap.size A l ∧ Rd (Sh.int .i32) W W.heap.size B q ∧ Rd SItem W W.heap.size C its)) (stab_and (stab_below w) (stab_and (stab_rd (Sh.int .i64) A l) (stab_and (stab_rd (Sh.int .i32) B q) (stab_rd SItem C its)))) HK.out (Below.refl _ w) (.tuple #[.agg #[.int .u64 f1, .int .u64 f2, .int .i64 f3], .bool bz]) (eFar_any A B C n c m d p r l q its _ ((stab_rd (Sh.int .i64) A l) w w HK.out.2.1 (Below.refl _ w)) Hn.out hc hm ((stab_rd (Sh.int .i32) B q) w w HK.out.2.2.1 (Below.refl _ w)) Hm.out HYI.out hd hm' ((stab_rd SItem C its) w w HK.out.2.2.2 (Below.refl _ w)) Hp.out HZI.out hd2 hm2 (by omega)) (by rw [HF.out, HBZ.out]; rfl)).mono ?_
  rintro e w1 ⟨rfl, hK⟩
  have HK' := hide hK
  clear hK HK
  have HK := HK'
  clear HK'
  go_wp2_with fail
  refine (refFar_any A B C n c m d p r l q its (w1.alloc (.cells #[.int .u64 f1, .int .u64 f2, .int .i64 f3] 30)) ((stab_rd (Sh.int .i64) A l) w1 (w1.alloc (.cells #[.int .u64 f1, .int .u64 f2, .int .i64 f3] 30)) HK.out.2.1 ((Below.refl _ w1).alloc (by first | exact Nat.le_refl _ | (simp; done) | (simp; omega)) (.cells #[.int .u64 f1, .int .u64 f2, .int .i64 f3] 30))) Hn.out hc hm ((stab_rd (Sh.int .i32) B q) w1 (w1.alloc (.cells #[.int .u64 f1, .int .u64 f2, .int .i64 f3] 30)) HK.out.2.2.1 ((Below.refl _ w1).alloc (by first | exact Nat.le_refl _ | (simp; done) | (simp; omega)) (.cells #[.int .u64 f1, .int .u64 f2, .int .i64 f3] 30))) Hm.out HYI.out hd hm' ((stab_rd SItem C its) w1 (w1.alloc (.cells #[.int .u64 f1, .int .u64 f2, .int .i64 f3] 30)) HK.out.2.2.2 ((Below.refl _ w1).alloc (by first | exact Nat.le_refl _ | (simp; done) | (simp; omega)) (.cells #[.int .u64 f1, .int .u64 f2, .int .i64 f3] 30))) Hp.out HZI.out hd2 hm2 (by omega)).mono ?_
  rintro e w2 ⟨hev, hb⟩
  have hev : e = .returned (.tuple #[.agg #[.int .u64 f1, .int .u64 f2, .int .i64 f3], .bool bz]) := hev.trans (congrArg Ending.returned (by rw [HF.out, HBZ.out]; rfl))
  subst hev
  have HN := Blk.below (Blk.new_at (w := w1) (g := w1.heap.size) (by simp) 30 #[.int .u64 f1, .int .u64 f2, .int .i64 f3]) hb (by first | (simp; done) | (simp; omega))
  have hb := Below.step ((Below.refl _ w1).alloc (by first | exact Nat.le_refl _ | (simp; done) | (simp; omega)) (.cells #[.int .u64 f1, .int .u64 f2, .int .i64 f3] 30)) hb
  have HK1 : Hid (Below w.heap.size w w2 ∧ Rd (Sh.int .i64) w2 w2.heap.size A l ∧ Rd (Sh.int .i32) w2 w2.heap.size B q ∧ Rd SItem w2 w2.heap.size C its ∧ Blk w2 (w1.heap.size) 30 #[.int .u64 f1, .int .u64 f2, .int .i64 f3]) := hide (⟨((stab_below w) w1 w2 HK.out.1 hb), ((stab_rd (Sh.int .i64) A l) w1 w2 HK.out.2.1 hb), ((stab_rd (Sh.int .i32) B q) w1 w2 HK.out.2.2.1 hb), ((stab_rd SItem C its) w1 w2 HK.out.2.2.2 hb), HN⟩)
  clear HK hb
  have HK := HK1
  clear HK1
  clear HN
  go_wp2_with fail
  refine (lives_any (w2.alloc (.cells #[.int .u64 f1, .int .u64 f2, .int .i64 f3] 30))).mono ?_
  rintro e w3 ⟨hev, hb⟩
  have hev : e = .returned (.bool true) := hev.trans (congrArg Ending.returned (rfl))
  subst hev
  have HN := Blk.below (Blk.new_at (w := w2) (g := w2.heap.size) (by simp) 30 #[.int .u64 f1, .int .u64 f2, .int .i64 f3]) hb (by first | (simp; done) | (simp; omega))
  have hb := Below.step ((Below.refl _ w2).alloc (by first | exact Nat.le_refl _ | (simp; done) | (simp; omega)) (.cells #[.int .u64 f1, .int .u64 f2, .int .i64 f3] 30)) hb
  have HK1 : Hid (Below w.heap.size w w3 ∧ Rd (Sh.int .i64) w3 w3.heap.size A l ∧ Rd (Sh.int .i32) w3 w3.heap.size B q ∧ Rd SItem w3 w3.heap.size C its ∧ Blk w3 (w1.heap.size) 30 #[.int .u64 f1, .int .u64 f2, .int .i64 f3] ∧ Blk w3 (w2.heap.size) 30 #[.int .u64 f1, .int .u64 f2, .int .i64 f3]) := hide (⟨((stab_below w) w2 w3 HK.out.1 hb), ((stab_rd (Sh.int .i64) A l) w2 w3 HK.out.2.1 hb), ((stab_rd (Sh.int .i32) B q) w2 w3 HK.out.2.2.1 hb), ((stab_rd SItem C its) w2 w3 HK.out.2.2.2.1 hb), ((stab_blk (w1.heap.size) 30 #[.int .u64 f1, .int .u64 f2, .int .i64 f3]) w2 w3 HK.out.2.2.2.2 hb), HN⟩)
  clear HK hb
  have HK := HK1
  clear HK1
  clear HN
  go_wp2_with fail
  refine (Stab.call (K := (fun W => Below w.heap.size w W ∧ Rd (Sh.int .i64) W W.heap.size A l ∧ Rd (Sh.int .i32) W W.heap.size B q ∧ Rd SItem W W.heap.size C its ∧ Blk W (w1.heap.size) 30 #[.int .u64 f1, .int .u64 f2, .int .i64 f3] ∧ Blk W (w2.heap.size) 30 #[.int .u64 f1, .int .u64 f2, .int .i64 f3])) (stab_and (stab_below w) (stab_and (stab_rd (Sh.int .i64) A l) (stab_and (stab_rd (Sh.int .i32) B q) (stab_and (stab_rd SItem C its) (stab_and (stab_blk (w1.heap.size) 30 #[.int .u64 f1, .int .u64 f2, .int .i64 f3]) (stab_blk (w2.heap.size) 30 #[.int .u64 f1, .int .u64 f2, .int .i64 f3])))))) HK.out (Below.refl _ w3) (.int .i64 mm) (calls_same (most_any links level _)) (by rw [HMM.out])).mono ?_
  rintro e w4 ⟨rfl, hK⟩
  have HK' := hide hK
  clear hK HK
  have HK := HK'
  clear HK'
  go_wp2_with fail
  refine (Stab.call (K := (fun W => Below w.heap.size w W ∧ Rd (Sh.int .i64) W W.heap.size A l ∧ Rd (Sh.int .i32) W W.heap.size B q ∧ Rd SItem W W.heap.size C its ∧ Blk W (w1.heap.size) 30 #[.int .u64 f1, .int .u64 f2, .int .i64 f3] ∧ Blk W (w2.heap.size) 30 #[.int .u64 f1, .int .u64 f2, .int .i64 f3])) (stab_and (stab_below w) (stab_and (stab_rd (Sh.int .i64) A l) (stab_and (stab_rd (Sh.int .i32) B q) (stab_and (stab_rd SItem C its) (stab_and (stab_blk (w1.heap.size) 30 #[.int .u64 f1, .int .u64 f2, .int .i64 f3]) (stab_blk (w2.heap.size) 30 #[.int .u64 f1, .int .u64 f2, .int .i64 f3])))))) HK.out (Below.refl _ w4) (.int .i64 mm) (calls_same (refMost_any links level _)) (by rw [HMM.out])).mono ?_
  rintro e w5 ⟨rfl, hK⟩
  have HK' := hide hK
  clear hK HK
  have HK := HK'
  clear HK'
  go_wp2_with fail
  refine (Stab.call (K := (fun W => Below w.heap.size w W ∧ Rd (Sh.int .i64) W W.heap.size A l ∧ Rd (Sh.int .i32) W W.heap.size B q ∧ Rd SItem W W.heap.size C its ∧ Blk W (w1.heap.size) 30 #[.int .u64 f1, .int .u64 f2, .int .i64 f3] ∧ Blk W (w2.heap.size) 30 #[.int .u64 f1, .int .u64 f2, .int .i64 f3])) (stab_and (stab_below w) (stab_and (stab_rd (Sh.int .i64) A l) (stab_and (stab_rd (Sh.int .i32) B q) (stab_and (stab_rd SItem C its) (stab_and (stab_blk (w1.heap.size) 30 #[.int .u64 f1, .int .u64 f2, .int .i64 f3]) (stab_blk (w2.heap.size) 30 #[.int .u64 f1, .int .u64 f2, .int .i64 f3])))))) HK.out (Below.refl _ w5) (.bool hB) (calls_same (eHas_any A n c l x _ ((stab_rd (Sh.int .i64) A l) w5 w5 HK.out.2.1 (Below.refl _ w5)) Hn.out hc hm)) (by rw [HHB.out])).mono ?_
  rintro e w6 ⟨rfl, hK⟩
  have HK' := hide hK
  clear hK HK
  have HK := HK'
  clear HK'
  go_wp2_with fail
  refine (Stab.call (K := (fun W => Below w.heap.size w W ∧ Rd (Sh.int .i64) W W.heap.size A l ∧ Rd (Sh.int .i32) W W.heap.size B q ∧ Rd SItem W W.heap.size C its ∧ Blk W (w1.heap.size) 30 #[.int .u64 f1, .int .u64 f2, .int .i64 f3] ∧ Blk W (w2.heap.size) 30 #[.int .u64 f1, .int .u64 f2, .int .i64 f3])) (stab_and (stab_below w) (stab_and (stab_rd (Sh.int .i64) A l) (stab_and (stab_rd (Sh.int .i32) B q) (stab_and (stab_rd SItem C its) (stab_and (stab_blk (w1.heap.size) 30 #[.int .u64 f1, .int .u64 f2, .int .i64 f3]) (stab_blk (w2.heap.size) 30 #[.int .u64 f1, .int .u64 f2, .int .i64 f3])))))) HK.out (Below.refl _ w6) (.bool hB) (calls_same (refHas_any A n c l x _ ((stab_rd (Sh.int .i64) A l) w6 w6 HK.out.2.1 (Below.refl _ w6)) Hn.out hc hm)) (by rw [HHB.out])).mono ?_
  rintro e w7 ⟨rfl, hK⟩
  have HK' := hide hK
  clear hK HK
  have HK := HK'
  clear HK'
  go_wp2_with fail
  refine (eWith_any A n c l x w7 ((stab_rd (Sh.int .i64) A l) w7 w7 HK.out.2.1 (Below.refl _ w7)) Hn.out hc hm (by omega)).mono ?_
  rintro e w8 ⟨vA1, rfl, hN⟩
  obtain ⟨A1, nA1, cA1, rfl, hlA1, hcA1, hmA1, hR, hb⟩ := hN
  have HLA1 := hide hlA1
  have HR := hR.rd (B := w8.heap.size) fun b hb => hb.2
  have hb := Below.step (Below.refl _ w7) hb
  clear hR hlA1
  have HK1 : Hid (Below w.heap.size w w8 ∧ Rd (Sh.int .i64) w8 w8.heap.size A l ∧ Rd (Sh.int .i32) w8 w8.heap.size B q ∧ Rd SItem w8 w8.heap.size C its ∧ Blk w8 (w1.heap.size) 30 #[.int .u64 f1, .int .u64 f2, .int .i64 f3] ∧ Blk w8 (w2.heap.size) 30 #[.int .u64 f1, .int .u64 f2, .int .i64 f3] ∧ Rd (Sh.int .i64) w8 w8.heap.size A1 (withF l x)) := hide (⟨((stab_below w) w7 w8 HK.out.1 hb), ((stab_rd (Sh.int .i64) A l) w7 w8 HK.out.2.1 hb), ((stab_rd (Sh.int .i32) B q) w7 w8 HK.out.2.2.1 hb), ((stab_rd SItem C its) w7 w8 HK.out.2.2.2.1 hb), ((stab_blk (w1.heap.size) 30 #[.int .u64 f1, .int .u64 f2, .int .i64 f3]) w7 w8 HK.out.2.2.2.2.1 hb), ((stab_blk (w2.heap.size) 30 #[.int .u64 f1, .int .u64 f2, .int .i64 f3]) w7 w8 HK.out.2.2.2.2.2 hb), HR⟩)
  clear HK hb
  have HK := HK1
  clear HK1
  clear HR
  go_wp2_with fail
  refine (refWith_any A n c l x w8 ((stab_rd (Sh.int .i64) A l) w8 w8 HK.out.2.1 (Below.refl _ w8)) Hn.out hc hm (by omega)).mono ?_
  rintro e w9 ⟨vA2, rfl, hN⟩
  obtain ⟨A2, nA2, cA2, rfl, hlA2, hcA2, hmA2, hR, hb⟩ := hN
  have HLA2 := hide hlA2
  have HR := hR.rd (B := w9.heap.size) fun b hb => hb.2
  have hb := Below.step (Below.refl _ w8) hb
  clear hR hlA2
  have HK1 : Hid (Below w.heap.size w w9 ∧ Rd (Sh.int .i64) w9 w9.heap.size A l ∧ Rd (Sh.int .i32) w9 w9.heap.size B q ∧ Rd SItem w9 w9.heap.size C its ∧ Blk w9 (w1.heap.size) 30 #[.int .u64 f1, .int .u64 f2, .int .i64 f3] ∧ Blk w9 (w2.heap.size) 30 #[.int .u64 f1, .int .u64 f2, .int .i64 f3] ∧ Rd (Sh.int .i64) w9 w9.heap.size A1 (withF l x) ∧ Rd (Sh.int .i64) w9 w9.heap.size A2 (withF l x)) := hide (⟨((stab_below w) w8 w9 HK.out.1 hb), ((stab_rd (Sh.int .i64) A l) w8 w9 HK.out.2.1 hb), ((stab_rd (Sh.int .i32) B q) w8 w9 HK.out.2.2.1 hb), ((stab_rd SItem C its) w8 w9 HK.out.2.2.2.1 hb), ((stab_blk (w1.heap.size) 30 #[.int .u64 f1, .int .u64 f2, .int .i64 f3]) w8 w9 HK.out.2.2.2.2.1 hb), ((stab_blk (w2.heap.size) 30 #[.int .u64 f1, .int .u64 f2, .int .i64 f3]) w8 w9 HK.out.2.2.2.2.2.1 hb), ((stab_rd (Sh.int .i64) A1 (withF l x)) w8 w9 HK.out.2.2.2.2.2.2 hb), HR⟩)
  clear HK hb
  have HK := HK1
  clear HK1
  clear HR
  go_wp2_with fail
  refine (Stab.call (K := (fun W => Below w.heap.size w W ∧ Rd (Sh.int .i64) W W.heap.size A l ∧ Rd (Sh.int .i32) W W.heap.size B q ∧ Rd SItem W W.heap.size C its ∧ Blk W (w1.heap.size) 30 #[.int .u64 f1, .int .u64 f2, .int .i64 f3] ∧ Blk W (w2.heap.size) 30 #[.int .u64 f1, .int .u64 f2, .int .i64 f3] ∧ Rd (Sh.int .i64) W W.heap.size A1 (withF l x) ∧ Rd (Sh.int .i64) W W.heap.size A2 (withF l x))) (stab_and (stab_below w) (stab_and (stab_rd (Sh.int .i64) A l) (stab_and (stab_rd (Sh.int .i32) B q) (stab_and (stab_rd SItem C its) (stab_and (stab_blk (w1.heap.size) 30 #[.int .u64 f1, .int .u64 f2, .int .i64 f3]) (stab_and (stab_blk (w2.heap.size) 30 #[.int .u64 f1, .int .u64 f2, .int .i64 f3]) (stab_and (stab_rd (Sh.int .i64) A1 (withF l x)) (stab_rd (Sh.int .i64) A2 (withF l x))))))))) HK.out (Below.refl _ w9) (.bool true) (calls_drew (sameInts_any A1 A2 nA1 cA1 nA2 cA2 (withF l x) (withF l x) _ ((stab_rd (Sh.int .i64) A1 (withF l x)) w9 w9 HK.out.2.2.2.2.2.2.1 (Below.refl _ w9)) HLA1.out hcA1 hmA1 ((stab_rd (Sh.int .i64) A2 (withF l x)) w9 w9 HK.out.2.2.2.2.2.2.2 (Below.refl _ w9)) HLA2.out hcA2 hmA2)) (congrArg Value.bool (decide_eq_true rfl))).mono ?_
  rintro e w10 ⟨rfl, hK⟩
  have HK' := hide hK
  clear hK HK
  have HK := HK'
  clear HK'
  go_wp2_with fail
  refine (eWithout_any A n c l x w10 ((stab_rd (Sh.int .i64) A l) w10 w10 HK.out.2.1 (Below.refl _ w10)) Hn.out hc hm (by omega)).mono ?_
  rintro e w11 ⟨vA3, rfl, hN⟩
  obtain ⟨A3, nA3, cA3, rfl, hlA3, hcA3, hmA3, hR, hb⟩ := hN
  have HLA3 := hide hlA3
  have HR := hR.rd (B := w11.heap.size) fun b hb => hb.2
  have hb := Below.step (Below.refl _ w10) hb
  clear hR hlA3
  have HK1 : Hid (Below w.heap.size w w11 ∧ Rd (Sh.int .i64) w11 w11.heap.size A l ∧ Rd (Sh.int .i32) w11 w11.heap.size B q ∧ Rd SItem w11 w11.heap.size C its ∧ Blk w11 (w1.heap.size) 30 #[.int .u64 f1, .int .u64 f2, .int .i64 f3] ∧ Blk w11 (w2.heap.size) 30 #[.int .u64 f1, .int .u64 f2, .int .i64 f3] ∧ Rd (Sh.int .i64) w11 w11.heap.size A1 (withF l x) ∧ Rd (Sh.int .i64) w11 w11.heap.size A2 (withF l x) ∧ Rd (Sh.int .i64) w11 w11.heap.size A3 (woF l x)) := hide (⟨((stab_below w) w10 w11 HK.out.1 hb), ((stab_rd (Sh.int .i64) A l) w10 w11 HK.out.2.1 hb), ((stab_rd (Sh.int .i32) B q) w10 w11 HK.out.2.2.1 hb), ((stab_rd SItem C its) w10 w11 HK.out.2.2.2.1 hb), ((stab_blk (w1.heap.size) 30 #[.int .u64 f1, .int .u64 f2, .int .i64 f3]) w10 w11 HK.out.2.2.2.2.1 hb), ((stab_blk (w2.heap.size) 30 #[.int .u64 f1, .int .u64 f2, .int .i64 f3]) w10 w11 HK.out.2.2.2.2.2.1 hb), ((stab_rd (Sh.int .i64) A1 (withF l x)) w10 w11 HK.out.2.2.2.2.2.2.1 hb), ((stab_rd (Sh.int .i64) A2 (withF l x)) w10 w11 HK.out.2.2.2.2.2.2.2 hb), HR⟩)
  clear HK hb
  have HK := HK1
  clear HK1
  clear HR
  go_wp2_with fail
  refine (refWithout_any A n c l x w11 ((stab_rd (Sh.int .i64) A l) w11 w11 HK.out.2.1 (Below.refl _ w11)) Hn.out hc hm (by omega)).mono ?_
  rintro e w12 ⟨vA4, rfl, hN⟩
  obtain ⟨A4, nA4, cA4, rfl, hlA4, hcA4, hmA4, hR, hb⟩ := hN
  have HLA4 := hide hlA4
  have HR := hR.rd (B := w12.heap.size) fun b hb => hb.2
  have hb := Below.step (Below.refl _ w11) hb
  clear hR hlA4
  have HK1 : Hid (Below w.heap.size w w12 ∧ Rd (Sh.int .i64) w12 w12.heap.size A l ∧ Rd (Sh.int .i32) w12 w12.heap.size B q ∧ Rd SItem w12 w12.heap.size C its ∧ Blk w12 (w1.heap.size) 30 #[.int .u64 f1, .int .u64 f2, .int .i64 f3] ∧ Blk w12 (w2.heap.size) 30 #[.int .u64 f1, .int .u64 f2, .int .i64 f3] ∧ Rd (Sh.int .i64) w12 w12.heap.size A1 (withF l x) ∧ Rd (Sh.int .i64) w12 w12.heap.size A2 (withF l x) ∧ Rd (Sh.int .i64) w12 w12.heap.size A3 (woF l x) ∧ Rd (Sh.int .i64) w12 w12.heap.size A4 (woF l x)) := hide (⟨((stab_below w) w11 w12 HK.out.1 hb), ((stab_rd (Sh.int .i64) A l) w11 w12 HK.out.2.1 hb), ((stab_rd (Sh.int .i32) B q) w11 w12 HK.out.2.2.1 hb), ((stab_rd SItem C its) w11 w12 HK.out.2.2.2.1 hb), ((stab_blk (w1.heap.size) 30 #[.int .u64 f1, .int .u64 f2, .int .i64 f3]) w11 w12 HK.out.2.2.2.2.1 hb), ((stab_blk (w2.heap.size) 30 #[.int .u64 f1, .int .u64 f2, .int .i64 f3]) w11 w12 HK.out.2.2.2.2.2.1 hb), ((stab_rd (Sh.int .i64) A1 (withF l x)) w11 w12 HK.out.2.2.2.2.2.2.1 hb), ((stab_rd (Sh.int .i64) A2 (withF l x)) w11 w12 HK.out.2.2.2.2.2.2.2.1 hb), ((stab_rd (Sh.int .i64) A3 (woF l x)) w11 w12 HK.out.2.2.2.2.2.2.2.2 hb), HR⟩)
  clear HK hb
  have HK := HK1
  clear HK1
  clear HR
  go_wp2_with fail
  refine (Stab.call (K := (fun W => Below w.heap.size w W ∧ Rd (Sh.int .i64) W W.heap.size A l ∧ Rd (Sh.int .i32) W W.heap.size B q ∧ Rd SItem W W.heap.size C its ∧ Blk W (w1.heap.size) 30 #[.int .u64 f1, .int .u64 f2, .int .i64 f3] ∧ Blk W (w2.heap.size) 30 #[.int .u64 f1, .int .u64 f2, .int .i64 f3] ∧ Rd (Sh.int .i64) W W.heap.size A1 (withF l x) ∧ Rd (Sh.int .i64) W W.heap.size A2 (withF l x) ∧ Rd (Sh.int .i64) W W.heap.size A3 (woF l x) ∧ Rd (Sh.int .i64) W W.heap.size A4 (woF l x))) (stab_and (stab_below w) (stab_and (stab_rd (Sh.int .i64) A l) (stab_and (stab_rd (Sh.int .i32) B q) (stab_and (stab_rd SItem C its) (stab_and (stab_blk (w1.heap.size) 30 #[.int .u64 f1, .int .u64 f2, .int .i64 f3]) (stab_and (stab_blk (w2.heap.size) 30 #[.int .u64 f1, .int .u64 f2, .int .i64 f3]) (stab_and (stab_rd (Sh.int .i64) A1 (withF l x)) (stab_and (stab_rd (Sh.int .i64) A2 (withF l x)) (stab_and (stab_rd (Sh.int .i64) A3 (woF l x)) (stab_rd (Sh.int .i64) A4 (woF l x))))))))))) HK.out (Below.refl _ w12) (.bool true) (calls_drew (sameInts_any A3 A4 nA3 cA3 nA4 cA4 (woF l x) (woF l x) _ ((stab_rd (Sh.int .i64) A3 (woF l x)) w12 w12 HK.out.2.2.2.2.2.2.2.2.1 (Below.refl _ w12)) HLA3.out hcA3 hmA3 ((stab_rd (Sh.int .i64) A4 (woF l x)) w12 w12 HK.out.2.2.2.2.2.2.2.2.2 (Below.refl _ w12)) HLA4.out hcA4 hmA4)) (congrArg Value.bool (decide_eq_true rfl))).mono ?_
  rintro e w13 ⟨rfl, hK⟩
  have HK' := hide hK
  clear hK HK
  have HK := HK'
  clear HK'
  go_wp2_with fail
  refine (Stab.call (K := (fun W => Below w.heap.size w W ∧ Rd (Sh.int .i64) W W.heap.size A l ∧ Rd (Sh.int .i32) W W.heap.size B q ∧ Rd SItem W W.heap.size C its ∧ Blk W (w1.heap.size) 30 #[.int .u64 f1, .int .u64 f2, .int .i64 f3] ∧ Blk W (w2.heap.size) 30 #[.int .u64 f1, .int .u64 f2, .int .i64 f3] ∧ Rd (Sh.int .i64) W W.heap.size A1 (withF l x) ∧ Rd (Sh.int .i64) W W.heap.size A2 (withF l x) ∧ Rd (Sh.int .i64) W W.heap.size A3 (woF l x) ∧ Rd (Sh.int .i64) W W.heap.size A4 (woF l x))) (stab_and (stab_below w) (stab_and (stab_rd (Sh.int .i64) A l) (stab_and (stab_rd (Sh.int .i32) B q) (stab_and (stab_rd SItem C its) (stab_and (stab_blk (w1.heap.size) 30 #[.int .u64 f1, .int .u64 f2, .int .i64 f3]) (stab_and (stab_blk (w2.heap.size) 30 #[.int .u64 f1, .int .u64 f2, .int .i64 f3]) (stab_and (stab_rd (Sh.int .i64) A1 (withF l x)) (stab_and (stab_rd (Sh.int .i64) A2 (withF l x)) (stab_and (stab_rd (Sh.int .i64) A3 (woF l x)) (stab_rd (Sh.int .i64) A4 (woF l x))))))))))) HK.out (Below.refl _ w13) (.bool rB) (eRight_any A n c l x links level slots _ ((stab_rd (Sh.int .i64) A l) w13 w13 HK.out.2.1 (Below.refl _ w13)) Hn.out hc hm HI.out) (by rw [HRB.out])).mono ?_
  rintro e w14 ⟨rfl, hK⟩
  have HK' := hide hK
  clear hK HK
  have HK := HK'
  clear HK'
  go_wp2_with fail
  refine (Stab.call (K := (fun W => Below w.heap.size w W ∧ Rd (Sh.int .i64) W W.heap.size A l ∧ Rd (Sh.int .i32) W W.heap.size B q ∧ Rd SItem W W.heap.size C its ∧ Blk W (w1.heap.size) 30 #[.int .u64 f1, .int .u64 f2, .int .i64 f3] ∧ Blk W (w2.heap.size) 30 #[.int .u64 f1, .int .u64 f2, .int .i64 f3] ∧ Rd (Sh.int .i64) W W.heap.size A1 (withF l x) ∧ Rd (Sh.int .i64) W W.heap.size A2 (withF l x) ∧ Rd (Sh.int .i64) W W.heap.size A3 (woF l x) ∧ Rd (Sh.int .i64) W W.heap.size A4 (woF l x))) (stab_and (stab_below w) (stab_and (stab_rd (Sh.int .i64) A l) (stab_and (stab_rd (Sh.int .i32) B q) (stab_and (stab_rd SItem C its) (stab_and (stab_blk (w1.heap.size) 30 #[.int .u64 f1, .int .u64 f2, .int .i64 f3]) (stab_and (stab_blk (w2.heap.size) 30 #[.int .u64 f1, .int .u64 f2, .int .i64 f3]) (stab_and (stab_rd (Sh.int .i64) A1 (withF l x)) (stab_and (stab_rd (Sh.int .i64) A2 (withF l x)) (stab_and (stab_rd (Sh.int .i64) A3 (woF l x)) (stab_rd (Sh.int .i64) A4 (woF l x))))))))))) HK.out (Below.refl _ w14) (.bool rB) (calls_same (refRight_any A n c l x links level slots _ ((stab_rd (Sh.int .i64) A l) w14 w14 HK.out.2.1 (Below.refl _ w14)) Hn.out hc hm)) (by rw [HRB.out])).mono ?_
  rintro e w15 ⟨rfl, hK⟩
  have HK' := hide hK
  clear hK HK
  have HK := HK'
  clear HK'
  have HN0 := hide HK.out.2.2.2.2.1
  have z00 : w15.cell? ⟨w1.heap.size, 0, none⟩ = some (.int .u64 f1) := HN0.out.cell 0
  have z01 : w15.cell? ⟨w1.heap.size, 1, none⟩ = some (.int .u64 f2) := HN0.out.cell 1
  have z02 : w15.cell? ⟨w1.heap.size, 2, none⟩ = some (.int .i64 f3) := HN0.out.cell 2
  have HN1 := hide HK.out.2.2.2.2.2.1
  have z10 : w15.cell? ⟨w2.heap.size, 0, none⟩ = some (.int .u64 f1) := HN1.out.cell 0
  have z11 : w15.cell? ⟨w2.heap.size, 1, none⟩ = some (.int .u64 f2) := HN1.out.cell 1
  have z12 : w15.cell? ⟨w2.heap.size, 2, none⟩ = some (.int .i64 f3) := HN1.out.cell 2
  go_wp2_with fail
  refine (ePairs_any A n c l w15 ((stab_rd (Sh.int .i64) A l) w15 w15 HK.out.2.1 (Below.refl _ w15)) Hn.out hc hm (by omega)).mono ?_
  rintro e w16 ⟨vA5, rfl, hN⟩
  obtain ⟨A5, nA5, cA5, rfl, hlA5, hcA5, hmA5, hR, hb⟩ := hN
  have HLA5 := hide hlA5
  have HR := hR.rd (B := w16.heap.size) fun b hb => hb.2
  have hb := Below.step (Below.refl _ w15) hb
  clear hR hlA5
  have HK1 : Hid (Below w.heap.size w w16 ∧ Rd (Sh.int .i64) w16 w16.heap.size A l ∧ Rd (Sh.int .i32) w16 w16.heap.size B q ∧ Rd SItem w16 w16.heap.size C its ∧ Blk w16 (w1.heap.size) 30 #[.int .u64 f1, .int .u64 f2, .int .i64 f3] ∧ Blk w16 (w2.heap.size) 30 #[.int .u64 f1, .int .u64 f2, .int .i64 f3] ∧ Rd (Sh.int .i64) w16 w16.heap.size A1 (withF l x) ∧ Rd (Sh.int .i64) w16 w16.heap.size A2 (withF l x) ∧ Rd (Sh.int .i64) w16 w16.heap.size A3 (woF l x) ∧ Rd (Sh.int .i64) w16 w16.heap.size A4 (woF l x) ∧ Rd SPr w16 w16.heap.size A5 (pairsF l)) := hide (⟨((stab_below w) w15 w16 HK.out.1 hb), ((stab_rd (Sh.int .i64) A l) w15 w16 HK.out.2.1 hb), ((stab_rd (Sh.int .i32) B q) w15 w16 HK.out.2.2.1 hb), ((stab_rd SItem C its) w15 w16 HK.out.2.2.2.1 hb), ((stab_blk (w1.heap.size) 30 #[.int .u64 f1, .int .u64 f2, .int .i64 f3]) w15 w16 HK.out.2.2.2.2.1 hb), ((stab_blk (w2.heap.size) 30 #[.int .u64 f1, .int .u64 f2, .int .i64 f3]) w15 w16 HK.out.2.2.2.2.2.1 hb), ((stab_rd (Sh.int .i64) A1 (withF l x)) w15 w16 HK.out.2.2.2.2.2.2.1 hb), ((stab_rd (Sh.int .i64) A2 (withF l x)) w15 w16 HK.out.2.2.2.2.2.2.2.1 hb), ((stab_rd (Sh.int .i64) A3 (woF l x)) w15 w16 HK.out.2.2.2.2.2.2.2.2.1 hb), ((stab_rd (Sh.int .i64) A4 (woF l x)) w15 w16 HK.out.2.2.2.2.2.2.2.2.2 hb), HR⟩)
  clear HK hb
  have HK := HK1
  clear HK1
  clear HR
  clear z00 z01 z02 z10 z11 z12 HN0 HN1
  go_wp2_with fail
  refine (refPairs_any A n c l w16 ((stab_rd (Sh.int .i64) A l) w16 w16 HK.out.2.1 (Below.refl _ w16)) Hn.out hc hm (by omega)).mono ?_
  rintro e w17 ⟨vA6, rfl, hN⟩
  obtain ⟨A6, nA6, cA6, rfl, hlA6, hcA6, hmA6, hR, hb⟩ := hN
  have HLA6 := hide hlA6
  have HR := hR.rd (B := w17.heap.size) fun b hb => hb.2
  have hb := Below.step (Below.refl _ w16) hb
  clear hR hlA6
  have HK1 : Hid (Below w.heap.size w w17 ∧ Rd (Sh.int .i64) w17 w17.heap.size A l ∧ Rd (Sh.int .i32) w17 w17.heap.size B q ∧ Rd SItem w17 w17.heap.size C its ∧ Blk w17 (w1.heap.size) 30 #[.int .u64 f1, .int .u64 f2, .int .i64 f3] ∧ Blk w17 (w2.heap.size) 30 #[.int .u64 f1, .int .u64 f2, .int .i64 f3] ∧ Rd (Sh.int .i64) w17 w17.heap.size A1 (withF l x) ∧ Rd (Sh.int .i64) w17 w17.heap.size A2 (withF l x) ∧ Rd (Sh.int .i64) w17 w17.heap.size A3 (woF l x) ∧ Rd (Sh.int .i64) w17 w17.heap.size A4 (woF l x) ∧ Rd SPr w17 w17.heap.size A5 (pairsF l) ∧ Rd SPr w17 w17.heap.size A6 (pairsF l)) := hide (⟨((stab_below w) w16 w17 HK.out.1 hb), ((stab_rd (Sh.int .i64) A l) w16 w17 HK.out.2.1 hb), ((stab_rd (Sh.int .i32) B q) w16 w17 HK.out.2.2.1 hb), ((stab_rd SItem C its) w16 w17 HK.out.2.2.2.1 hb), ((stab_blk (w1.heap.size) 30 #[.int .u64 f1, .int .u64 f2, .int .i64 f3]) w16 w17 HK.out.2.2.2.2.1 hb), ((stab_blk (w2.heap.size) 30 #[.int .u64 f1, .int .u64 f2, .int .i64 f3]) w16 w17 HK.out.2.2.2.2.2.1 hb), ((stab_rd (Sh.int .i64) A1 (withF l x)) w16 w17 HK.out.2.2.2.2.2.2.1 hb), ((stab_rd (Sh.int .i64) A2 (withF l x)) w16 w17 HK.out.2.2.2.2.2.2.2.1 hb), ((stab_rd (Sh.int .i64) A3 (woF l x)) w16 w17 HK.out.2.2.2.2.2.2.2.2.1 hb), ((stab_rd (Sh.int .i64) A4 (woF l x)) w16 w17 HK.out.2.2.2.2.2.2.2.2.2.1 hb), ((stab_rd SPr A5 (pairsF l)) w16 w17 HK.out.2.2.2.2.2.2.2.2.2.2 hb), HR⟩)
  clear HK hb
  have HK := HK1
  clear HK1
  clear HR
  go_wp2_with fail
  refine (Stab.call (K := (fun W => Below w.heap.size w W ∧ Rd (Sh.int .i64) W W.heap.size A l ∧ Rd (Sh.int .i32) W W.heap.size B q ∧ Rd SItem W W.heap.size C its ∧ Blk W (w1.heap.size) 30 #[.int .u64 f1, .int .u64 f2, .int .i64 f3] ∧ Blk W (w2.heap.size) 30 #[.int .u64 f1, .int .u64 f2, .int .i64 f3] ∧ Rd (Sh.int .i64) W W.heap.size A1 (withF l x) ∧ Rd (Sh.int .i64) W W.heap.size A2 (withF l x) ∧ Rd (Sh.int .i64) W W.heap.size A3 (woF l x) ∧ Rd (Sh.int .i64) W W.heap.size A4 (woF l x) ∧ Rd SPr W W.heap.size A5 (pairsF l) ∧ Rd SPr W W.heap.size A6 (pairsF l))) (stab_and (stab_below w) (stab_and (stab_rd (Sh.int .i64) A l) (stab_and (stab_rd (Sh.int .i32) B q) (stab_and (stab_rd SItem C its) (stab_and (stab_blk (w1.heap.size) 30 #[.int .u64 f1, .int .u64 f2, .int .i64 f3]) (stab_and (stab_blk (w2.heap.size) 30 #[.int .u64 f1, .int .u64 f2, .int .i64 f3]) (stab_and (stab_rd (Sh.int .i64) A1 (withF l x)) (stab_and (stab_rd (Sh.int .i64) A2 (withF l x)) (stab_and (stab_rd (Sh.int .i64) A3 (woF l x)) (stab_and (stab_rd (Sh.int .i64) A4 (woF l x)) (stab_and (stab_rd SPr A5 (pairsF l)) (stab_rd SPr A6 (pairsF l))))))))))))) HK.out (Below.refl _ w17) (.bool true) (calls_drew (samePairs_any A5 A6 nA5 cA5 nA6 cA6 (pairsF l) (pairsF l) _ ((stab_rd SPr A5 (pairsF l)) w17 w17 HK.out.2.2.2.2.2.2.2.2.2.2.1 (Below.refl _ w17)) HLA5.out hcA5 hmA5 ((stab_rd SPr A6 (pairsF l)) w17 w17 HK.out.2.2.2.2.2.2.2.2.2.2.2 (Below.refl _ w17)) HLA6.out hcA6 hmA6)) (congrArg Value.bool (decide_eq_true rfl))).mono ?_
  rintro e w18 ⟨rfl, hK⟩
  have HK' := hide hK
  clear hK HK
  have HK := HK'
  clear HK'
  go_wp2_with fail
  go_ret
  exact ⟨rfl, HK.out.1⟩
end Go.Proofs.Ytggbokgacffamaa
