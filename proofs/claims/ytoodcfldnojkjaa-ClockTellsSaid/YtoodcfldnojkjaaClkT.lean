/-
  The law ClockTells: for every input it returns true. No condition.
-/
import Derived.Test.YtoodcfldnojkjaaClkM
namespace Go.Proofs.Ytoodcfldnojkjaa
open Go.RowKit

set_option maxHeartbeats 4000000 in
theorem clockTells_any (A B : Option Addr) (na ca nb cb : Nat) (xs ys : List Int) (i : Int) (w : World) (Ia : Ints w w.heap.size A xs) (hla : xs.length = na) (hna : na ≤ ca) (hma : ca ≤ 9223372036854775807)
    (Ib : Ints w w.heap.size B ys) (hlb : ys.length = nb) (hnb : nb ≤ cb) (hmb : cb ≤ 9223372036854775807) :
    Calls Try.prog 3 #[.slice A na ca, .slice B nb cb, .int .i64 i] w fun e w' => e = .returned (.bool true) ∧ Below w.heap.size w w' := by
  have La := hide hla
  have Lb := hide hlb
  clear hla hlb
  by_cases h1 : 100 < (na : Int)
  · go_enter Try.func3, Try.ntmps3
    go_wp2_with fail
    refine (lives_any _).mono ?_
    rintro e w1 ⟨rfl, hb⟩
    go_wp2_with fail
    go_ret
    exact ⟨rfl, hb⟩
  by_cases h2 : 100 < (nb : Int)
  · go_enter Try.func3, Try.ntmps3
    go_wp2_with fail
    refine (lives_any _).mono ?_
    rintro e w1 ⟨rfl, hb⟩
    go_wp2_with fail
    go_ret
    exact ⟨rfl, hb⟩
  go_enter Try.func3, Try.ntmps3
  have hb0 : Below w.heap.size w w := Below.refl _ _
  go_wp2_with fail
  refine (lives_any _).mono ?_
  rintro e w1 ⟨rfl, hc1⟩
  have hb1 := hb0.trans (hc1.mono hb0.size)
  clear hb0
  have Ia' := (Ia.below hc1 (Nat.le_refl _)).more hc1.size
  clear Ia
  have Ia := Ia'
  clear Ia'
  have Ib' := (Ib.below hc1 (Nat.le_refl _)).more hc1.size
  clear Ib
  have Ib := Ib'
  clear Ib'
  clear hc1
  go_wp2_with fail
  refine (at_any _ _ _ xs i _ Ia La.out hna hma).mono ?_
  rintro e w2 ⟨rfl, hc2⟩
  have hb2 := hb1.trans (hc2.mono hb1.size)
  clear hb1
  have Ia' := (Ia.below hc2 (Nat.le_refl _)).more hc2.size
  clear Ia
  have Ia := Ia'
  clear Ia'
  have Ib' := (Ib.below hc2 (Nat.le_refl _)).more hc2.size
  clear Ib
  have Ib := Ib'
  clear Ib'
  clear hc2
  go_wp2_with fail
  refine (refAt_any _ _ _ xs i _ Ia La.out).mono ?_
  rintro e _ ⟨rfl, rfl⟩
  go_wp2_with fail
  refine (short_any _ _ _ xs _ Ia La.out hna hma).mono ?_
  rintro e w3 ⟨A1, n1, c1, rfl, hl1, hn1, hm1, I1, hc3⟩
  have L1 := hide hl1
  clear hl1
  have hb3 := hb2.trans (hc3.mono hb2.size)
  clear hb2
  have Ia' := (Ia.below hc3 (Nat.le_refl _)).more hc3.size
  clear Ia
  have Ia := Ia'
  clear Ia'
  have Ib' := (Ib.below hc3 (Nat.le_refl _)).more hc3.size
  clear Ib
  have Ib := Ib'
  clear Ib'
  clear hc3
  go_wp2_with fail
  refine (refShort_any _ _ _ xs _ Ia La.out hna hma).mono ?_
  rintro e w4 ⟨A2, n2, c2, rfl, hl2, hn2, hm2, I2, hc4⟩
  have L2 := hide hl2
  clear hl2
  have hb4 := hb3.trans (hc4.mono hb3.size)
  clear hb3
  have Ia' := (Ia.below hc4 (Nat.le_refl _)).more hc4.size
  clear Ia
  have Ia := Ia'
  clear Ia'
  have Ib' := (Ib.below hc4 (Nat.le_refl _)).more hc4.size
  clear Ib
  have Ib := Ib'
  clear Ib'
  have I1' := (I1.below hc4 (Nat.le_refl _)).more hc4.size
  clear I1
  have I1 := I1'
  clear I1'
  clear hc4
  go_wp2_with fail
  refine (same_lit _ _ _ I1 L1.out hn1 hm1 I2 L2.out).mono ?_
  rintro e w5 ⟨rfl, hc5⟩
  have hb5 := hb4.trans (hc5.mono hb4.size)
  clear hb4
  have Ia' := (Ia.below hc5 (Nat.le_refl _)).more hc5.size
  clear Ia
  have Ia := Ia'
  clear Ia'
  have Ib' := (Ib.below hc5 (Nat.le_refl _)).more hc5.size
  clear Ib
  have Ib := Ib'
  clear Ib'
  have I1' := (I1.below hc5 (Nat.le_refl _)).more hc5.size
  clear I1
  have I1 := I1'
  clear I1'
  have I2' := (I2.below hc5 (Nat.le_refl _)).more hc5.size
  clear I2
  have I2 := I2'
  clear I2'
  clear hc5
  clear I1
  clear I2
  go_wp2_with fail
  refine (tick_any _ _ _ xs i _ Ia La.out hna hma).mono ?_
  rintro e w6 ⟨A3, n3, c3, rfl, hl3, hn3, hm3, I3, hc6⟩
  have L3 := hide hl3
  clear hl3
  have hb6 := hb5.trans (hc6.mono hb5.size)
  clear hb5
  have Ia' := (Ia.below hc6 (Nat.le_refl _)).more hc6.size
  clear Ia
  have Ia := Ia'
  clear Ia'
  have Ib' := (Ib.below hc6 (Nat.le_refl _)).more hc6.size
  clear Ib
  have Ib := Ib'
  clear Ib'
  clear hc6
  go_wp2_with fail
  refine (refTick_any _ _ _ xs i _ Ia La.out hna hma).mono ?_
  rintro e w7 ⟨A4, n4, c4, rfl, hl4, hn4, hm4, I4, hc7⟩
  have L4 := hide hl4
  clear hl4
  have hb7 := hb6.trans (hc7.mono hb6.size)
  clear hb6
  have Ia' := (Ia.below hc7 (Nat.le_refl _)).more hc7.size
  clear Ia
  have Ia := Ia'
  clear Ia'
  have Ib' := (Ib.below hc7 (Nat.le_refl _)).more hc7.size
  clear Ib
  have Ib := Ib'
  clear Ib'
  have I3' := (I3.below hc7 (Nat.le_refl _)).more hc7.size
  clear I3
  have I3 := I3'
  clear I3'
  clear hc7
  go_wp2_with fail
  refine (same_lit _ _ _ I3 L3.out hn3 hm3 I4 L4.out).mono ?_
  rintro e w8 ⟨rfl, hc8⟩
  have hb8 := hb7.trans (hc8.mono hb7.size)
  clear hb7
  have Ia' := (Ia.below hc8 (Nat.le_refl _)).more hc8.size
  clear Ia
  have Ia := Ia'
  clear Ia'
  have Ib' := (Ib.below hc8 (Nat.le_refl _)).more hc8.size
  clear Ib
  have Ib := Ib'
  clear Ib'
  have I3' := (I3.below hc8 (Nat.le_refl _)).more hc8.size
  clear I3
  have I3 := I3'
  clear I3'
  have I4' := (I4.below hc8 (Nat.le_refl _)).more hc8.size
  clear I4
  have I4 := I4'
  clear I4'
  clear hc8
  clear I3
  clear I4
  go_wp2_with fail
  refine (join_any _ _ _ _ _ _ xs ys _ Ia La.out hna hma Ib Lb.out hnb hmb).mono ?_
  rintro e w9 ⟨A5, n5, c5, rfl, hl5, hn5, hm5, I5, hc9⟩
  have L5 := hide hl5
  clear hl5
  have hb9 := hb8.trans (hc9.mono hb8.size)
  clear hb8
  have Ia' := (Ia.below hc9 (Nat.le_refl _)).more hc9.size
  clear Ia
  have Ia := Ia'
  clear Ia'
  have Ib' := (Ib.below hc9 (Nat.le_refl _)).more hc9.size
  clear Ib
  have Ib := Ib'
  clear Ib'
  clear hc9
  go_wp2_with fail
  refine (refJoin_any _ _ _ _ _ _ xs ys _ Ia La.out Ib Lb.out).mono ?_
  rintro e w10 ⟨A6, n6, c6, rfl, hl6, hn6, hm6, I6, hc10⟩
  have L6 := hide hl6
  clear hl6
  have hb10 := hb9.trans (hc10.mono hb9.size)
  clear hb9
  have Ia' := (Ia.below hc10 (Nat.le_refl _)).more hc10.size
  clear Ia
  have Ia := Ia'
  clear Ia'
  have Ib' := (Ib.below hc10 (Nat.le_refl _)).more hc10.size
  clear Ib
  have Ib := Ib'
  clear Ib'
  have I5' := (I5.below hc10 (Nat.le_refl _)).more hc10.size
  clear I5
  have I5 := I5'
  clear I5'
  clear hc10
  go_wp2_with fail
  refine (same_lit _ _ _ I5 L5.out hn5 hm5 I6 L6.out).mono ?_
  rintro e w11 ⟨rfl, hc11⟩
  have hb11 := hb10.trans (hc11.mono hb10.size)
  clear hb10
  have Ia' := (Ia.below hc11 (Nat.le_refl _)).more hc11.size
  clear Ia
  have Ia := Ia'
  clear Ia'
  have Ib' := (Ib.below hc11 (Nat.le_refl _)).more hc11.size
  clear Ib
  have Ib := Ib'
  clear Ib'
  have I5' := (I5.below hc11 (Nat.le_refl _)).more hc11.size
  clear I5
  have I5 := I5'
  clear I5'
  have I6' := (I6.below hc11 (Nat.le_refl _)).more hc11.size
  clear I6
  have I6 := I6'
  clear I6'
  clear hc11
  clear I5
  clear I6
  go_wp2_with fail
  refine (compare_any _ _ _ _ _ _ xs ys _ Ia La.out hna hma Ib Lb.out hnb hmb).mono ?_
  rintro e w12 ⟨rfl, hc12⟩
  have hb12 := hb11.trans (hc12.mono hb11.size)
  clear hb11
  have Ia' := (Ia.below hc12 (Nat.le_refl _)).more hc12.size
  clear Ia
  have Ia := Ia'
  clear Ia'
  have Ib' := (Ib.below hc12 (Nat.le_refl _)).more hc12.size
  clear Ib
  have Ib := Ib'
  clear Ib'
  clear hc12
  go_wp2_with fail
  refine (refCompare_any _ _ _ _ _ _ xs ys _ Ia La.out Ib Lb.out).mono ?_
  rintro e _ ⟨rfl, rfl⟩
  go_wp2_with fail
  go_ret
  exact ⟨rfl, hb12⟩
end Go.Proofs.Ytoodcfldnojkjaa
