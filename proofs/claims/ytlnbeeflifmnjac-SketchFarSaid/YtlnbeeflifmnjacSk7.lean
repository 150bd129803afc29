/-
  lives of the law's package. No condition.
-/
import Derived.Test.YtlnbeeflifmnjacSk3
import Derived.Test.YtlnbeeflifmnjacSk4
import Derived.Test.YtlnbeeflifmnjacSk6
import Derived.Test.YtlnbeeflifmnjacEqI
namespace Go.Proofs.Ytlnbeeflifmnjac
set_option linter.unusedSimpArgs false
set_option linter.unusedVariables false
open Go.RowKit

def w70 : List Int := [18446744073709551615, 63]
theorem above_zero (seed : Int) (p : Nat) : aboveP [0, 0] seed p = true := by
  unfold aboveP
  refine decide_eq_true ?_
  simp [sumP]
theorem w70_lo : ∀ n, n < 128 → mw w70 n = decide (n < 70) := by decide +kernel
theorem w70_mw (n : Nat) (hn : n < 4096) : mw w70 n = decide (n < 70) := by
  rcases Nat.lt_or_ge n 128 with h | h
  · exact w70_lo n h
  · rw [decide_eq_false (by omega)]
    cases e : mw w70 n with
    | false => rfl
    | true => have h2 : n / 64 < 2 := mw_len e; omega
theorem w70_is : IsOf w70 (planesK [0, 0] 5 70) where
  c := ⟨by simp [w70, UL], by decide, by decide⟩
  m n hn := by
    rw [w70_mw n hn, decide_eq_decide, planes_mem]
    exact ⟨fun h => ⟨h, above_zero _ _⟩, fun h => h.1⟩
theorem w70_list : (listW w70).length = 70 := by decide +kernel
theorem ap3 : apartW [5] [6, 1] = 3 := by decide +kernel
theorem sgn312 : sgnV 3 1 2 = -1 := by kernel_rfl
def f0 : Far := (⟨2, by decide⟩, ⟨0, by decide⟩)
def f1 : Far := (⟨0, by decide⟩, ⟨1, by decide⟩)
def f2 : Far := (⟨0, by decide⟩, ⟨2, by decide⟩)
theorem fars3 : (List.range 3).map (farA [[7], [1], [1]] [1]) = [f0, f1, f2] := by decide +kernel
theorem srt3 : srtFr [f0, f1, f2] = [f1, f2, f0] := by
  unfold srtFr
  symm
  refine srt_eq swoFr totFr ?_ (by decide)
  exact (List.Perm.cons f1 (List.Perm.swap f0 f2 [])).trans (List.Perm.swap f0 f1 [f2])
theorem near3 : ((srtFr ((List.range 3).map (farA [[7], [1], [1]] [1]))).take 2).map (fun x => (x.2.val : Int)) = [1, 2] := by
  rw [fars3, srt3]; rfl
def cU (l : List Int) : Obj := .cells (l.map (Value.int .u64)).toArray 23
theorem rdU {W : World} (l : List Int) : Rd (Sh.int .u64) (W.alloc (cU l)) (W.alloc (cU l)).heap.size (some ⟨W.heap.size, 0, none⟩) l := lit_at l (Blk.new W 23 _) (by simp)
theorem l_ap (W : World) : Calls Try.prog 6 #[.slice (some ⟨W.heap.size, 0, none⟩) 1 1, .slice (some ⟨W.heap.size + 1, 0, none⟩) 2 2] ((W.alloc (.cells #[.int .u64 5] 23)).alloc (.cells #[.int .u64 6, .int .u64 1] 23)) fun e w' => e = .returned (.int .i64 3) ∧ Below W.heap.size W w' := by
  have h1 : Rd (Sh.int .u64) ((W.alloc (cU [5])).alloc (cU [6, 1])) ((W.alloc (cU [5])).alloc (cU [6, 1])).heap.size (some ⟨W.heap.size, 0, none⟩) [5] := Rd.at_world (rdU [5]) (below1 _ _)
  have h2 : Rd (Sh.int .u64) ((W.alloc (cU [5])).alloc (cU [6, 1])) ((W.alloc (cU [5])).alloc (cU [6, 1])).heap.size (some ⟨W.heap.size + 1, 0, none⟩) [6, 1] := by have := rdU (W := W.alloc (cU [5])) [6, 1]; simpa using this
  refine (eApart_any h1 rfl (Nat.le_refl 1) (by omega) (by simp [UL]) h2 rfl (Nat.le_refl 2) (by omega) (by simp [UL])).mono ?_
  rintro e w' ⟨rfl, hb⟩
  rw [ap3]
  exact ⟨rfl, Below.step (below2 W _ _) hb⟩
theorem l_near3 (W : World) : Calls Try.prog 14 #[.slice (some ⟨W.heap.size + 1 + 1 + 1, 0, none⟩) 3 3, .slice (some ⟨W.heap.size + 1 + 1 + 1 + 1, 0, none⟩) 1 1, .int .i64 2]
    (((((W.alloc (.cells #[.int .u64 7] 23)).alloc (.cells #[.int .u64 1] 23)).alloc (.cells #[.int .u64 1] 23)).alloc (.cells #[.slice (some ⟨W.heap.size, 0, none⟩) 1 1, .slice (some ⟨W.heap.size + 1, 0, none⟩) 1 1, .slice (some ⟨W.heap.size + 1 + 1, 0, none⟩) 1 1] 25)).alloc (.cells #[.int .u64 1] 23))
    fun e w' => ∃ A c, e = .returned (.slice A 2 c) ∧ 2 ≤ c ∧ c ≤ 9223372036854775807 ∧ Rd (Sh.int .i64) w' w'.heap.size A [1, 2] ∧ Below W.heap.size W w' := by
  have k0 : Rd (Sh.int .u64) (W.alloc (cU [7])) (W.alloc (cU [7])).heap.size (some ⟨W.heap.size, 0, none⟩) [7] := rdU [7]
  obtain ⟨w0, hw0⟩ : ∃ w0, W.alloc (cU [7]) = w0 := ⟨_, rfl⟩
  have s0 : w0.heap.size = W.heap.size + 1 := by rw [← hw0]; simp
  have k1 : Rd (Sh.int .u64) (w0.alloc (cU [1])) (w0.alloc (cU [1])).heap.size (some ⟨W.heap.size + 1, 0, none⟩) [1] := by rw [← s0]; exact rdU [1]
  obtain ⟨w1, hw1⟩ : ∃ w1, w0.alloc (cU [1]) = w1 := ⟨_, rfl⟩
  have s1 : w1.heap.size = W.heap.size + 1 + 1 := by rw [← hw1]; simp [s0]
  have k2 : Rd (Sh.int .u64) (w1.alloc (cU [1])) (w1.alloc (cU [1])).heap.size (some ⟨W.heap.size + 1 + 1, 0, none⟩) [1] := by rw [← s1]; exact rdU [1]
  obtain ⟨w2, hw2⟩ : ∃ w2, w1.alloc (cU [1]) = w2 := ⟨_, rfl⟩
  have s2 : w2.heap.size = W.heap.size + 1 + 1 + 1 := by rw [← hw2]; simp [s1]
  rw [hw0] at k0
  rw [hw1] at k1
  rw [hw2] at k2
  have b01 : Below w0.heap.size w0 w1 := by rw [← hw1]; exact below1 _ _
  have b12 : Below w1.heap.size w1 w2 := by rw [← hw2]; exact below1 _ _
  have k0 := (k0.at_world b01).at_world b12
  have k1 := k1.at_world b12
  have hL : Rd (Sh.list (Sh.int .u64)) (w2.alloc (.cells #[.slice (some ⟨W.heap.size, 0, none⟩) 1 1, .slice (some ⟨W.heap.size + 1, 0, none⟩) 1 1, .slice (some ⟨W.heap.size + 1 + 1, 0, none⟩) 1 1] 25)) (w2.alloc (.cells #[.slice (some ⟨W.heap.size, 0, none⟩) 1 1, .slice (some ⟨W.heap.size + 1, 0, none⟩) 1 1, .slice (some ⟨W.heap.size + 1 + 1, 0, none⟩) 1 1] 25)).heap.size (some ⟨W.heap.size + 1 + 1 + 1, 0, none⟩) [[7], [1], [1]] := by
    rw [← s2]
    refine LA.at_ (cs := [.slice (some ⟨W.heap.size, 0, none⟩) 1 1, .slice (some ⟨W.heap.size + 1, 0, none⟩) 1 1, .slice (some ⟨W.heap.size + 1 + 1, 0, none⟩) 1 1]) (Blk.new w2 25 _) (by simp) ?_
    exact LA.cons rfl (Nat.le_refl _) (by omega) (k0.at_world (below1 _ _)) (LA.cons rfl (Nat.le_refl _) (by omega) (k1.at_world (below1 _ _)) (LA.cons rfl (Nat.le_refl _) (by omega) (k2.at_world (below1 _ _)) LA.nil))
  obtain ⟨w3, hw3⟩ : ∃ w3, w2.alloc (.cells #[.slice (some ⟨W.heap.size, 0, none⟩) 1 1, .slice (some ⟨W.heap.size + 1, 0, none⟩) 1 1, .slice (some ⟨W.heap.size + 1 + 1, 0, none⟩) 1 1] 25) = w3 := ⟨_, rfl⟩
  have s3 : w3.heap.size = W.heap.size + 1 + 1 + 1 + 1 := by rw [← hw3]; simp [s2]
  rw [hw3] at hL
  have hQ : Rd (Sh.int .u64) (w3.alloc (cU [1])) (w3.alloc (cU [1])).heap.size (some ⟨W.heap.size + 1 + 1 + 1 + 1, 0, none⟩) [1] := by rw [← s3]; exact rdU [1]
  have hB : Below W.heap.size W (w3.alloc (cU [1])) := by
    rw [← hw3, ← hw2, ← hw1, ← hw0]
    exact ((below3 W _ _ _).alloc (by simp; omega) _).alloc (by simp; omega) _
  have h := eNear_any (n := 3) (m := 1) (K := 2) (hL.at_world (below1 w3 (cU [1]))) rfl (Nat.le_refl 3) (by omega) (by simp [UL]) hQ rfl (Nat.le_refl 1) (by omega) (by simp [UL]) 2 (by decide)
  rw [near3, ← hw3, ← hw2, ← hw1, ← hw0] at h
  rw [← hw3, ← hw2, ← hw1, ← hw0] at hB
  refine Calls.mono h ?_
  rintro e w' ⟨v, rfl, A, n, c, rfl, hn, h1, h2, h3, h4⟩
  obtain rfl : n = 2 := hn.symm
  exact ⟨A, c, rfl, h1, h2, h3.rd fun d hd => hd.2, Below.step hB h4⟩
theorem l_ints {W : World} {A : Option Addr} {c : Nat} {l : List Int} (hA : Rd (Sh.int .i64) W W.heap.size A l) (hc : l.length ≤ c) (hm : c ≤ 9223372036854775807) (h9 : l.length ≤ 100) :
    Calls Try.prog 13 #[.slice A l.length c, .slice (some ⟨W.heap.size, 0, none⟩) l.length l.length] (W.alloc (.cells (l.map (Value.int .i64)).toArray 3)) fun e w' => e = .returned (.bool true) ∧ Below W.heap.size W w' := by
  have hb := below1 W (.cells (l.map (Value.int .i64)).toArray 3)
  have hN := Blk.new W 3 (l.map (Value.int .i64)).toArray
  refine (sameInts_any A (some ⟨W.heap.size, 0, none⟩) l.length c l.length l.length l l _ (hA.at_world hb) rfl hc hm (lit_at l hN hN.lt) rfl (Nat.le_refl _) (by omega)).mono ?_
  rintro e w' ⟨rfl, hd⟩
  exact ⟨by simp, Below.step hb hd.below⟩
theorem l_near0 (W : World) : Calls Try.prog 14 #[.slice (some ⟨W.heap.size + 1, 0, none⟩) 1 1, .slice none 0 0, .int .i64 (-1)]
    ((W.alloc (.cells #[.int .u64 1] 23)).alloc (.cells #[.slice (some ⟨W.heap.size, 0, none⟩) 1 1] 25)) fun e w' => ∃ A c, e = .returned (.slice A 0 c) ∧ Below W.heap.size W w' := by
  have k0 : Rd (Sh.int .u64) (W.alloc (cU [1])) (W.alloc (cU [1])).heap.size (some ⟨W.heap.size, 0, none⟩) [1] := rdU [1]
  have hL : Rd (Sh.list (Sh.int .u64)) ((W.alloc (cU [1])).alloc (.cells #[.slice (some ⟨W.heap.size, 0, none⟩) 1 1] 25)) ((W.alloc (cU [1])).alloc (.cells #[.slice (some ⟨W.heap.size, 0, none⟩) 1 1] 25)).heap.size (some ⟨W.heap.size + 1, 0, none⟩) [[1]] := by
    have s0 : (W.alloc (cU [1])).heap.size = W.heap.size + 1 := by simp
    rw [← s0]
    exact LA.at_ (cs := [.slice (some ⟨W.heap.size, 0, none⟩) 1 1]) (Blk.new _ 25 _) (by simp) (LA.cons rfl (Nat.le_refl _) (by omega) (k0.at_world (below1 _ _)) LA.nil)
  refine (eNear_any (n := 1) (m := 0) (K := 0) hL rfl (Nat.le_refl 1) (by omega) (by simp [UL]) (q := []) RdR.nil rfl (Nat.le_refl 0) (by omega) (by simp [UL]) (-1) (by decide)).mono ?_
  rintro e w' ⟨v, rfl, A, n, c, rfl, hn, h1, h2, h3, h4⟩
  obtain rfl : n = 0 := by rw [← hn]; simp
  exact ⟨A, c, rfl, Below.step (below2 W _ _) h4⟩
theorem l_of0 (W : World) : Calls Try.prog 11 #[.slice (some ⟨W.heap.size, 0, none⟩) 1 1, .int .u64 1, .int .i64 0] (W.alloc (.cells #[.int .i32 1] 21)) fun e w' => ∃ A c, e = .returned (.slice A 0 c) ∧ Below W.heap.size W w' := by
  refine (eSk_any (v := [1]) (n := 1) (lit_at [1] (Blk.new W _ _) (by simp)) rfl (by omega) (by omega) (by simp [I32L]) 1 0 0 (by decide)).mono ?_
  rintro e w' ⟨s, v, hs, rfl, A, n, c, rfl, hn, h1, h2, h3, h4⟩
  obtain rfl : s = [] := hs.one IsOf.nil
  obtain rfl : n = 0 := hn.symm
  exact ⟨A, c, rfl, Below.step (below1 W _) h4⟩
set_option maxHeartbeats 4000000 in
set_option maxRecDepth 100000 in
theorem lives_any (w : World) : Calls Try.prog 5 #[] w fun e w' => e = .returned (.bool true) ∧ Below w.heap.size w w' := by
  have CS := hide (fun W => eSign_any 3 1 2 (by decide) (by decide) W)
  have CS0 := hide (fun W => eSign_any 3 (-1) 0 (by decide) (by decide) W)
  rw [show sgnV 3 (-1) 0 = 0 from rfl] at CS0
  rw [sgn312] at CS
  go_enter Try.func5, Try.ntmps5
  go_wp2_with fail
  refine (eSk_any (v := [0, 0]) (n := 2) (lit_at [0, 0] (Blk.new w _ _) (by simp)) rfl (by omega) (by omega) (by simp [I32L]) 5 70 70 (by decide)).mono ?_
  rintro e w1 ⟨s, v, hs, rfl, A, n, c, rfl, k1, k2, k3, k4, k5⟩
  obtain rfl : s = w70 := hs.one w70_is
  obtain rfl : n = 2 := k1.symm
  have HB := hide (Below.step (below1 w _) k5)
  have CC := hide (eCountW_any (k4.rd (B := w1.heap.size) fun d hd => hd.2) rfl k2 (w70_is.c.u))
  rw [w70_list] at CC
  clear k4 k5 hs
  go_wp2_with fail
  refine (CS.out _).mono ?_
  rintro e _ ⟨rfl, rfl⟩
  go_wp2_with fail
  refine CC.out.mono ?_
  rintro e _ ⟨rfl, rfl⟩
  clear CC CS
  go_wp2_with fail
  refine (CS0.out _).mono ?_
  rintro e _ ⟨rfl, rfl⟩
  clear CS0
  go_wp2_with fail
  refine (l_ap _).mono ?_
  rintro e w2 ⟨rfl, hb⟩
  have HB := hide (Below.step HB.out hb)
  clear hb
  go_wp2_with fail
  refine (l_near3 _).mono ?_
  rintro e w3 ⟨A3, c3, rfl, hc3, hm3, h3, hb⟩
  have HB := hide (Below.step HB.out hb)
  have H3 := hide h3
  clear hb h3
  go_wp2_with fail
  refine (l_ints (l := [1, 2]) H3.out hc3 hm3 (by decide)).mono ?_
  rintro e w4 ⟨rfl, hb⟩
  have HB := hide (Below.step HB.out hb)
  clear hb H3
  go_wp2_with fail
  refine (l_near0 _).mono ?_
  rintro e w5 ⟨A5, c5, rfl, hb⟩
  have HB := hide (Below.step HB.out hb)
  clear hb
  go_wp2_with fail
  refine (l_of0 _).mono ?_
  rintro e w6 ⟨A6, c6, rfl, hb⟩
  have HB := hide (Below.step HB.out hb)
  clear hb
  go_wp2_with fail
  go_ret
  exact ⟨rfl, HB.out⟩
end Go.Proofs.Ytlnbeeflifmnjac
