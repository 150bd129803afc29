/-
  The law's own probes (lives). No condition.
-/
import Derived.Test.YtclpmpikeadnpaaExaD
namespace Go.Proofs.Ytclpmpikeadnpaa
open Go.RowKit

section
variable (g a : Nat) (w : World) (hx : Rd SItem w w.heap.size (some ⟨g, 0, none⟩) lvI) (hy : Rd (Sh.int .i32) w w.heap.size (some ⟨a, 0, none⟩) [0])
include hx hy
theorem live_search (mask k : Int) (h : List Hit) (r : List Hit) (hh : hitsM [0] mask lvI = h) (hr : h.take (lstN k h.length) = r) (n : Nat) (hn : r.length = n) :
    Calls Try.prog 8 #[.slice (some ⟨g, 0, none⟩) 3 3, .slice (some ⟨a, 0, none⟩) 1 1, .int .u64 mask, .int .i64 k] w fun e w' => ∃ A c, e = .returned (.slice A n c) ∧ n ≤ c ∧ c ≤ 9223372036854775807 ∧ Rd SH w' w'.heap.size A r ∧ Below w.heap.size w w' :=
  (search_any _ _ 3 3 1 1 lvI [0] mask k w hx rfl lvI_I (by omega) (by omega) hy rfl lvQ_I (by omega) (by omega) (by omega)).mono fun e w' ⟨v, he, hN⟩ => by
    rw [hh, hr] at hN
    obtain ⟨A, c, hv, h1, h2, h3, h4⟩ := hN.at_
    rw [hn] at hv h1
    exact ⟨A, c, by rw [he, hv], h1, h2, h3, h4⟩
theorem live_within : Calls Try.prog 10 #[.slice (some ⟨g, 0, none⟩) 3 3, .slice (some ⟨a, 0, none⟩) 1 1, .int .u64 0, .int .u64 4] w fun e w' => ∃ A c, e = .returned (.slice A 2 c) ∧ 2 ≤ c ∧ c ≤ 9223372036854775807 ∧ Rd SH w' w'.heap.size A [(1, 2), (4, 3)] ∧ Below w.heap.size w w' :=
  (within_any _ _ 3 3 1 1 lvI [0] 0 4 w hx rfl lvI_I (by omega) (by omega) hy rfl lvQ_I (by omega) (by omega) (by omega)).mono fun e w' ⟨v, he, hN⟩ => by
    rw [lv_h0, show nearM 4 [(1, 2), (4, 3), (9, 1)] = [(1, 2), (4, 3)] by decide] at hN
    obtain ⟨A, c, hv, h1, h2, h3, h4⟩ := hN.at_
    exact ⟨A, c, by rw [he, hv]; rfl, h1, h2, h3, h4⟩
theorem live_place : Calls Try.prog 12 #[.slice (some ⟨g, 0, none⟩) 3 3, .slice (some ⟨a, 0, none⟩) 1 1, .int .u64 0, .agg #[.int .u64 4, .int .u64 3]] w fun e w' => e = .returned (.int .i64 1) ∧ Below w.heap.size w w' :=
  (place13_any _ _ 3 3 1 1 lvI [0] 0 4 3 w hx rfl lvI_I (by omega) (by omega) hy rfl lvQ_I (by omega) (by omega) (by omega)).mono fun e w' ⟨he, hb⟩ => by
    rw [lv_h0, show placeM (4, 3) [(1, 2), (4, 3), (9, 1)] = 1 by decide] at he
    exact ⟨he, hb⟩
end
theorem live_sameH (A : Option Addr) (c g : Nat) (w : World) (n : Nat) (l : List Hit) (cs : Array Value) (hx : Rd SH w w.heap.size A l) (hn : l.length = n) (hc : n ≤ c) (hm : c ≤ 9223372036854775807) (h6 : n ≤ 1000) (hg : Blk w g 26 cs) (he : cs.toList = fcs encH l) :
    Calls Try.prog 7 #[.slice A n c, .slice (some ⟨g, 0, none⟩) n n] w fun e w' => e = .returned (.bool true) ∧ Below w.heap.size w w' :=
  (sameHits_any A (some ⟨g, 0, none⟩) n c n n l l w hx hn hc hm (flatH.blk hg he) hn (Nat.le_refl _) (by omega)).mono fun _ _ ⟨h, hd⟩ => ⟨by rw [h]; simp, hd.below⟩
set_option maxHeartbeats 4000000 in
theorem lives_any (w : World) : Calls Try.prog 6 #[] w fun e w' => e = .returned (.bool true) ∧ Below w.heap.size w w' := by
  have HN0 : Hid (Blk (((((w.alloc (.cells #[.int .i32 3] 21)).alloc (.cells #[.int .i32 1] 21)).alloc (.cells #[.int .i32 (-2)] 21)).alloc (.cells #[.int .u64 1, .slice (some ⟨w.heap.size, 0, none⟩) 1 1, .int .u64 1, .int .u64 2, .slice (some ⟨w.heap.size + 1, 0, none⟩) 1 1, .int .u64 3, .int .u64 3, .slice (some ⟨w.heap.size + 1 + 1, 0, none⟩) 1 1, .int .u64 2] 36)).alloc (.cells #[.int .i32 0] 21)) (w.heap.size) 21 #[.int .i32 3]) := hide (((((Blk.new_at (w := w) (g := w.heap.size) (by simp) 21 #[.int .i32 3]).alloc _).alloc _).alloc _).alloc _)
  have HN1 : Hid (Blk (((((w.alloc (.cells #[.int .i32 3] 21)).alloc (.cells #[.int .i32 1] 21)).alloc (.cells #[.int .i32 (-2)] 21)).alloc (.cells #[.int .u64 1, .slice (some ⟨w.heap.size, 0, none⟩) 1 1, .int .u64 1, .int .u64 2, .slice (some ⟨w.heap.size + 1, 0, none⟩) 1 1, .int .u64 3, .int .u64 3, .slice (some ⟨w.heap.size + 1 + 1, 0, none⟩) 1 1, .int .u64 2] 36)).alloc (.cells #[.int .i32 0] 21)) (w.heap.size + 1) 21 #[.int .i32 1]) := hide ((((Blk.new_at (w := (w.alloc (.cells #[.int .i32 3] 21))) (g := w.heap.size + 1) (by simp) 21 #[.int .i32 1]).alloc _).alloc _).alloc _)
  have HN2 : Hid (Blk (((((w.alloc (.cells #[.int .i32 3] 21)).alloc (.cells #[.int .i32 1] 21)).alloc (.cells #[.int .i32 (-2)] 21)).alloc (.cells #[.int .u64 1, .slice (some ⟨w.heap.size, 0, none⟩) 1 1, .int .u64 1, .int .u64 2, .slice (some ⟨w.heap.size + 1, 0, none⟩) 1 1, .int .u64 3, .int .u64 3, .slice (some ⟨w.heap.size + 1 + 1, 0, none⟩) 1 1, .int .u64 2] 36)).alloc (.cells #[.int .i32 0] 21)) (w.heap.size + 1 + 1) 21 #[.int .i32 (-2)]) := hide (((Blk.new_at (w := ((w.alloc (.cells #[.int .i32 3] 21)).alloc (.cells #[.int .i32 1] 21))) (g := w.heap.size + 1 + 1) (by simp) 21 #[.int .i32 (-2)]).alloc _).alloc _)
  have HN3 : Hid (Blk (((((w.alloc (.cells #[.int .i32 3] 21)).alloc (.cells #[.int .i32 1] 21)).alloc (.cells #[.int .i32 (-2)] 21)).alloc (.cells #[.int .u64 1, .slice (some ⟨w.heap.size, 0, none⟩) 1 1, .int .u64 1, .int .u64 2, .slice (some ⟨w.heap.size + 1, 0, none⟩) 1 1, .int .u64 3, .int .u64 3, .slice (some ⟨w.heap.size + 1 + 1, 0, none⟩) 1 1, .int .u64 2] 36)).alloc (.cells #[.int .i32 0] 21)) (w.heap.size + 1 + 1 + 1) 36 #[.int .u64 1, .slice (some ⟨w.heap.size, 0, none⟩) 1 1, .int .u64 1, .int .u64 2, .slice (some ⟨w.heap.size + 1, 0, none⟩) 1 1, .int .u64 3, .int .u64 3, .slice (some ⟨w.heap.size + 1 + 1, 0, none⟩) 1 1, .int .u64 2]) := hide ((Blk.new_at (w := (((w.alloc (.cells #[.int .i32 3] 21)).alloc (.cells #[.int .i32 1] 21)).alloc (.cells #[.int .i32 (-2)] 21))) (g := w.heap.size + 1 + 1 + 1) (by simp) 36 #[.int .u64 1, .slice (some ⟨w.heap.size, 0, none⟩) 1 1, .int .u64 1, .int .u64 2, .slice (some ⟨w.heap.size + 1, 0, none⟩) 1 1, .int .u64 3, .int .u64 3, .slice (some ⟨w.heap.size + 1 + 1, 0, none⟩) 1 1, .int .u64 2]).alloc _)
  have HN4 : Hid (Blk (((((w.alloc (.cells #[.int .i32 3] 21)).alloc (.cells #[.int .i32 1] 21)).alloc (.cells #[.int .i32 (-2)] 21)).alloc (.cells #[.int .u64 1, .slice (some ⟨w.heap.size, 0, none⟩) 1 1, .int .u64 1, .int .u64 2, .slice (some ⟨w.heap.size + 1, 0, none⟩) 1 1, .int .u64 3, .int .u64 3, .slice (some ⟨w.heap.size + 1 + 1, 0, none⟩) 1 1, .int .u64 2] 36)).alloc (.cells #[.int .i32 0] 21)) (w.heap.size + 1 + 1 + 1 + 1) 21 #[.int .i32 0]) := hide (Blk.new_at (w := ((((w.alloc (.cells #[.int .i32 3] 21)).alloc (.cells #[.int .i32 1] 21)).alloc (.cells #[.int .i32 (-2)] 21)).alloc (.cells #[.int .u64 1, .slice (some ⟨w.heap.size, 0, none⟩) 1 1, .int .u64 1, .int .u64 2, .slice (some ⟨w.heap.size + 1, 0, none⟩) 1 1, .int .u64 3, .int .u64 3, .slice (some ⟨w.heap.size + 1 + 1, 0, none⟩) 1 1, .int .u64 2] 36))) (g := w.heap.size + 1 + 1 + 1 + 1) (by simp) 21 #[.int .i32 0])
  have HB := hide ((((((Below.refl w.heap.size w).alloc (by first | exact Nat.le_refl _ | (simp; done) | (simp; omega)) (.cells #[.int .i32 3] 21)).alloc (by first | exact Nat.le_refl _ | (simp; done) | (simp; omega)) (.cells #[.int .i32 1] 21)).alloc (by first | exact Nat.le_refl _ | (simp; done) | (simp; omega)) (.cells #[.int .i32 (-2)] 21)).alloc (by first | exact Nat.le_refl _ | (simp; done) | (simp; omega)) (.cells #[.int .u64 1, .slice (some ⟨w.heap.size, 0, none⟩) 1 1, .int .u64 1, .int .u64 2, .slice (some ⟨w.heap.size + 1, 0, none⟩) 1 1, .int .u64 3, .int .u64 3, .slice (some ⟨w.heap.size + 1 + 1, 0, none⟩) 1 1, .int .u64 2] 36)).alloc (by first | exact Nat.le_refl _ | (simp; done) | (simp; omega)) (.cells #[.int .i32 0] 21))
  go_enter Try.func6, Try.ntmps6
  go_upto_region 3 with fail
  generalize (((((w.alloc (.cells #[.int .i32 3] 21)).alloc (.cells #[.int .i32 1] 21)).alloc (.cells #[.int .i32 (-2)] 21)).alloc (.cells #[.int .u64 1, .slice (some ⟨w.heap.size, 0, none⟩) 1 1, .int .u64 1, .int .u64 2, .slice (some ⟨w.heap.size + 1, 0, none⟩) 1 1, .int .u64 3, .int .u64 3, .slice (some ⟨w.heap.size + 1 + 1, 0, none⟩) 1 1, .int .u64 2] 36)).alloc (.cells #[.int .i32 0] 21)) = w1 at *
  have HL := hide (lit_items w1 (w.heap.size + 1 + 1 + 1) w.heap.size (w.heap.size + 1) (w.heap.size + 1 + 1) HN3.out HN0.out HN1.out HN2.out)
  have HQ := hide (show Rd (Sh.int .i32) w1 w1.heap.size (some ⟨w.heap.size + 1 + 1 + 1 + 1, 0, none⟩) [0] from (flatInt .i32).blk HN4.out rfl)
  clear HN0 HN1 HN2 HN3 HN4
  generalize w.heap.size + 1 + 1 + 1 + 1 = gq at *
  generalize w.heap.size + 1 + 1 + 1 = gi at *
  go_wp2_with fail
  refine (live_search gi gq w1 HL.out HQ.out 0 2 _ [(1, 2), (4, 3)] lv_h0 (by decide) 2 rfl).mono ?_
  rintro e w2 ⟨A1, cA1, rfl, h1A1, h2A1, hr, hb⟩
  have HR := hide hr
  clear hr
  replace HL := hide (HL.out.step hb)
  replace HQ := hide (HQ.out.step hb)
  replace HB := hide (Below.step HB.out hb)
  clear hb
  have HN := hide (Blk.new w2 26 #[.int .u64 1, .int .u64 2, .int .u64 4, .int .u64 3])
  have hb := below1 w2 (.cells #[.int .u64 1, .int .u64 2, .int .u64 4, .int .u64 3] 26)
  replace HR := hide (HR.out.step hb)
  replace HL := hide (HL.out.step hb)
  replace HQ := hide (HQ.out.step hb)
  replace HB := hide (Below.step HB.out hb)
  clear hb
  go_wp2_with fail
  generalize w2.alloc (.cells #[.int .u64 1, .int .u64 2, .int .u64 4, .int .u64 3] 26) = w3 at *
  generalize w2.heap.size = gw3 at *
  refine (live_sameH A1 cA1 gw3 w3 2 [(1, 2), (4, 3)] _ HR.out rfl h1A1 h2A1 (by omega) HN.out rfl).mono ?_
  rintro e w4 ⟨rfl, hb⟩
  replace HL := hide (HL.out.step hb)
  replace HQ := hide (HQ.out.step hb)
  replace HB := hide (Below.step HB.out hb)
  clear HR HN
  clear hb
  go_wp2_with fail
  refine (live_search gi gq w4 HL.out HQ.out 1 9 _ [(1, 2), (9, 1)] lv_h1 (by decide) 2 rfl).mono ?_
  rintro e w5 ⟨A2, cA2, rfl, h1A2, h2A2, hr, hb⟩
  have HR := hide hr
  clear hr
  replace HL := hide (HL.out.step hb)
  replace HQ := hide (HQ.out.step hb)
  replace HB := hide (Below.step HB.out hb)
  clear hb
  have HN := hide (Blk.new w5 26 #[.int .u64 1, .int .u64 2, .int .u64 9, .int .u64 1])
  have hb := below1 w5 (.cells #[.int .u64 1, .int .u64 2, .int .u64 9, .int .u64 1] 26)
  replace HR := hide (HR.out.step hb)
  replace HL := hide (HL.out.step hb)
  replace HQ := hide (HQ.out.step hb)
  replace HB := hide (Below.step HB.out hb)
  clear hb
  go_wp2_with fail
  generalize w5.alloc (.cells #[.int .u64 1, .int .u64 2, .int .u64 9, .int .u64 1] 26) = w6 at *
  generalize w5.heap.size = gw6 at *
  refine (live_sameH A2 cA2 gw6 w6 2 [(1, 2), (9, 1)] _ HR.out rfl h1A2 h2A2 (by omega) HN.out rfl).mono ?_
  rintro e w7 ⟨rfl, hb⟩
  replace HL := hide (HL.out.step hb)
  replace HQ := hide (HQ.out.step hb)
  replace HB := hide (Below.step HB.out hb)
  clear HR HN
  clear hb
  go_wp2_with fail
  refine (live_search gi gq w7 HL.out HQ.out 0 (-1) _ [] lv_h0 (by decide) 0 rfl).mono ?_
  rintro e w8 ⟨A3, cA3, rfl, h1A3, h2A3, hr, hb⟩
  have HR := hide hr
  clear hr
  replace HL := hide (HL.out.step hb)
  replace HQ := hide (HQ.out.step hb)
  replace HB := hide (Below.step HB.out hb)
  clear hb
  clear HR
  go_wp2_with fail
  refine (live_within gi gq w8 HL.out HQ.out).mono ?_
  rintro e w9 ⟨A4, cA4, rfl, h1A4, h2A4, hr, hb⟩
  have HR := hide hr
  clear hr
  replace HL := hide (HL.out.step hb)
  replace HQ := hide (HQ.out.step hb)
  replace HB := hide (Below.step HB.out hb)
  clear hb
  have HN := hide (Blk.new w9 26 #[.int .u64 1, .int .u64 2, .int .u64 4, .int .u64 3])
  have hb := below1 w9 (.cells #[.int .u64 1, .int .u64 2, .int .u64 4, .int .u64 3] 26)
  replace HR := hide (HR.out.step hb)
  replace HL := hide (HL.out.step hb)
  replace HQ := hide (HQ.out.step hb)
  replace HB := hide (Below.step HB.out hb)
  clear hb
  go_wp2_with fail
  generalize w9.alloc (.cells #[.int .u64 1, .int .u64 2, .int .u64 4, .int .u64 3] 26) = w10 at *
  generalize w9.heap.size = gw10 at *
  refine (live_sameH A4 cA4 gw10 w10 2 [(1, 2), (4, 3)] _ HR.out rfl h1A4 h2A4 (by omega) HN.out rfl).mono ?_
  rintro e w11 ⟨rfl, hb⟩
  replace HL := hide (HL.out.step hb)
  replace HQ := hide (HQ.out.step hb)
  replace HB := hide (Below.step HB.out hb)
  clear HR HN
  clear hb
  go_wp2_with fail
  refine (live_place gi gq w11 HL.out HQ.out).mono ?_
  rintro e w12 ⟨rfl, hb⟩
  replace HL := hide (HL.out.step hb)
  replace HQ := hide (HQ.out.step hb)
  replace HB := hide (Below.step HB.out hb)
  clear hb
  go_wp2
  go_ret
  exact ⟨rfl, HB.out⟩
end Go.Proofs.Ytclpmpikeadnpaa
