/-
  Equality of items, calls, ends and operations, of equal ones. Conditions: the vectors read as the same list.
-/
import Derived.Test.YtojanklgjdjniabErG
namespace Go.Proofs.Ytojanklgjdjniab
open Go.RowKit

theorem sameNil (w : World) : Calls Try.prog 23 #[.slice none 0 0, .slice none 0 0] w fun e w' => e = .returned (.bool true) ∧ Drew w w' :=
  refSame_any none none 0 0 0 0 [] [] w Rd.nil rfl (by omega) (by omega) Rd.nil rfl (by omega) (by omega)
theorem sameIntsNil (w : World) : Calls Try.prog 18 #[.slice none 0 0, .slice none 0 0] w fun e w' => e = .returned (.bool true) ∧ Drew w w' :=
  sameInts_any none none 0 0 0 0 [] [] w Rd.nil rfl (by omega) (by omega) Rd.nil rfl (by omega) (by omega)
theorem sameHitsNil (w : World) : Calls Try.prog 25 #[.slice none 0 0, .slice none 0 0] w fun e w' => e = .returned (.bool true) ∧ Drew w w' := by
  go_enter Try.func25, Try.ntmps25
  go_wp2
  refine wp_loop_rounds 1 ?_
  rw [rounds_succ]
  go_wp2
  go_ret
  exact ⟨rfl, Drew.refl _⟩
set_option maxHeartbeats 4000000 in
theorem sameItem_any (id : Int) (A B : Option Addr) (n c m d : Nat) (tg : Int) (xs : List Int) (w : World) (hx : I32s w w.heap.size A xs) (hn : xs.length = n) (hc : n ≤ c) (hm : c ≤ 9223372036854775807)
    (hy : I32s w w.heap.size B xs) (hn' : xs.length = m) (hd : m ≤ d) (hm' : d ≤ 9223372036854775807) : Calls Try.prog 19 #[.agg #[.int .u64 id, .slice A n c, .int .u64 tg], .agg #[.int .u64 id, .slice B m d, .int .u64 tg]] w fun e w' => e = .returned (.bool true) ∧ Below w.heap.size w w' := by
  have HA0 := hide ((Blk.new w 25 #[.int .u64 id, .slice A n c, .int .u64 tg]).alloc (.cells #[.int .u64 id, .slice B m d, .int .u64 tg] 25))
  have HC0 := hide (Blk.new_at (w := w.alloc (.cells #[.int .u64 id, .slice A n c, .int .u64 tg] 25)) (g := w.heap.size + 1) (by simp) 25 #[.int .u64 id, .slice B m d, .int .u64 tg])
  have HB0 := hide (below2 w (.cells #[.int .u64 id, .slice A n c, .int .u64 tg] 25) (.cells #[.int .u64 id, .slice B m d, .int .u64 tg] 25))
  have F := hide (fun (W : World) (h : Rd (Sh.int .i32) W W.heap.size A xs) (h' : Rd (Sh.int .i32) W W.heap.size B xs) => refSame_any A B n c m d xs xs W h hn hc hm h' hn' hd hm')
  rw [decide_eq_true rfl] at F
  have HX := hide hx
  have HY := hide hy
  clear hx hy hn hn'
  go_enter Try.func19, Try.ntmps19
  go_upto_region 1 with fail
  generalize (w.alloc (.cells #[.int .u64 id, .slice A n c, .int .u64 tg] 25)).alloc (.cells #[.int .u64 id, .slice B m d, .int .u64 tg] 25) = w0 at *
  have a0 : w0.cell? ⟨w.heap.size, 0, none⟩ = some (.int .u64 id) := HA0.out.cell 0
  have a1 : w0.cell? ⟨w.heap.size, 1, none⟩ = some (.slice A n c) := HA0.out.cell 1
  have a2 : w0.cell? ⟨w.heap.size, 2, none⟩ = some (.int .u64 tg) := HA0.out.cell 2
  have b0 : w0.cell? ⟨(w.heap.size + 1), 0, none⟩ = some (.int .u64 id) := HC0.out.cell 0
  have b1 : w0.cell? ⟨(w.heap.size + 1), 1, none⟩ = some (.slice B m d) := HC0.out.cell 1
  have b2 : w0.cell? ⟨(w.heap.size + 1), 2, none⟩ = some (.int .u64 tg) := HC0.out.cell 2
  have hx' := hide (Rd.at_world HX.out HB0.out)
  have hy' := hide (Rd.at_world HY.out HB0.out)
  go_wp2_with (go_at_call 23; refine (F.out _ hx'.out hy'.out).mono ?_; rintro e w1 ⟨rfl, hb⟩; replace hb := Drew.below hb; have HA1 := hide (HA0.out.below hb HA0.out.lt); have HC1 := hide (HC0.out.below hb HC0.out.lt); have HB1 := hide (HB0.out.trans (hb.mono HB0.out.size)); clear hb; clear a0 a1 a2 b0 b1 b2)
  go_ret
  exact ⟨rfl, HB1.out⟩
theorem sameItemZ (w : World) : Calls Try.prog 19 #[.agg #[.int .u64 0, .slice none 0 0, .int .u64 0], .agg #[.int .u64 0, .slice none 0 0, .int .u64 0]] w fun e w' => e = .returned (.bool true) ∧ Below w.heap.size w w' :=
  sameItem_any 0 none none 0 0 0 0 0 [] w Rd.nil rfl (by omega) (by omega) Rd.nil rfl (by omega) (by omega)
set_option maxHeartbeats 4000000 in
theorem sameCall_any (k id : Int) (A B : Option Addr) (n c m d : Nat) (tg kk ef dr : Int) (xs : List Int) (w : World) (hx : I32s w w.heap.size A xs) (hn : xs.length = n) (hc : n ≤ c) (hm : c ≤ 9223372036854775807)
    (hy : I32s w w.heap.size B xs) (hn' : xs.length = m) (hd : m ≤ d) (hm' : d ≤ 9223372036854775807) : Calls Try.prog 24 #[.agg (callC k id A n c tg kk ef dr), .agg (callC k id B m d tg kk ef dr)] w fun e w' => e = .returned (.bool true) ∧ Below w.heap.size w w' := by
  have HA0 := hide ((Blk.new w 27 #[.int .i64 k, .int .u64 id, .slice A n c, .int .u64 tg, .int .i64 kk, .int .i64 ef, .int .u64 dr]).alloc (.cells #[.int .i64 k, .int .u64 id, .slice B m d, .int .u64 tg, .int .i64 kk, .int .i64 ef, .int .u64 dr] 27))
  have HC0 := hide (Blk.new_at (w := w.alloc (.cells #[.int .i64 k, .int .u64 id, .slice A n c, .int .u64 tg, .int .i64 kk, .int .i64 ef, .int .u64 dr] 27)) (g := w.heap.size + 1) (by simp) 27 #[.int .i64 k, .int .u64 id, .slice B m d, .int .u64 tg, .int .i64 kk, .int .i64 ef, .int .u64 dr])
  have HB0 := hide (below2 w (.cells #[.int .i64 k, .int .u64 id, .slice A n c, .int .u64 tg, .int .i64 kk, .int .i64 ef, .int .u64 dr] 27) (.cells #[.int .i64 k, .int .u64 id, .slice B m d, .int .u64 tg, .int .i64 kk, .int .i64 ef, .int .u64 dr] 27))
  have F := hide (fun (W : World) (h : Rd (Sh.int .i32) W W.heap.size A xs) (h' : Rd (Sh.int .i32) W W.heap.size B xs) => sameItem_any id A B n c m d tg xs W h hn hc hm h' hn' hd hm')
  have HX := hide hx
  have HY := hide hy
  clear hx hy hn hn'
  unfold callC
  go_enter Try.func24, Try.ntmps24
  go_upto_region 1 with fail
  generalize (w.alloc (.cells #[.int .i64 k, .int .u64 id, .slice A n c, .int .u64 tg, .int .i64 kk, .int .i64 ef, .int .u64 dr] 27)).alloc (.cells #[.int .i64 k, .int .u64 id, .slice B m d, .int .u64 tg, .int .i64 kk, .int .i64 ef, .int .u64 dr] 27) = w0 at *
  have a0 : w0.cell? ⟨w.heap.size, 0, none⟩ = some (.int .i64 k) := HA0.out.cell 0
  have a1 : w0.cell? ⟨w.heap.size, 1, none⟩ = some (.int .u64 id) := HA0.out.cell 1
  have a2 : w0.cell? ⟨w.heap.size, 2, none⟩ = some (.slice A n c) := HA0.out.cell 2
  have a3 : w0.cell? ⟨w.heap.size, 3, none⟩ = some (.int .u64 tg) := HA0.out.cell 3
  have b0 : w0.cell? ⟨(w.heap.size + 1), 0, none⟩ = some (.int .i64 k) := HC0.out.cell 0
  have b1 : w0.cell? ⟨(w.heap.size + 1), 1, none⟩ = some (.int .u64 id) := HC0.out.cell 1
  have b2 : w0.cell? ⟨(w.heap.size + 1), 2, none⟩ = some (.slice B m d) := HC0.out.cell 2
  have b3 : w0.cell? ⟨(w.heap.size + 1), 3, none⟩ = some (.int .u64 tg) := HC0.out.cell 3
  have hx' := hide (Rd.at_world HX.out HB0.out)
  have hy' := hide (Rd.at_world HY.out HB0.out)
  go_wp2_with (go_at_call 19; refine (F.out _ hx'.out hy'.out).mono ?_; rintro e w1 ⟨rfl, hb⟩; have HA1 := hide (HA0.out.below hb HA0.out.lt); have HC1 := hide (HC0.out.below hb HC0.out.lt); have HB1 := hide (HB0.out.trans (hb.mono HB0.out.size)); clear hb; clear a0 a1 a2 a3 b0 b1 b2 b3; have a4 : w1.cell? ⟨w.heap.size, 4, none⟩ = some (.int .i64 kk) := HA1.out.cell 4; have a5 : w1.cell? ⟨w.heap.size, 5, none⟩ = some (.int .i64 ef) := HA1.out.cell 5; have a6 : w1.cell? ⟨w.heap.size, 6, none⟩ = some (.int .u64 dr) := HA1.out.cell 6; have b4 : w1.cell? ⟨(w.heap.size + 1), 4, none⟩ = some (.int .i64 kk) := HC1.out.cell 4; have b5 : w1.cell? ⟨(w.heap.size + 1), 5, none⟩ = some (.int .i64 ef) := HC1.out.cell 5; have b6 : w1.cell? ⟨(w.heap.size + 1), 6, none⟩ = some (.int .u64 dr) := HC1.out.cell 6)
  go_ret
  exact ⟨rfl, HB1.out⟩
set_option maxHeartbeats 4000000 in
theorem sameEnd_any (k id : Int) (A B : Option Addr) (n c m d : Nat) (tg kk ef dr err : Int) (xs : List Int) (w : World) (hx : I32s w w.heap.size A xs) (hn : xs.length = n) (hc : n ≤ c) (hm : c ≤ 9223372036854775807)
    (hy : I32s w w.heap.size B xs) (hn' : xs.length = m) (hd : m ≤ d) (hm' : d ≤ 9223372036854775807) : Calls Try.prog 20 #[.agg (toldC k id A n c tg kk ef dr err), .agg (toldC k id B m d tg kk ef dr err)] w fun e w' => e = .returned (.bool true) ∧ Below w.heap.size w w' := by
  have HA0 := hide ((Blk.new w 37 #[.int .i64 0, .int .i64 k, .int .u64 id, .slice A n c, .int .u64 tg, .int .i64 kk, .int .i64 ef, .int .u64 dr, .int .i64 err, .int .u64 0, .slice none 0 0, .int .u64 0, .slice none 0 0, .int .i64 0, .int .i64 0, .slice none 0 0, .int .i64 0]).alloc (.cells #[.int .i64 0, .int .i64 k, .int .u64 id, .slice B m d, .int .u64 tg, .int .i64 kk, .int .i64 ef, .int .u64 dr, .int .i64 err, .int .u64 0, .slice none 0 0, .int .u64 0, .slice none 0 0, .int .i64 0, .int .i64 0, .slice none 0 0, .int .i64 0] 37))
  have HC0 := hide (Blk.new_at (w := w.alloc (.cells #[.int .i64 0, .int .i64 k, .int .u64 id, .slice A n c, .int .u64 tg, .int .i64 kk, .int .i64 ef, .int .u64 dr, .int .i64 err, .int .u64 0, .slice none 0 0, .int .u64 0, .slice none 0 0, .int .i64 0, .int .i64 0, .slice none 0 0, .int .i64 0] 37)) (g := w.heap.size + 1) (by simp) 37 #[.int .i64 0, .int .i64 k, .int .u64 id, .slice B m d, .int .u64 tg, .int .i64 kk, .int .i64 ef, .int .u64 dr, .int .i64 err, .int .u64 0, .slice none 0 0, .int .u64 0, .slice none 0 0, .int .i64 0, .int .i64 0, .slice none 0 0, .int .i64 0])
  have HB0 := hide (below2 w (.cells #[.int .i64 0, .int .i64 k, .int .u64 id, .slice A n c, .int .u64 tg, .int .i64 kk, .int .i64 ef, .int .u64 dr, .int .i64 err, .int .u64 0, .slice none 0 0, .int .u64 0, .slice none 0 0, .int .i64 0, .int .i64 0, .slice none 0 0, .int .i64 0] 37) (.cells #[.int .i64 0, .int .i64 k, .int .u64 id, .slice B m d, .int .u64 tg, .int .i64 kk, .int .i64 ef, .int .u64 dr, .int .i64 err, .int .u64 0, .slice none 0 0, .int .u64 0, .slice none 0 0, .int .i64 0, .int .i64 0, .slice none 0 0, .int .i64 0] 37))
  have F := hide (fun (W : World) (h : Rd (Sh.int .i32) W W.heap.size A xs) (h' : Rd (Sh.int .i32) W W.heap.size B xs) => sameCall_any k id A B n c m d tg kk ef dr xs W h hn hc hm h' hn' hd hm')
  unfold callC at F
  have HX := hide hx
  have HY := hide hy
  clear hx hy hn hn'
  unfold toldC
  go_enter Try.func20, Try.ntmps20
  go_upto_region 1 with fail
  generalize (w.alloc (.cells #[.int .i64 0, .int .i64 k, .int .u64 id, .slice A n c, .int .u64 tg, .int .i64 kk, .int .i64 ef, .int .u64 dr, .int .i64 err, .int .u64 0, .slice none 0 0, .int .u64 0, .slice none 0 0, .int .i64 0, .int .i64 0, .slice none 0 0, .int .i64 0] 37)).alloc (.cells #[.int .i64 0, .int .i64 k, .int .u64 id, .slice B m d, .int .u64 tg, .int .i64 kk, .int .i64 ef, .int .u64 dr, .int .i64 err, .int .u64 0, .slice none 0 0, .int .u64 0, .slice none 0 0, .int .i64 0, .int .i64 0, .slice none 0 0, .int .i64 0] 37) = w0 at *
  have a1 : w0.cell? ⟨w.heap.size, 1, none⟩ = some (.int .i64 k) := HA0.out.cell 1
  have a2 : w0.cell? ⟨w.heap.size, 2, none⟩ = some (.int .u64 id) := HA0.out.cell 2
  have a3 : w0.cell? ⟨w.heap.size, 3, none⟩ = some (.slice A n c) := HA0.out.cell 3
  have a4 : w0.cell? ⟨w.heap.size, 4, none⟩ = some (.int .u64 tg) := HA0.out.cell 4
  have a5 : w0.cell? ⟨w.heap.size, 5, none⟩ = some (.int .i64 kk) := HA0.out.cell 5
  have a6 : w0.cell? ⟨w.heap.size, 6, none⟩ = some (.int .i64 ef) := HA0.out.cell 6
  have a7 : w0.cell? ⟨w.heap.size, 7, none⟩ = some (.int .u64 dr) := HA0.out.cell 7
  have b1 : w0.cell? ⟨(w.heap.size + 1), 1, none⟩ = some (.int .i64 k) := HC0.out.cell 1
  have b2 : w0.cell? ⟨(w.heap.size + 1), 2, none⟩ = some (.int .u64 id) := HC0.out.cell 2
  have b3 : w0.cell? ⟨(w.heap.size + 1), 3, none⟩ = some (.slice B m d) := HC0.out.cell 3
  have b4 : w0.cell? ⟨(w.heap.size + 1), 4, none⟩ = some (.int .u64 tg) := HC0.out.cell 4
  have b5 : w0.cell? ⟨(w.heap.size + 1), 5, none⟩ = some (.int .i64 kk) := HC0.out.cell 5
  have b6 : w0.cell? ⟨(w.heap.size + 1), 6, none⟩ = some (.int .i64 ef) := HC0.out.cell 6
  have b7 : w0.cell? ⟨(w.heap.size + 1), 7, none⟩ = some (.int .u64 dr) := HC0.out.cell 7
  have hx' := hide (Rd.at_world HX.out HB0.out)
  have hy' := hide (Rd.at_world HY.out HB0.out)
  go_wp2_with (first
    | (go_at_call 24; refine (F.out _ hx'.out hy'.out).mono ?_; rintro e w1 ⟨rfl, hb⟩; have HA1 := hide (HA0.out.below hb HA0.out.lt); have HC1 := hide (HC0.out.below hb HC0.out.lt); have HB1 := hide (HB0.out.trans (hb.mono HB0.out.size)); clear hb; clear a1 a2 a3 a4 a5 a6 a7 b1 b2 b3 b4 b5 b6 b7; have a8 : w1.cell? ⟨w.heap.size, 8, none⟩ = some (.int .i64 err) := HA1.out.cell 8; have a9 : w1.cell? ⟨w.heap.size, 9, none⟩ = some (.int .u64 0) := HA1.out.cell 9; have a10 : w1.cell? ⟨w.heap.size, 10, none⟩ = some (.slice none 0 0) := HA1.out.cell 10; have a11 : w1.cell? ⟨w.heap.size, 11, none⟩ = some (.int .u64 0) := HA1.out.cell 11; have b8 : w1.cell? ⟨(w.heap.size + 1), 8, none⟩ = some (.int .i64 err) := HC1.out.cell 8; have b9 : w1.cell? ⟨(w.heap.size + 1), 9, none⟩ = some (.int .u64 0) := HC1.out.cell 9; have b10 : w1.cell? ⟨(w.heap.size + 1), 10, none⟩ = some (.slice none 0 0) := HC1.out.cell 10; have b11 : w1.cell? ⟨(w.heap.size + 1), 11, none⟩ = some (.int .u64 0) := HC1.out.cell 11)
    | (go_at_call 19; refine (sameItemZ _).mono ?_; rintro e w2 ⟨rfl, hb⟩; have HA2 := hide (HA1.out.below hb HA1.out.lt); have HC2 := hide (HC1.out.below hb HC1.out.lt); have HB2 := hide (HB1.out.trans (hb.mono HB1.out.size)); clear hb; clear a8 a9 a10 a11 b8 b9 b10 b11; have a12 : w2.cell? ⟨w.heap.size, 12, none⟩ = some (.slice none 0 0) := HA2.out.cell 12; have b12 : w2.cell? ⟨(w.heap.size + 1), 12, none⟩ = some (.slice none 0 0) := HC2.out.cell 12)
    | (go_at_call 25; refine (sameHitsNil _).mono ?_; rintro e w3 ⟨rfl, hb⟩; replace hb := Drew.below hb; have HA3 := hide (HA2.out.below hb HA2.out.lt); have HC3 := hide (HC2.out.below hb HC2.out.lt); have HB3 := hide (HB2.out.trans (hb.mono HB2.out.size)); clear hb; clear a12 b12; have a13 : w3.cell? ⟨w.heap.size, 13, none⟩ = some (.int .i64 0) := HA3.out.cell 13; have b13 : w3.cell? ⟨(w.heap.size + 1), 13, none⟩ = some (.int .i64 0) := HC3.out.cell 13))
  go_ret
  exact ⟨rfl, HB3.out⟩
set_option maxHeartbeats 4000000 in
theorem sameTold_any (k id : Int) (A B : Option Addr) (n c m d : Nat) (tg kk ef dr err : Int) (xs : List Int) (w : World) (hx : I32s w w.heap.size A xs) (hn : xs.length = n) (hc : n ≤ c) (hm : c ≤ 9223372036854775807)
    (hy : I32s w w.heap.size B xs) (hn' : xs.length = m) (hd : m ≤ d) (hm' : d ≤ 9223372036854775807) : Calls Try.prog 12 #[.agg (toldC k id A n c tg kk ef dr err), .agg (toldC k id B m d tg kk ef dr err)] w fun e w' => e = .returned (.bool true) ∧ Below w.heap.size w w' := by
  have HA0 := hide ((Blk.new w 37 #[.int .i64 0, .int .i64 k, .int .u64 id, .slice A n c, .int .u64 tg, .int .i64 kk, .int .i64 ef, .int .u64 dr, .int .i64 err, .int .u64 0, .slice none 0 0, .int .u64 0, .slice none 0 0, .int .i64 0, .int .i64 0, .slice none 0 0, .int .i64 0]).alloc (.cells #[.int .i64 0, .int .i64 k, .int .u64 id, .slice B m d, .int .u64 tg, .int .i64 kk, .int .i64 ef, .int .u64 dr, .int .i64 err, .int .u64 0, .slice none 0 0, .int .u64 0, .slice none 0 0, .int .i64 0, .int .i64 0, .slice none 0 0, .int .i64 0] 37))
  have HC0 := hide (Blk.new_at (w := w.alloc (.cells #[.int .i64 0, .int .i64 k, .int .u64 id, .slice A n c, .int .u64 tg, .int .i64 kk, .int .i64 ef, .int .u64 dr, .int .i64 err, .int .u64 0, .slice none 0 0, .int .u64 0, .slice none 0 0, .int .i64 0, .int .i64 0, .slice none 0 0, .int .i64 0] 37)) (g := w.heap.size + 1) (by simp) 37 #[.int .i64 0, .int .i64 k, .int .u64 id, .slice B m d, .int .u64 tg, .int .i64 kk, .int .i64 ef, .int .u64 dr, .int .i64 err, .int .u64 0, .slice none 0 0, .int .u64 0, .slice none 0 0, .int .i64 0, .int .i64 0, .slice none 0 0, .int .i64 0])
  have HB0 := hide (below2 w (.cells #[.int .i64 0, .int .i64 k, .int .u64 id, .slice A n c, .int .u64 tg, .int .i64 kk, .int .i64 ef, .int .u64 dr, .int .i64 err, .int .u64 0, .slice none 0 0, .int .u64 0, .slice none 0 0, .int .i64 0, .int .i64 0, .slice none 0 0, .int .i64 0] 37) (.cells #[.int .i64 0, .int .i64 k, .int .u64 id, .slice B m d, .int .u64 tg, .int .i64 kk, .int .i64 ef, .int .u64 dr, .int .i64 err, .int .u64 0, .slice none 0 0, .int .u64 0, .slice none 0 0, .int .i64 0, .int .i64 0, .slice none 0 0, .int .i64 0] 37))
  have F := hide (fun (W : World) (h : Rd (Sh.int .i32) W W.heap.size A xs) (h' : Rd (Sh.int .i32) W W.heap.size B xs) => sameEnd_any k id A B n c m d tg kk ef dr err xs W h hn hc hm h' hn' hd hm')
  unfold toldC at F
  have HX := hide hx
  have HY := hide hy
  clear hx hy hn hn'
  unfold toldC
  go_enter Try.func12, Try.ntmps12
  go_upto_region 1 with fail
  generalize (w.alloc (.cells #[.int .i64 0, .int .i64 k, .int .u64 id, .slice A n c, .int .u64 tg, .int .i64 kk, .int .i64 ef, .int .u64 dr, .int .i64 err, .int .u64 0, .slice none 0 0, .int .u64 0, .slice none 0 0, .int .i64 0, .int .i64 0, .slice none 0 0, .int .i64 0] 37)).alloc (.cells #[.int .i64 0, .int .i64 k, .int .u64 id, .slice B m d, .int .u64 tg, .int .i64 kk, .int .i64 ef, .int .u64 dr, .int .i64 err, .int .u64 0, .slice none 0 0, .int .u64 0, .slice none 0 0, .int .i64 0, .int .i64 0, .slice none 0 0, .int .i64 0] 37) = w0 at *
  have a0 : w0.cell? ⟨w.heap.size, 0, none⟩ = some (.int .i64 0) := HA0.out.cell 0
  have a14 : w0.cell? ⟨w.heap.size, 14, none⟩ = some (.int .i64 0) := HA0.out.cell 14
  have a15 : w0.cell? ⟨w.heap.size, 15, none⟩ = some (.slice none 0 0) := HA0.out.cell 15
  have a16 : w0.cell? ⟨w.heap.size, 16, none⟩ = some (.int .i64 0) := HA0.out.cell 16
  have b0 : w0.cell? ⟨(w.heap.size + 1), 0, none⟩ = some (.int .i64 0) := HC0.out.cell 0
  have b14 : w0.cell? ⟨(w.heap.size + 1), 14, none⟩ = some (.int .i64 0) := HC0.out.cell 14
  have b15 : w0.cell? ⟨(w.heap.size + 1), 15, none⟩ = some (.slice none 0 0) := HC0.out.cell 15
  have b16 : w0.cell? ⟨(w.heap.size + 1), 16, none⟩ = some (.int .i64 0) := HC0.out.cell 16
  go_wp2_with (first
    | (go_at_call 18; refine (sameIntsNil _).mono ?_; rintro e w1 ⟨rfl, hb⟩; replace hb := Drew.below hb; have HA1 := hide (HA0.out.below hb HA0.out.lt); have HC1 := hide (HC0.out.below hb HC0.out.lt); have HB1 := hide (HB0.out.trans (hb.mono HB0.out.size)); clear hb; clear a0 a14 a15 a16 b0 b14 b15 b16; have a0 : w1.cell? ⟨w.heap.size, 0, none⟩ = some (.int .i64 0) := HA1.out.cell 0; have a1 : w1.cell? ⟨w.heap.size, 1, none⟩ = some (.int .i64 k) := HA1.out.cell 1; have a2 : w1.cell? ⟨w.heap.size, 2, none⟩ = some (.int .u64 id) := HA1.out.cell 2; have a3 : w1.cell? ⟨w.heap.size, 3, none⟩ = some (.slice A n c) := HA1.out.cell 3; have a4 : w1.cell? ⟨w.heap.size, 4, none⟩ = some (.int .u64 tg) := HA1.out.cell 4; have a5 : w1.cell? ⟨w.heap.size, 5, none⟩ = some (.int .i64 kk) := HA1.out.cell 5; have a6 : w1.cell? ⟨w.heap.size, 6, none⟩ = some (.int .i64 ef) := HA1.out.cell 6; have a7 : w1.cell? ⟨w.heap.size, 7, none⟩ = some (.int .u64 dr) := HA1.out.cell 7; have a8 : w1.cell? ⟨w.heap.size, 8, none⟩ = some (.int .i64 err) := HA1.out.cell 8; have a9 : w1.cell? ⟨w.heap.size, 9, none⟩ = some (.int .u64 0) := HA1.out.cell 9; have a10 : w1.cell? ⟨w.heap.size, 10, none⟩ = some (.slice none 0 0) := HA1.out.cell 10; have a11 : w1.cell? ⟨w.heap.size, 11, none⟩ = some (.int .u64 0) := HA1.out.cell 11; have a12 : w1.cell? ⟨w.heap.size, 12, none⟩ = some (.slice none 0 0) := HA1.out.cell 12; have a13 : w1.cell? ⟨w.heap.size, 13, none⟩ = some (.int .i64 0) := HA1.out.cell 13; have a14 : w1.cell? ⟨w.heap.size, 14, none⟩ = some (.int .i64 0) := HA1.out.cell 14; have a15 : w1.cell? ⟨w.heap.size, 15, none⟩ = some (.slice none 0 0) := HA1.out.cell 15; have a16 : w1.cell? ⟨w.heap.size, 16, none⟩ = some (.int .i64 0) := HA1.out.cell 16; have b0 : w1.cell? ⟨(w.heap.size + 1), 0, none⟩ = some (.int .i64 0) := HC1.out.cell 0; have b1 : w1.cell? ⟨(w.heap.size + 1), 1, none⟩ = some (.int .i64 k) := HC1.out.cell 1; have b2 : w1.cell? ⟨(w.heap.size + 1), 2, none⟩ = some (.int .u64 id) := HC1.out.cell 2; have b3 : w1.cell? ⟨(w.heap.size + 1), 3, none⟩ = some (.slice B m d) := HC1.out.cell 3; have b4 : w1.cell? ⟨(w.heap.size + 1), 4, none⟩ = some (.int .u64 tg) := HC1.out.cell 4; have b5 : w1.cell? ⟨(w.heap.size + 1), 5, none⟩ = some (.int .i64 kk) := HC1.out.cell 5; have b6 : w1.cell? ⟨(w.heap.size + 1), 6, none⟩ = some (.int .i64 ef) := HC1.out.cell 6; have b7 : w1.cell? ⟨(w.heap.size + 1), 7, none⟩ = some (.int .u64 dr) := HC1.out.cell 7; have b8 : w1.cell? ⟨(w.heap.size + 1), 8, none⟩ = some (.int .i64 err) := HC1.out.cell 8; have b9 : w1.cell? ⟨(w.heap.size + 1), 9, none⟩ = some (.int .u64 0) := HC1.out.cell 9; have b10 : w1.cell? ⟨(w.heap.size + 1), 10, none⟩ = some (.slice none 0 0) := HC1.out.cell 10; have b11 : w1.cell? ⟨(w.heap.size + 1), 11, none⟩ = some (.int .u64 0) := HC1.out.cell 11; have b12 : w1.cell? ⟨(w.heap.size + 1), 12, none⟩ = some (.slice none 0 0) := HC1.out.cell 12; have b13 : w1.cell? ⟨(w.heap.size + 1), 13, none⟩ = some (.int .i64 0) := HC1.out.cell 13; have b14 : w1.cell? ⟨(w.heap.size + 1), 14, none⟩ = some (.int .i64 0) := HC1.out.cell 14; have b15 : w1.cell? ⟨(w.heap.size + 1), 15, none⟩ = some (.slice none 0 0) := HC1.out.cell 15; have b16 : w1.cell? ⟨(w.heap.size + 1), 16, none⟩ = some (.int .i64 0) := HC1.out.cell 16; have hx' := hide (Rd.at_world HX.out HB1.out); have hy' := hide (Rd.at_world HY.out HB1.out))
    | (go_at_call 20; refine (F.out _ hx'.out hy'.out).mono ?_; rintro e w2 ⟨rfl, hb⟩; have HA2 := hide (HA1.out.below hb HA1.out.lt); have HC2 := hide (HC1.out.below hb HC1.out.lt); have HB2 := hide (HB1.out.trans (hb.mono HB1.out.size)); clear hb; clear a0 a1 a2 a3 a4 a5 a6 a7 a8 a9 a10 a11 a12 a13 a14 a15 a16 b0 b1 b2 b3 b4 b5 b6 b7 b8 b9 b10 b11 b12 b13 b14 b15 b16))
  go_ret
  exact ⟨rfl, HB2.out⟩
set_option maxHeartbeats 4000000 in
theorem sameOp_any (kind a id : Int) (w : World)  : Calls Try.prog 10 #[.agg (opC kind a id), .agg (opC kind a id)] w fun e w' => e = .returned (.bool true) ∧ Below w.heap.size w w' := by
  have HA0 := hide ((Blk.new w 44 #[.int .i64 kind, .int .i64 a, .int .i64 0, .int .i64 0, .int .i64 0, .int .u64 id, .slice none 0 0, .int .u64 0, .slice none 0 0, .int .u64 0]).alloc (.cells #[.int .i64 kind, .int .i64 a, .int .i64 0, .int .i64 0, .int .i64 0, .int .u64 id, .slice none 0 0, .int .u64 0, .slice none 0 0, .int .u64 0] 44))
  have HC0 := hide (Blk.new_at (w := w.alloc (.cells #[.int .i64 kind, .int .i64 a, .int .i64 0, .int .i64 0, .int .i64 0, .int .u64 id, .slice none 0 0, .int .u64 0, .slice none 0 0, .int .u64 0] 44)) (g := w.heap.size + 1) (by simp) 44 #[.int .i64 kind, .int .i64 a, .int .i64 0, .int .i64 0, .int .i64 0, .int .u64 id, .slice none 0 0, .int .u64 0, .slice none 0 0, .int .u64 0])
  have HB0 := hide (below2 w (.cells #[.int .i64 kind, .int .i64 a, .int .i64 0, .int .i64 0, .int .i64 0, .int .u64 id, .slice none 0 0, .int .u64 0, .slice none 0 0, .int .u64 0] 44) (.cells #[.int .i64 kind, .int .i64 a, .int .i64 0, .int .i64 0, .int .i64 0, .int .u64 id, .slice none 0 0, .int .u64 0, .slice none 0 0, .int .u64 0] 44))
  unfold opC
  go_enter Try.func10, Try.ntmps10
  go_upto_region 1 with fail
  generalize (w.alloc (.cells #[.int .i64 kind, .int .i64 a, .int .i64 0, .int .i64 0, .int .i64 0, .int .u64 id, .slice none 0 0, .int .u64 0, .slice none 0 0, .int .u64 0] 44)).alloc (.cells #[.int .i64 kind, .int .i64 a, .int .i64 0, .int .i64 0, .int .i64 0, .int .u64 id, .slice none 0 0, .int .u64 0, .slice none 0 0, .int .u64 0] 44) = w0 at *
  have a0 : w0.cell? ⟨w.heap.size, 0, none⟩ = some (.int .i64 kind) := HA0.out.cell 0
  have a1 : w0.cell? ⟨w.heap.size, 1, none⟩ = some (.int .i64 a) := HA0.out.cell 1
  have a2 : w0.cell? ⟨w.heap.size, 2, none⟩ = some (.int .i64 0) := HA0.out.cell 2
  have a3 : w0.cell? ⟨w.heap.size, 3, none⟩ = some (.int .i64 0) := HA0.out.cell 3
  have a4 : w0.cell? ⟨w.heap.size, 4, none⟩ = some (.int .i64 0) := HA0.out.cell 4
  have a5 : w0.cell? ⟨w.heap.size, 5, none⟩ = some (.int .u64 id) := HA0.out.cell 5
  have a6 : w0.cell? ⟨w.heap.size, 6, none⟩ = some (.slice none 0 0) := HA0.out.cell 6
  have b0 : w0.cell? ⟨(w.heap.size + 1), 0, none⟩ = some (.int .i64 kind) := HC0.out.cell 0
  have b1 : w0.cell? ⟨(w.heap.size + 1), 1, none⟩ = some (.int .i64 a) := HC0.out.cell 1
  have b2 : w0.cell? ⟨(w.heap.size + 1), 2, none⟩ = some (.int .i64 0) := HC0.out.cell 2
  have b3 : w0.cell? ⟨(w.heap.size + 1), 3, none⟩ = some (.int .i64 0) := HC0.out.cell 3
  have b4 : w0.cell? ⟨(w.heap.size + 1), 4, none⟩ = some (.int .i64 0) := HC0.out.cell 4
  have b5 : w0.cell? ⟨(w.heap.size + 1), 5, none⟩ = some (.int .u64 id) := HC0.out.cell 5
  have b6 : w0.cell? ⟨(w.heap.size + 1), 6, none⟩ = some (.slice none 0 0) := HC0.out.cell 6
  go_wp2_with (first
    | (go_at_call 18; refine (sameIntsNil _).mono ?_; rintro e w1 ⟨rfl, hb⟩; replace hb := Drew.below hb; have HA1 := hide (HA0.out.below hb HA0.out.lt); have HC1 := hide (HC0.out.below hb HC0.out.lt); have HB1 := hide (HB0.out.trans (hb.mono HB0.out.size)); clear hb; clear a0 a1 a2 a3 a4 a5 a6 b0 b1 b2 b3 b4 b5 b6; have a7 : w1.cell? ⟨w.heap.size, 7, none⟩ = some (.int .u64 0) := HA1.out.cell 7; have a8 : w1.cell? ⟨w.heap.size, 8, none⟩ = some (.slice none 0 0) := HA1.out.cell 8; have a9 : w1.cell? ⟨w.heap.size, 9, none⟩ = some (.int .u64 0) := HA1.out.cell 9; have b7 : w1.cell? ⟨(w.heap.size + 1), 7, none⟩ = some (.int .u64 0) := HC1.out.cell 7; have b8 : w1.cell? ⟨(w.heap.size + 1), 8, none⟩ = some (.slice none 0 0) := HC1.out.cell 8; have b9 : w1.cell? ⟨(w.heap.size + 1), 9, none⟩ = some (.int .u64 0) := HC1.out.cell 9)
    | (go_at_call 19; refine (sameItemZ _).mono ?_; rintro e w2 ⟨rfl, hb⟩; have HA2 := hide (HA1.out.below hb HA1.out.lt); have HC2 := hide (HC1.out.below hb HC1.out.lt); have HB2 := hide (HB1.out.trans (hb.mono HB1.out.size)); clear hb; clear a7 a8 a9 b7 b8 b9))
  go_ret
  exact ⟨rfl, HB2.out⟩
end Go.Proofs.Ytojanklgjdjniab
