/-
  The document's task of a delete: New. Conditions: the call's vector reads as a list of int32s.
-/
import Derived.Test.YtojanklgjdjniabErA
namespace Go.Proofs.Ytojanklgjdjniab
open Go.RowKit

theorem refC_one (k id : Int) (A : Option Addr) (n c : Nat) (tg kk ef dr : Int) (dim pc slot marks err : Int) : (refC k id A n c tg kk ef dr dim pc slot marks err).all (·.oneCell') = true := by simp [refC, Value.oneCell']
theorem infoT : (Try.prog.info? 39).map (·.size) = some 28 := by kernel_rfl
theorem refT_cell {fn : Func} {p : Tmp} (h : fn.results = #[.cell p 39]) (tmps : Array Value) (w : World) (g : Nat) (k id : Int) (A : Option Addr) (n c : Nat) (tg kk ef dr : Int) (dim pc slot marks err : Int) (hp : tmps.getD p undef = .pointer (some ⟨g, 0, none⟩)) (hg : Blk w g 39 (refC k id A n c tg kk ef dr dim pc slot marks err)) :
    (results fn tmps).run Try.prog w = .ok (.agg (refC k id A n c tg kk ef dr dim pc slot marks err)) w :=
  results_cell_row h tmps w g 39 _ (0, 0) _ hp hg Try.underlying39 rfl (by kernel_rfl)
set_option maxHeartbeats 2000000 in
theorem refNew_any (k id : Int) (A : Option Addr) (n c : Nat) (tg kk ef dr : Int) (dim : Int) (xs : List Int) (w : World) (hx : I32s w w.heap.size A xs) (hn : xs.length = n) (hc : n ≤ c) (hm : c ≤ 9223372036854775807) (h6 : n ≤ 1000000) :
    Calls Try.prog 7 #[.agg (callC k id A n c tg kk ef dr), .int .i64 dim] w fun e w' => ∃ A' c', e = .returned (.agg (refC k id A' n c' tg kk ef dr dim 0 0 0 0)) ∧ n ≤ c' ∧ c' ≤ 9223372036854775807 ∧ RdR (Sh.int .i32) w' (Btw w.heap.size w'.heap.size) A' xs ∧ Below w.heap.size w w' := by
  have HX := hide hx
  have Hn := hide hn
  clear hx hn
  unfold callC
  go_enter Try.func7, Try.ntmps7
  go_upto_region 1 with fail
  have HN := hide ((Blk.new w 27 #[.int .i64 k, .int .u64 id, .slice A n c, .int .u64 tg, .int .i64 kk, .int .i64 ef, .int .u64 dr]).alloc (.cells #[.int .i64 0, .int .u64 0, .slice none 0 0, .int .u64 0, .int .i64 0, .int .i64 0, .int .u64 0, .int .i64 0, .int .i64 0, .int .i64 0, .int .i64 0, .int .i64 0, .int .i64 0, .int .u64 0, .slice none 0 0, .int .u64 0, .int .i64 0, .int .i64 0, .int .u64 0, .int .i64 0, .int .u64 0, .slice none 0 0, .int .u64 0, .slice none 0 0, .int .i64 0, .int .i64 0, .slice none 0 0, .int .i64 0] 39))
  have HT := hide (Blk.new_at (w := w.alloc (.cells #[.int .i64 k, .int .u64 id, .slice A n c, .int .u64 tg, .int .i64 kk, .int .i64 ef, .int .u64 dr] 27)) (g := w.heap.size + 1) (by simp) 39 #[.int .i64 0, .int .u64 0, .slice none 0 0, .int .u64 0, .int .i64 0, .int .i64 0, .int .u64 0, .int .i64 0, .int .i64 0, .int .i64 0, .int .i64 0, .int .i64 0, .int .i64 0, .int .u64 0, .slice none 0 0, .int .u64 0, .int .i64 0, .int .i64 0, .int .u64 0, .int .i64 0, .int .u64 0, .slice none 0 0, .int .u64 0, .slice none 0 0, .int .i64 0, .int .i64 0, .slice none 0 0, .int .i64 0])
  have HB := hide (below2 w (.cells #[.int .i64 k, .int .u64 id, .slice A n c, .int .u64 tg, .int .i64 kk, .int .i64 ef, .int .u64 dr] 27) (.cells #[.int .i64 0, .int .u64 0, .slice none 0 0, .int .u64 0, .int .i64 0, .int .i64 0, .int .u64 0, .int .i64 0, .int .i64 0, .int .i64 0, .int .i64 0, .int .i64 0, .int .i64 0, .int .u64 0, .slice none 0 0, .int .u64 0, .int .i64 0, .int .i64 0, .int .u64 0, .int .i64 0, .int .u64 0, .slice none 0 0, .int .u64 0, .slice none 0 0, .int .i64 0, .int .i64 0, .slice none 0 0, .int .i64 0] 39))
  have HS := hide (show ((w.alloc (.cells #[.int .i64 k, .int .u64 id, .slice A n c, .int .u64 tg, .int .i64 kk, .int .i64 ef, .int .u64 dr] 27)).alloc (.cells #[.int .i64 0, .int .u64 0, .slice none 0 0, .int .u64 0, .int .i64 0, .int .i64 0, .int .u64 0, .int .i64 0, .int .i64 0, .int .i64 0, .int .i64 0, .int .i64 0, .int .i64 0, .int .u64 0, .slice none 0 0, .int .u64 0, .int .i64 0, .int .i64 0, .int .u64 0, .int .i64 0, .int .u64 0, .slice none 0 0, .int .u64 0, .slice none 0 0, .int .i64 0, .int .i64 0, .slice none 0 0, .int .i64 0] 39)).heap.size = w.heap.size + 1 + 1 by simp)
  generalize (w.alloc (.cells #[.int .i64 k, .int .u64 id, .slice A n c, .int .u64 tg, .int .i64 kk, .int .i64 ef, .int .u64 dr] 27)).alloc (.cells #[.int .i64 0, .int .u64 0, .slice none 0 0, .int .u64 0, .int .i64 0, .int .i64 0, .int .u64 0, .int .i64 0, .int .i64 0, .int .i64 0, .int .i64 0, .int .i64 0, .int .i64 0, .int .u64 0, .slice none 0 0, .int .u64 0, .int .i64 0, .int .i64 0, .int .u64 0, .int .i64 0, .int .u64 0, .slice none 0 0, .int .u64 0, .slice none 0 0, .int .i64 0, .int .i64 0, .slice none 0 0, .int .i64 0] 39) = w2 at *
  have HXR := hide ((HX.out.below HB.out (Nat.le_refl _)).more HB.out.size)
  have ho := hide (World.ownsRow_lit (base := w2.heap.size) (e := 21) (size := 1) w2 #[] 0 (Nat.le_refl _) (by simp [maxLen]) rfl)
  have z0 : w2.cell? ⟨w.heap.size, 0, none⟩ = some (.int .i64 k) := HN.out.cell 0
  have z1 : w2.cell? ⟨w.heap.size, 1, none⟩ = some (.int .u64 id) := HN.out.cell 1
  have z2 : w2.cell? ⟨w.heap.size, 2, none⟩ = some (.slice A n c) := HN.out.cell 2
  have z3 : w2.cell? ⟨w.heap.size, 3, none⟩ = some (.int .u64 tg) := HN.out.cell 3
  have z4 : w2.cell? ⟨w.heap.size, 4, none⟩ = some (.int .i64 kk) := HN.out.cell 4
  have z5 : w2.cell? ⟨w.heap.size, 5, none⟩ = some (.int .i64 ef) := HN.out.cell 5
  have z6 : w2.cell? ⟨w.heap.size, 6, none⟩ = some (.int .u64 dr) := HN.out.cell 6
  have la : w.heap.size < w2.heap.size := by have := HS.out; omega
  go_upto_region 2 with (at_builtin; refine wpList_append_ints rfl _ _ 23 rfl w2.heap.size Try.underlying23 info_i32 rfl _ 0 [] rfl ho.out w2.heap.size _ n c xs rfl (HXR.out.alloc (Nat.le_refl _) _) Hn.out (by simp only [maxLen]; omega) (by omega) (by simp) ?_; intro v' w9 hown9 hgr9 hat9; simp only [Nat.zero_add, List.nil_append] at hown9; obtain ⟨A2, c2, rfl, o1, o2⟩ := own_form hown9; have B9 := hide (below_own ((Below.refl w2.heap.size w2).alloc (Nat.le_refl _) _) ho.out (by simp) hgr9); have R9 := hide (intR_own hown9); have O1 := hide o1; have O2 := hide o2; have HN9 := hide (HN.out.below B9.out HN.out.lt); have HT9 := hide (HT.out.below B9.out HT.out.lt); have f2 := HN9.out.frozen 2; have y2 : w9.cell? ⟨w.heap.size, 2, none⟩ = some (.slice A n c) := HN9.out.cell 2; clear hown9 hgr9 hat9 o1 o2 z0 z1 z2 z3 z4 z5 z6)
  have HNX := hide (show Blk (w9.setCell ⟨w.heap.size, 2, none⟩ (.slice A2 n c2)) w.heap.size 27 #[.int .i64 k, .int .u64 id, .slice A2 n c2, .int .u64 tg, .int .i64 kk, .int .i64 ef, .int .u64 dr] from HN9.out.set_ 2 _)
  have HTX := hide (HT9.out.far (p := ⟨w.heap.size, 2, none⟩) (by simp) (.slice A2 n c2))
  have HBX := hide ((HB.out.trans (B9.out.mono HB.out.size)).setCell (p := ⟨w.heap.size, 2, none⟩) (Nat.le_refl _) (.slice A2 n c2))
  have HRX := hide (R9.out.keepBlocks (w' := w9.setCell ⟨w.heap.size, 2, none⟩ (.slice A2 n c2)) fun b hb => Below.heap_setCell w9 _ _ b (by have := hb.1; simp only; omega))
  have HSX := hide (show w9.heap.size = (w9.setCell ⟨w.heap.size, 2, none⟩ (.slice A2 n c2)).heap.size by simp)
  generalize w9.setCell ⟨w.heap.size, 2, none⟩ (.slice A2 n c2) = w3 at *
  have z0 : w3.cell? ⟨w.heap.size, 0, none⟩ = some (.int .i64 k) := HNX.out.cell 0
  have z1 : w3.cell? ⟨w.heap.size, 1, none⟩ = some (.int .u64 id) := HNX.out.cell 1
  have z2 : w3.cell? ⟨w.heap.size, 2, none⟩ = some (.slice A2 n c2) := HNX.out.cell 2
  have z3 : w3.cell? ⟨w.heap.size, 3, none⟩ = some (.int .u64 tg) := HNX.out.cell 3
  have z4 : w3.cell? ⟨w.heap.size, 4, none⟩ = some (.int .i64 kk) := HNX.out.cell 4
  have z5 : w3.cell? ⟨w.heap.size, 5, none⟩ = some (.int .i64 ef) := HNX.out.cell 5
  have z6 : w3.cell? ⟨w.heap.size, 6, none⟩ = some (.int .u64 dr) := HNX.out.cell 6
  clear f2 y2
  go_wp2_with (refine wpList_store_row rfl 39 (.tmp 4) (.tmp 16) rfl (w.heap.size + 1) rfl 39 _ (refC k id A2 n c2 tg kk ef dr dim 0 0 0 0) rfl HTX.out infoT rfl (refC_one ..) ?_)
  refine bodyPost_ret (refT_cell rfl _ _ (w.heap.size + 1) k id A2 n c2 tg kk ef dr dim 0 0 0 0 rfl (HTX.out.setRow _)) rfl ⟨A2, c2, rfl, O1.out, O2.out, ?_, below_setRow HBX.out (by omega) _⟩
  refine (HRX.out.keepBlocks fun b hb => setRow_other w3 (w.heap.size + 1) b _ (by have := hb.1; have := HS.out; omega)).more fun b hb => ⟨by have := hb.1; omega, ?_⟩
  have := HSX.out
  have := hb.2
  simp only [size_setRow]; omega
end Go.Proofs.Ytojanklgjdjniab
