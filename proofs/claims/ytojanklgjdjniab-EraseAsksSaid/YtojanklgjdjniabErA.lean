/-
  The package erase: the tasks of a call. Conditions: the call's vector reads as a list of int32s.
-/
import Derived.Test.YtojanklgjdjniabVecD
import Derived.Test.YtojanklgjdjniabLib3
import Derived.Test.YtojanklgjdjniabEqI
namespace Go.Proofs.Ytojanklgjdjniab
open Go.RowKit

theorem info_i32 : (Try.prog.info? 21).map (fun i => (i.zero, i.size, i.bytes)) = some (some (.int .i32 0), 1, 4) := by kernel_rfl
set_option maxHeartbeats 1000000 in
theorem clone_any (A : Option Addr) (n c : Nat) (xs : List Int) (w : World) (hx : I32s w w.heap.size A xs) (hn : xs.length = n) (h6 : n ≤ 1000000) :
    Calls Try.prog 14 #[.slice A n c] w (GivesI .i32 w xs) := by
  have Hn := hide hn
  have HX := hide hx
  have he := fun W : World => Lib.run_eql_slice_nil (P := Try.prog) W 23 21 A n c 0 0 Try.underlying23
  rcases A with _ | ad
  · have hxs : xs = [] := by
      rcases xs with _ | ⟨x, xs⟩
      · rfl
      · obtain ⟨ad, e, _⟩ := hx (by simp)
        cases e
    have HF := hide (show GivesI .i32 w xs (.returned (.slice none 0 0)) w by subst hxs; exact ⟨_, rfl, NewInts.nil (Below.refl _ _)⟩)
    clear hx hn hxs
    go_enter Try.func14, Try.ntmps14
    go_wp2
    go_ret
    exact HF.out
  · clear hx hn
    have ho := hide (World.ownsRow_lit (base := w.heap.size) (e := 21) (size := 1) w #[] 0 (Nat.le_refl _) (by simp [maxLen]) rfl)
    go_enter Try.func14, Try.ntmps14
    go_wp2_with (at_builtin; refine wpList_append_ints rfl _ _ 23 rfl w.heap.size Try.underlying23 info_i32 rfl _ 0 [] rfl ho.out w.heap.size _ n c xs rfl (HX.out.alloc (Nat.le_refl _) _) Hn.out (by simp only [maxLen]; omega) (by omega) (by simp) ?_; intro v' w9 hown9 hgr9 hat9; have HO := hide hown9; have HG := hide (below_own ((Below.refl w.heap.size w).alloc (Nat.le_refl _) _) ho.out (by simp) hgr9); clear hown9 hgr9 hat9)
    go_ret
    exact ⟨_, rfl, NewInts.of_own (n := 0 + n) HO.out HG.out⟩


/-- the cells of a call -/
def callC (k id : Int) (A : Option Addr) (n c : Nat) (tg kk ef dr : Int) : Array Value := #[.int .i64 k, .int .u64 id, .slice A n c, .int .u64 tg, .int .i64 kk, .int .i64 ef, .int .u64 dr]
def toldC (k id : Int) (A : Option Addr) (n c : Nat) (tg kk ef dr : Int) (err : Int) : Array Value := #[.int .i64 0, .int .i64 k, .int .u64 id, .slice A n c, .int .u64 tg, .int .i64 kk, .int .i64 ef, .int .u64 dr, .int .i64 err, .int .u64 0, .slice none 0 0, .int .u64 0, .slice none 0 0, .int .i64 0, .int .i64 0, .slice none 0 0, .int .i64 0]
def taskC (k id : Int) (A : Option Addr) (n c : Nat) (tg kk ef dr : Int) (dim slot pc marks err : Int) : Array Value := #[.int .i64 k, .int .u64 id, .slice A n c, .int .u64 tg, .int .i64 kk, .int .i64 ef, .int .u64 dr, .int .i64 dim, .int .i64 slot, .int .i64 pc, .int .i64 marks, .int .i64 0, .int .i64 k, .int .u64 id, .slice A n c, .int .u64 tg, .int .i64 kk, .int .i64 ef, .int .u64 dr, .int .i64 err, .int .u64 0, .slice none 0 0, .int .u64 0, .slice none 0 0, .int .i64 0, .int .i64 0, .slice none 0 0, .int .i64 0]
def refC (k id : Int) (A : Option Addr) (n c : Nat) (tg kk ef dr : Int) (dim pc slot marks err : Int) : Array Value := #[.int .i64 k, .int .u64 id, .slice A n c, .int .u64 tg, .int .i64 kk, .int .i64 ef, .int .u64 dr, .int .i64 dim, .int .i64 pc, .int .i64 slot, .int .i64 marks, .int .i64 0, .int .i64 k, .int .u64 id, .slice A n c, .int .u64 tg, .int .i64 kk, .int .i64 ef, .int .u64 dr, .int .i64 err, .int .u64 0, .slice none 0 0, .int .u64 0, .slice none 0 0, .int .i64 0, .int .i64 0, .slice none 0 0, .int .i64 0]
set_option maxHeartbeats 2000000 in
theorem new_any (k id : Int) (A : Option Addr) (n c : Nat) (tg kk ef dr : Int) (dim : Int) (xs : List Int) (w : World) (hx : I32s w w.heap.size A xs) (hn : xs.length = n) (h6 : n ≤ 1000000) :
    Calls Try.prog 6 #[.agg (callC k id A n c tg kk ef dr), .int .i64 dim] w fun e w' => ∃ g A' c', e = .returned (.pointer (some ⟨g, 0, none⟩)) ∧ w.heap.size ≤ g ∧ Blk w' g 56 (taskC k id A' n c' tg kk ef dr dim 0 0 0 0) ∧ n ≤ c' ∧ c' ≤ 9223372036854775807 ∧ RdR (Sh.int .i32) w' (Btw w.heap.size g) A' xs ∧ Below w.heap.size w w' := by
  have HX := hide hx
  have Hn := hide hn
  have HN := hide (Blk.new w 27 #[.int .i64 k, .int .u64 id, .slice A n c, .int .u64 tg, .int .i64 kk, .int .i64 ef, .int .u64 dr])
  have HB := hide (below1 w (.cells #[.int .i64 k, .int .u64 id, .slice A n c, .int .u64 tg, .int .i64 kk, .int .i64 ef, .int .u64 dr] 27))
  have C1 := hide (clone_any A n c xs (w.alloc (.cells #[.int .i64 k, .int .u64 id, .slice A n c, .int .u64 tg, .int .i64 kk, .int .i64 ef, .int .u64 dr] 27)) ((hx.alloc (Nat.le_refl _) _).more (by simp)) hn h6)
  clear hx hn
  unfold callC
  go_enter Try.func6, Try.ntmps6
  go_upto_region 1 with fail
  generalize w.alloc (.cells #[.int .i64 k, .int .u64 id, .slice A n c, .int .u64 tg, .int .i64 kk, .int .i64 ef, .int .u64 dr] 27) = w1 at *
  have z0 : w1.cell? ⟨w.heap.size, 0, none⟩ = some (.int .i64 k) := HN.out.cell 0
  have z1 : w1.cell? ⟨w.heap.size, 1, none⟩ = some (.int .u64 id) := HN.out.cell 1
  have z2 : w1.cell? ⟨w.heap.size, 2, none⟩ = some (.slice A n c) := HN.out.cell 2
  have z3 : w1.cell? ⟨w.heap.size, 3, none⟩ = some (.int .u64 tg) := HN.out.cell 3
  have z4 : w1.cell? ⟨w.heap.size, 4, none⟩ = some (.int .i64 kk) := HN.out.cell 4
  have z5 : w1.cell? ⟨w.heap.size, 5, none⟩ = some (.int .i64 ef) := HN.out.cell 5
  have z6 : w1.cell? ⟨w.heap.size, 6, none⟩ = some (.int .u64 dr) := HN.out.cell 6
  go_upto_region 2 with (go_at_call 14; refine C1.out.mono ?_; rintro e w2 ⟨v, rfl, A2, n2, c2, rfl, hl2, hn2, hm2, hr2, hb2⟩; have HL2 := hide hl2; have HN2 := hide hn2; have HM2 := hide hm2; have HR2 := hide hr2; have HB2 := hide hb2; have HNW := hide (HN.out.below hb2 HN.out.lt); clear hl2 hn2 hm2 hr2 hb2; have f2 := HNW.out.frozen 2; have y2 : w2.cell? ⟨w.heap.size, 2, none⟩ = some (.slice A n c) := HNW.out.cell 2; clear z0 z1 z2 z3 z4 z5 z6)
  have HNX := hide (show Blk (w2.setCell ⟨w.heap.size, 2, none⟩ (.slice A2 n2 c2)) w.heap.size 27 #[.int .i64 k, .int .u64 id, .slice A2 n2 c2, .int .u64 tg, .int .i64 kk, .int .i64 ef, .int .u64 dr] from HNW.out.set_ 2 _)
  have HBX := hide ((HB.out.trans (HB2.out.mono HB.out.size)).setCell (p := ⟨w.heap.size, 2, none⟩) (Nat.le_refl _) (.slice A2 n2 c2))
  have HRX := hide (HR2.out.keepBlocks (w' := w2.setCell ⟨w.heap.size, 2, none⟩ (.slice A2 n2 c2)) fun b hb => Below.heap_setCell w2 _ _ b (by have := HN.out.lt; have := hb.1; simp only; omega))
  have HSX := hide (show w2.heap.size = (w2.setCell ⟨w.heap.size, 2, none⟩ (.slice A2 n2 c2)).heap.size by simp)
  generalize w2.setCell ⟨w.heap.size, 2, none⟩ (.slice A2 n2 c2) = w3 at *
  have z0 : w3.cell? ⟨w.heap.size, 0, none⟩ = some (.int .i64 k) := HNX.out.cell 0
  have z1 : w3.cell? ⟨w.heap.size, 1, none⟩ = some (.int .u64 id) := HNX.out.cell 1
  have z2 : w3.cell? ⟨w.heap.size, 2, none⟩ = some (.slice A2 n2 c2) := HNX.out.cell 2
  have z3 : w3.cell? ⟨w.heap.size, 3, none⟩ = some (.int .u64 tg) := HNX.out.cell 3
  have z4 : w3.cell? ⟨w.heap.size, 4, none⟩ = some (.int .i64 kk) := HNX.out.cell 4
  have z5 : w3.cell? ⟨w.heap.size, 5, none⟩ = some (.int .i64 ef) := HNX.out.cell 5
  have z6 : w3.cell? ⟨w.heap.size, 6, none⟩ = some (.int .u64 dr) := HNX.out.cell 6
  clear f2 y2
  go_wp2
  go_ret
  have e := HL2.out
  have e' := Hn.out
  obtain rfl : n = n2 := by omega
  exact ⟨_, A2, c2, rfl, HBX.out.size, Blk.new _ _ _, HN2.out, HM2.out, (HRX.out.keepBlocks fun b hb => Below.heap_alloc _ _ b (by rw [← HSX.out]; exact hb.2)).more (fun b hb => ⟨by have := HN.out.lt; have := hb.1; omega, by rw [← HSX.out]; exact hb.2⟩), HBX.out.alloc HBX.out.size _⟩
end Go.Proofs.Ytojanklgjdjniab
