/-
  The law's own probes of the arena: lives returns true. No condition.
-/
import Derived.Test.YtoodcfldnojkjabArnL
namespace Go.Proofs.Ytoodcfldnojkjab
open Go.RowKit

theorem arn_below {w w' : World} {B P Q : Nat} {fv : Value} {s : Arn} (h : ArnAt w B P Q fv s) (hb : Below w.heap.size w w') : ArnAt w' B P Q fv s :=
  ⟨⟨h.two.hP.below hb h.two.hP.lt, h.two.hQ.below hb h.two.hQ.lt⟩, own_keep h.own fun g hg => hb.block g (h.own.lt g hg).2, h.hP, h.hQ⟩
def L0 : Arn := Arn.init 2
def L1 : Arn := L0.alloc 1
def L2 : Arn := L1.free 1 0
def L3 : Arn := L2.alloc 1
def L4 : Arn := L3.alloc 2
def L5 : Arn := L4.set 1 ((1 + 1 : Nat) : Int)
theorem k0 : L0.Ok 2 0 := init_ok (by omega) (by omega)
theorem k1 : L1.Ok 2 0 := alloc_ok k0 (K' := [2]) (k := 1) rfl
theorem k2 : L2.Ok 2 1 := free_ok k1 (k := 1) (x := 1) (g := 0) (by omega) rfl (.inl rfl) rfl
theorem k3 : L3.Ok 2 1 := alloc_ok k2 (K' := [2]) (k := 1) rfl
theorem k4 : L4.Ok 2 1 := alloc_ok k3 (K' := []) (k := 2) rfl
theorem k5 : L5.Ok 2 1 := move_ok k4 (k := 1) (x := 1) (by omega) rfl (by omega) (by omega)

set_option maxHeartbeats 4000000 in
set_option maxRecDepth 100000 in
theorem lives_any (w : World) : Calls Try.prog 5 #[] w fun e w' => e = .returned (.bool true) ∧ Below w.heap.size w w' := by
  have heq := run_eql_ref
  have hqg : Try.prog.eqGuardType Try.prog.depth 36 = false := by kernel_rfl
  go_enter Try.func5, Try.ntmps5
  go_wp2_with fail
  refine (new_yes 2 w (by omega) (by omega)).mono ?_
  rintro e w1 ⟨P, Q, fv, rfl, A, hb⟩
  go_wp2_with fail
  refine (new_no 4097 _ (by omega)).mono ?_
  rintro e _ ⟨rfl, rfl⟩
  go_wp2_with fail
  have HE := hide heq
  clear heq
  refine (alloc_yes _ A k0 [2] 1 rfl 0 rfl).mono ?_
  rintro e w2 ⟨fv2, rfl, A2, T, -⟩
  have hb2 := T.below hb A hb.size
  clear T A hb
  have A := A2
  have hb := hb2
  clear A2 hb2
  go_wp2_with fail
  have Xx := Blk.new w2 36 #[.int .i64 1, .int .i64 0]
  have A' := arn_alloc A (.cells #[.int .i64 1, .int .i64 0] 36)
  have hb' := hb.alloc hb.size (.cells #[.int .i64 1, .int .i64 0] 36)
  have lx3 : w2.heap.size < (w2.alloc (.cells #[.int .i64 1, .int .i64 0] 36)).heap.size := Xx.lt
  generalize World.alloc w2 (.cells #[.int .i64 1, .int .i64 0] 36) = w3 at *
  clear A hb
  have A := A'
  have hb := hb'
  clear A' hb' lx3
  obtain ⟨gx, hbn⟩ : ∃ b, b = w2.heap.size := ⟨_, rfl⟩
  rw [← hbn] at Xx
  simp only [← hbn]
  clear hbn
  refine (free_yes _ A k1 1 1 (by omega) rfl (.inl rfl) 0 rfl (by omega) (by decide) hb.size).mono ?_
  rintro e w4 ⟨fv4, rfl, A4, T, -⟩
  have hb4 := T.below hb A hb.size
  have Xx' := turned_blk T A Xx (by decide) (by decide) (by decide)
  clear Xx
  have Xx := Xx'
  clear Xx'
  clear T A hb
  have A := A4
  have hb := hb4
  clear A4 hb4
  go_wp2_with fail
  refine (alloc_yes _ A k2 [2] 1 rfl 1 rfl).mono ?_
  rintro e w5 ⟨fv5, rfl, A5, T, -⟩
  have hb5 := T.below hb A hb.size
  have Xx' := turned_blk T A Xx (by decide) (by decide) (by decide)
  clear Xx
  have Xx := Xx'
  clear Xx'
  clear T A hb
  have A := A5
  have hb := hb5
  clear A5 hb5
  go_wp2_with fail
  have Xy := Blk.new w5 36 #[.int .i64 1, .int .i64 1]
  have A' := arn_alloc A (.cells #[.int .i64 1, .int .i64 1] 36)
  have hb' := hb.alloc hb.size (.cells #[.int .i64 1, .int .i64 1] 36)
  have Xx' := Xx.alloc (.cells #[.int .i64 1, .int .i64 1] 36)
  clear Xx
  have Xx := Xx'
  clear Xx'
  have lx6 : w5.heap.size < (w5.alloc (.cells #[.int .i64 1, .int .i64 1] 36)).heap.size := Xy.lt
  generalize World.alloc w5 (.cells #[.int .i64 1, .int .i64 1] 36) = w6 at *
  clear A hb
  have A := A'
  have hb := hb'
  clear A' hb' lx6
  obtain ⟨gy, hbn⟩ : ∃ b, b = w5.heap.size := ⟨_, rfl⟩
  rw [← hbn] at Xy
  simp only [← hbn]
  clear hbn
  refine (alloc_yes _ A k3 [] 2 rfl 0 rfl).mono ?_
  rintro e w7 ⟨fv7, rfl, A7, T, -⟩
  have hb7 := T.below hb A hb.size
  have Xx' := turned_blk T A Xx (by decide) (by decide) (by decide)
  clear Xx
  have Xx := Xx'
  clear Xx'
  have Xy' := turned_blk T A Xy (by decide) (by decide) (by decide)
  clear Xy
  have Xy := Xy'
  clear Xy'
  clear T A hb
  have A := A7
  have hb := hb7
  clear A7 hb7
  go_wp2_with fail
  have Xz := Blk.new w7 36 #[.int .i64 2, .int .i64 0]
  have A' := arn_alloc A (.cells #[.int .i64 2, .int .i64 0] 36)
  have hb' := hb.alloc hb.size (.cells #[.int .i64 2, .int .i64 0] 36)
  have Xx' := Xx.alloc (.cells #[.int .i64 2, .int .i64 0] 36)
  clear Xx
  have Xx := Xx'
  clear Xx'
  have Xy' := Xy.alloc (.cells #[.int .i64 2, .int .i64 0] 36)
  clear Xy
  have Xy := Xy'
  clear Xy'
  have lx8 : w7.heap.size < (w7.alloc (.cells #[.int .i64 2, .int .i64 0] 36)).heap.size := Xz.lt
  generalize World.alloc w7 (.cells #[.int .i64 2, .int .i64 0] 36) = w8 at *
  clear A hb
  have A := A'
  have hb := hb'
  clear A' hb' lx8
  obtain ⟨gz, hbn⟩ : ∃ b, b = w7.heap.size := ⟨_, rfl⟩
  rw [← hbn] at Xz
  simp only [← hbn]
  clear hbn
  refine (alloc_no _ A k4 rfl).mono ?_
  rintro e w9 ⟨fv9, rfl, A9, T, -⟩
  have hb9 := T.below hb A hb.size
  have Xx' := turned_blk T A Xx (by decide) (by decide) (by decide)
  clear Xx
  have Xx := Xx'
  clear Xx'
  have Xy' := turned_blk T A Xy (by decide) (by decide) (by decide)
  clear Xy
  have Xy := Xy'
  clear Xy'
  have Xz' := turned_blk T A Xz (by decide) (by decide) (by decide)
  clear Xz
  have Xz := Xz'
  clear Xz'
  clear T A hb
  have A := A9
  have hb := hb9
  clear A9 hb9
  go_wp2_with fail
  have Xn := Blk.new w9 36 #[.int .i64 0, .int .i64 0]
  have A' := arn_alloc A (.cells #[.int .i64 0, .int .i64 0] 36)
  have hb' := hb.alloc hb.size (.cells #[.int .i64 0, .int .i64 0] 36)
  have Xx' := Xx.alloc (.cells #[.int .i64 0, .int .i64 0] 36)
  clear Xx
  have Xx := Xx'
  clear Xx'
  have Xy' := Xy.alloc (.cells #[.int .i64 0, .int .i64 0] 36)
  clear Xy
  have Xy := Xy'
  clear Xy'
  have Xz' := Xz.alloc (.cells #[.int .i64 0, .int .i64 0] 36)
  clear Xz
  have Xz := Xz'
  clear Xz'
  have lx10 : w9.heap.size < (w9.alloc (.cells #[.int .i64 0, .int .i64 0] 36)).heap.size := Xn.lt
  generalize World.alloc w9 (.cells #[.int .i64 0, .int .i64 0] 36) = w10 at *
  clear A hb
  have A := A'
  have hb := hb'
  clear A' hb' lx10
  obtain ⟨gn, hbn⟩ : ∃ b, b = w9.heap.size := ⟨_, rfl⟩
  rw [← hbn] at Xn
  simp only [← hbn]
  clear hbn
  refine (move_yes _ A k4 1 1 (by omega) rfl (by omega) (by omega)).mono ?_
  rintro e w11 ⟨rfl, A2, T⟩
  have hb2 := T.below hb A hb.size
  have Xx' := turned_blk T A Xx (by decide) (by decide) (by decide)
  clear Xx
  have Xx := Xx'
  clear Xx'
  have Xy' := turned_blk T A Xy (by decide) (by decide) (by decide)
  clear Xy
  have Xy := Xy'
  clear Xy'
  have Xz' := turned_blk T A Xz (by decide) (by decide) (by decide)
  clear Xz
  have Xz := Xz'
  clear Xz'
  have Xn' := turned_blk T A Xn (by decide) (by decide) (by decide)
  clear Xn
  have Xn := Xn'
  clear Xn'
  clear T A hb
  have A := A2
  have hb := hb2
  clear A2 hb2
  go_wp2_with fail
  refine (move_no _ A k5 1 4 (by decide)).mono ?_
  rintro e _ ⟨rfl, rfl⟩
  go_wp2_with fail
  refine (free_no _ A k5 1 (by decide)).mono ?_
  rintro e _ ⟨rfl, rfl⟩
  go_wp2_with fail
  refine (nil_alloc _).mono ?_
  rintro e w12 ⟨rfl, hc⟩
  have hb2 := Below.step hb hc
  have A2 := arn_below A hc
  have Xx' := Xx.below hc Xx.lt
  clear Xx
  have Xx := Xx'
  clear Xx'
  have Xy' := Xy.below hc Xy.lt
  clear Xy
  have Xy := Xy'
  clear Xy'
  have Xz' := Xz.below hc Xz.lt
  clear Xz
  have Xz := Xz'
  clear Xz'
  have Xn' := Xn.below hc Xn.lt
  clear Xn
  have Xn := Xn'
  clear Xn'
  clear hc A hb
  have A := A2
  have hb := hb2
  clear A2 hb2
  have cx0 : w12.cell? ⟨gx, 0, none⟩ = some (.int .i64 1) := by rw [Xx.cell]; rfl
  have cx1 : w12.cell? ⟨gx, 1, none⟩ = some (.int .i64 0) := by rw [Xx.cell]; rfl
  have lx := Xx.lt
  clear Xx
  have cy0 : w12.cell? ⟨gy, 0, none⟩ = some (.int .i64 1) := by rw [Xy.cell]; rfl
  have cy1 : w12.cell? ⟨gy, 1, none⟩ = some (.int .i64 1) := by rw [Xy.cell]; rfl
  have ly := Xy.lt
  clear Xy
  have cz0 : w12.cell? ⟨gz, 0, none⟩ = some (.int .i64 2) := by rw [Xz.cell]; rfl
  have cz1 : w12.cell? ⟨gz, 1, none⟩ = some (.int .i64 0) := by rw [Xz.cell]; rfl
  have lz := Xz.lt
  clear Xz
  clear Xn
  have heq := HE.out
  clear HE
  have AA := hide (arn_alloc A (.cells #[.int .i64 0, .int .i64 0] 36))
  have HB := hide (hb.alloc hb.size (.cells #[.int .i64 0, .int .i64 0] 36))
  clear A hb
  go_wp2_with fail
  refine (state_lit _ AA.out k5 1 2 (by decide)).mono ?_
  rintro e _ ⟨rfl, rfl⟩
  go_wp2_with fail
  refine (state_lit _ AA.out k5 3 (-1) (by decide)).mono ?_
  rintro e _ ⟨rfl, rfl⟩
  go_wp2_with fail
  refine (gen_lit _ AA.out k5 1 1 (by decide)).mono ?_
  rintro e _ ⟨rfl, rfl⟩
  go_wp2_with fail
  refine (gen_lit _ AA.out k5 0 (-1) (by decide)).mono ?_
  rintro e _ ⟨rfl, rfl⟩
  go_wp2_with fail
  refine (count_lit _ AA.out 1 1 (by decide)).mono ?_
  rintro e _ ⟨rfl, rfl⟩
  go_wp2_with fail
  refine (count_lit _ AA.out 0 0 (by decide)).mono ?_
  rintro e _ ⟨rfl, rfl⟩
  go_wp2_with fail
  refine (nil_state _ 1).mono ?_
  rintro e _ ⟨rfl, rfl⟩
  go_wp2_with fail
  refine (nil_gen _ 1).mono ?_
  rintro e _ ⟨rfl, rfl⟩
  go_wp2_with fail
  refine (nil_count _ 0).mono ?_
  rintro e _ ⟨rfl, rfl⟩
  go_wp2_with fail
  refine (nil_free _ 1).mono ?_
  rintro e _ ⟨rfl, rfl⟩
  go_wp2_with fail
  refine (nil_move _ 1 2).mono ?_
  rintro e _ ⟨rfl, rfl⟩
  go_wp2_with fail
  go_ret
  exact ⟨rfl, HB.out⟩
end Go.Proofs.Ytoodcfldnojkjab
