/-
  lives of the law's package walk. No condition.
-/
import Derived.Test.YtphbdffgeeicaadWlkI
namespace Go.Proofs.Ytphbdffgeeicaad
set_option linter.unusedSimpArgs false
set_option linter.unusedVariables false
open Go.RowKit

section
variable {w : World} {g gq : Nat}
/-- the plane and a vector of one -/
theorem plW_lit (hn : Rd SNode w w.heap.size (some ⟨g, 0, none⟩) lvNs) {x : Int} (hx : -2147483648 ≤ x ∧ x ≤ 2147483647) : PlW (w.alloc (.cells #[.int .i32 x] 21)) (some ⟨g, 0, none⟩) 3 lvNs (some ⟨w.heap.size, 0, none⟩) 1 1 [x] :=
  ⟨hn.at_world (below1 _ _), rfl, lvNs_ok, lvNs_sm, by omega, (flatInt .i32).blk (Blk.new w 21 #[.int .i32 x]) rfl, rfl, by omega, by omega, fun y hy => by obtain rfl := List.mem_singleton.1 hy; exact hx⟩
theorem lvStep {W : World} {A : Option Addr} (h : PlW W (some ⟨g, 0, none⟩) 3 lvNs A 1 1 [0]) {s z : Int} {b : Bool} (e : stepF lvNs [0] s 1 = z) (eb : (z != s) = b) : Calls Try.prog 13 #[.agg #[.slice (some ⟨g, 0, none⟩) 3 3, .int .i64 1, .int .i64 1], .slice A 1 1, .int .i64 s, .int .i64 1] W fun e w' => e = .returned (.tuple #[.int .i64 z, .bool b]) ∧ Below W.heap.size W w' := by
  have := step_any h (cN := 3) (en := 1) (top := 1) s 1
  rwa [e, eb] at this
theorem lvLevel {W : World} {A : Option Addr} (h : PlW W (some ⟨g, 0, none⟩) 3 lvNs A 1 1 [0]) : Calls Try.prog 6 #[.agg #[.slice (some ⟨g, 0, none⟩) 3 3, .int .i64 1, .int .i64 1], .slice A 1 1, .int .i64 1, .int .i64 1] W fun e w' => ∃ A' c, e = .returned (.slice A' 2 c) ∧ 2 ≤ c ∧ c ≤ 9223372036854775807 ∧ Rd (Sh.int .i64) w' w'.heap.size A' [1, 2] ∧ Below W.heap.size W w' := by
  refine (level_any h (cN := 3) (en := 1) (top := 1) 1 1).mono ?_
  rintro e w' ⟨p, A', n, c, rfl, h1, h2, h3, h4, h5, h6, h7⟩
  obtain rfl := h1.same way12
  obtain rfl : 2 = n := h2
  exact ⟨A', c, rfl, h4, h5, h6.rd fun d hd => hd.2, h7⟩
theorem lvDown {W : World} {A : Option Addr} (h : PlW W (some ⟨g, 0, none⟩) 3 lvNs A 1 1 [0]) : Calls Try.prog 11 #[.agg #[.slice (some ⟨g, 0, none⟩) 3 3, .int .i64 1, .int .i64 1], .slice A 1 1] W fun e w' => e = .returned (.tuple #[.int .i64 2, .bool true]) ∧ Below W.heap.size W w' := by
  refine (down_any h (cN := 3) (en := 1) (top := 1)).mono ?_
  rintro e w' ⟨d, rfl, h1, h2⟩
  have ht : thereF lvNs 1 = true := by decide
  rw [ht, if_pos rfl] at h1
  rw [ht, down12 h1]
  exact ⟨rfl, h2⟩
theorem lvNone (W : World) : Calls Try.prog 11 #[.agg #[.slice none 0 0, .int .i64 0, .int .i64 0], .slice none 0 0] W fun e w' => e = .returned (.tuple #[.int .i64 0, .bool false]) ∧ Below W.heap.size W w' := by
  have h : PlW W none 0 [] none 0 0 [] := ⟨RdR.nil, rfl, fun x hx => by simp at hx, fun x hx => by simp at hx, by omega, RdR.nil, rfl, by omega, by omega, fun y hy => by simp at hy⟩
  refine (down_any h (cN := 0) (en := 0) (top := 0)).mono ?_
  rintro e w' ⟨d, rfl, h1, h2⟩
  have ht : thereF [] 0 = false := by decide
  rw [ht, if_neg (by decide)] at h1
  rw [ht, h1]
  exact ⟨rfl, h2⟩
theorem lvSpot {W : World} {A : Option Addr} {x : Int} (h : PlW W (some ⟨g, 0, none⟩) 3 lvNs A 1 1 [x]) {s a b c : Int} (e : spotF lvNs [x] s = ((a, b), c)) : Calls Try.prog 10 #[.agg #[.slice (some ⟨g, 0, none⟩) 3 3, .int .i64 1, .int .i64 1], .slice A 1 1, .int .i64 s] W fun e w' => e = .returned (.agg #[.int .u64 a, .int .u64 b, .int .i64 c]) ∧ Below W.heap.size W w' := by
  have := wSpot_any h.nd h.len h.ok h.q h.lq h.c1 h.c2 h.qi s (cN := 3) (en := 1) (top := 1)
  rw [e] at this
  exact this
end
set_option maxHeartbeats 8000000 in
set_option maxRecDepth 100000 in
theorem lives_any (w : World) : Calls Try.prog 4 #[] w fun e w' => e = .returned (.bool true) ∧ Below w.heap.size w w' := by
  have he := run_eql_spot 1 2 2 1 2 2 (r := true) rfl
  have hf1 : ∀ W : World, (Instr.field 37 (.agg #[.int .u64 4, .int .u64 0, .int .i64 9]) 0).run Try.prog W = .ok (.agg #[.int .u64 4, .int .u64 0]) W := fun W => by kernel_rfl
  have hf2 : ∀ W : World, (Instr.field 35 (.agg #[.int .u64 4, .int .u64 0]) 0).run Try.prog W = .ok (.int .u64 4) W := fun W => by kernel_rfl
  have HB0 := hide (fun (W : World) (hb : Below w.heap.size w W) => hb)
  go_enter Try.func4, Try.ntmps4
  go_upto_region 2 with fail
  have HA1 := hide (show Blk ((((w.alloc (.cells #[.int .i32 9] 21)).alloc (.cells #[.int .i64 2] 3)).alloc (.cells #[.slice none 0 0, .slice (some ⟨w.heap.size + 1, 0, none⟩) 1 1] 28)).alloc (.cells #[.int .u64 1, .slice (some ⟨w.heap.size, 0, none⟩) 1 1, .int .u64 0, .int .i64 1, .slice (some ⟨w.heap.size + 1 + 1, 0, none⟩) 2 2, .int .i64 2, .int .i64 0] 47)) (w.heap.size) 21 #[.int .i32 9] from (Blk.alloc (Blk.alloc (Blk.alloc (Blk.new w 21 #[.int .i32 9]) _) _) _))
  have HL1 := hide (show Blk ((((w.alloc (.cells #[.int .i32 9] 21)).alloc (.cells #[.int .i64 2] 3)).alloc (.cells #[.slice none 0 0, .slice (some ⟨w.heap.size + 1, 0, none⟩) 1 1] 28)).alloc (.cells #[.int .u64 1, .slice (some ⟨w.heap.size, 0, none⟩) 1 1, .int .u64 0, .int .i64 1, .slice (some ⟨w.heap.size + 1 + 1, 0, none⟩) 2 2, .int .i64 2, .int .i64 0] 47)) (w.heap.size + 1) 3 #[.int .i64 2] from (Blk.alloc (Blk.alloc (show Blk ((w.alloc (.cells #[.int .i32 9] 21)).alloc (.cells #[.int .i64 2] 3)) (w.heap.size + 1) 3 #[.int .i64 2] by have := Blk.new (w.alloc (.cells #[.int .i32 9] 21)) 3 #[.int .i64 2]; simpa using this) _) _))
  have HS1 := hide (show Blk ((((w.alloc (.cells #[.int .i32 9] 21)).alloc (.cells #[.int .i64 2] 3)).alloc (.cells #[.slice none 0 0, .slice (some ⟨w.heap.size + 1, 0, none⟩) 1 1] 28)).alloc (.cells #[.int .u64 1, .slice (some ⟨w.heap.size, 0, none⟩) 1 1, .int .u64 0, .int .i64 1, .slice (some ⟨w.heap.size + 1 + 1, 0, none⟩) 2 2, .int .i64 2, .int .i64 0] 47)) (w.heap.size + 1 + 1) 28 #[.slice none 0 0, .slice (some ⟨w.heap.size + 1, 0, none⟩) 1 1] from (Blk.alloc (show Blk (((w.alloc (.cells #[.int .i32 9] 21)).alloc (.cells #[.int .i64 2] 3)).alloc (.cells #[.slice none 0 0, .slice (some ⟨w.heap.size + 1, 0, none⟩) 1 1] 28)) (w.heap.size + 1 + 1) 28 #[.slice none 0 0, .slice (some ⟨w.heap.size + 1, 0, none⟩) 1 1] by have := Blk.new ((w.alloc (.cells #[.int .i32 9] 21)).alloc (.cells #[.int .i64 2] 3)) 28 #[.slice none 0 0, .slice (some ⟨w.heap.size + 1, 0, none⟩) 1 1]; simpa using this) _))
  have HV1 := hide (show Blk ((((w.alloc (.cells #[.int .i32 9] 21)).alloc (.cells #[.int .i64 2] 3)).alloc (.cells #[.slice none 0 0, .slice (some ⟨w.heap.size + 1, 0, none⟩) 1 1] 28)).alloc (.cells #[.int .u64 1, .slice (some ⟨w.heap.size, 0, none⟩) 1 1, .int .u64 0, .int .i64 1, .slice (some ⟨w.heap.size + 1 + 1, 0, none⟩) 2 2, .int .i64 2, .int .i64 0] 47)) (w.heap.size + 1 + 1 + 1) 47 #[.int .u64 1, .slice (some ⟨w.heap.size, 0, none⟩) 1 1, .int .u64 0, .int .i64 1, .slice (some ⟨w.heap.size + 1 + 1, 0, none⟩) 2 2, .int .i64 2, .int .i64 0] from (show Blk ((((w.alloc (.cells #[.int .i32 9] 21)).alloc (.cells #[.int .i64 2] 3)).alloc (.cells #[.slice none 0 0, .slice (some ⟨w.heap.size + 1, 0, none⟩) 1 1] 28)).alloc (.cells #[.int .u64 1, .slice (some ⟨w.heap.size, 0, none⟩) 1 1, .int .u64 0, .int .i64 1, .slice (some ⟨w.heap.size + 1 + 1, 0, none⟩) 2 2, .int .i64 2, .int .i64 0] 47)) (w.heap.size + 1 + 1 + 1) 47 #[.int .u64 1, .slice (some ⟨w.heap.size, 0, none⟩) 1 1, .int .u64 0, .int .i64 1, .slice (some ⟨w.heap.size + 1 + 1, 0, none⟩) 2 2, .int .i64 2, .int .i64 0] by have := Blk.new (((w.alloc (.cells #[.int .i32 9] 21)).alloc (.cells #[.int .i64 2] 3)).alloc (.cells #[.slice none 0 0, .slice (some ⟨w.heap.size + 1, 0, none⟩) 1 1] 28)) 47 #[.int .u64 1, .slice (some ⟨w.heap.size, 0, none⟩) 1 1, .int .u64 0, .int .i64 1, .slice (some ⟨w.heap.size + 1 + 1, 0, none⟩) 2 2, .int .i64 2, .int .i64 0]; simpa using this))
  have HB1 := hide (show Below w.heap.size w ((((w.alloc (.cells #[.int .i32 9] 21)).alloc (.cells #[.int .i64 2] 3)).alloc (.cells #[.slice none 0 0, .slice (some ⟨w.heap.size + 1, 0, none⟩) 1 1] 28)).alloc (.cells #[.int .u64 1, .slice (some ⟨w.heap.size, 0, none⟩) 1 1, .int .u64 0, .int .i64 1, .slice (some ⟨w.heap.size + 1 + 1, 0, none⟩) 2 2, .int .i64 2, .int .i64 0] 47)) from (((Below.refl _ _).alloc (Nat.le_refl _) _).alloc (by simp) _ |>.alloc (by simp; omega) _).alloc (by simp; omega) _)
  generalize World.alloc (World.alloc (World.alloc (World.alloc w _) _) _) _ = w1 at HA1 HL1 HS1 HV1 HB1 ⊢
  generalize w.heap.size + 1 + 1 + 1 = v1 at HA1 HL1 HS1 HV1 ⊢
  generalize w.heap.size + 1 + 1 = s1 at HA1 HL1 HS1 HV1 ⊢
  generalize w.heap.size + 1 = l1 at HA1 HL1 HS1 HV1 ⊢
  generalize w.heap.size = a1 at HA1 HL1 HS1 HV1 ⊢
  have HBp := HB1
  go_upto_region 3 with fail
  have HA2 := hide (show Blk ((((w1.alloc (.cells #[.int .i32 1] 21)).alloc (.cells #[.int .i64 1] 3)).alloc (.cells #[.slice none 0 0, .slice (some ⟨w1.heap.size + 1, 0, none⟩) 1 1] 28)).alloc (.cells #[.int .u64 2, .slice (some ⟨w1.heap.size, 0, none⟩) 1 1, .int .u64 0, .int .i64 1, .slice (some ⟨w1.heap.size + 1 + 1, 0, none⟩) 2 2, .int .i64 0, .int .i64 1] 47)) (w1.heap.size) 21 #[.int .i32 1] from (Blk.alloc (Blk.alloc (Blk.alloc (Blk.new w1 21 #[.int .i32 1]) _) _) _))
  have HL2 := hide (show Blk ((((w1.alloc (.cells #[.int .i32 1] 21)).alloc (.cells #[.int .i64 1] 3)).alloc (.cells #[.slice none 0 0, .slice (some ⟨w1.heap.size + 1, 0, none⟩) 1 1] 28)).alloc (.cells #[.int .u64 2, .slice (some ⟨w1.heap.size, 0, none⟩) 1 1, .int .u64 0, .int .i64 1, .slice (some ⟨w1.heap.size + 1 + 1, 0, none⟩) 2 2, .int .i64 0, .int .i64 1] 47)) (w1.heap.size + 1) 3 #[.int .i64 1] from (Blk.alloc (Blk.alloc (show Blk ((w1.alloc (.cells #[.int .i32 1] 21)).alloc (.cells #[.int .i64 1] 3)) (w1.heap.size + 1) 3 #[.int .i64 1] by have := Blk.new (w1.alloc (.cells #[.int .i32 1] 21)) 3 #[.int .i64 1]; simpa using this) _) _))
  have HS2 := hide (show Blk ((((w1.alloc (.cells #[.int .i32 1] 21)).alloc (.cells #[.int .i64 1] 3)).alloc (.cells #[.slice none 0 0, .slice (some ⟨w1.heap.size + 1, 0, none⟩) 1 1] 28)).alloc (.cells #[.int .u64 2, .slice (some ⟨w1.heap.size, 0, none⟩) 1 1, .int .u64 0, .int .i64 1, .slice (some ⟨w1.heap.size + 1 + 1, 0, none⟩) 2 2, .int .i64 0, .int .i64 1] 47)) (w1.heap.size + 1 + 1) 28 #[.slice none 0 0, .slice (some ⟨w1.heap.size + 1, 0, none⟩) 1 1] from (Blk.alloc (show Blk (((w1.alloc (.cells #[.int .i32 1] 21)).alloc (.cells #[.int .i64 1] 3)).alloc (.cells #[.slice none 0 0, .slice (some ⟨w1.heap.size + 1, 0, none⟩) 1 1] 28)) (w1.heap.size + 1 + 1) 28 #[.slice none 0 0, .slice (some ⟨w1.heap.size + 1, 0, none⟩) 1 1] by have := Blk.new ((w1.alloc (.cells #[.int .i32 1] 21)).alloc (.cells #[.int .i64 1] 3)) 28 #[.slice none 0 0, .slice (some ⟨w1.heap.size + 1, 0, none⟩) 1 1]; simpa using this) _))
  have HV2 := hide (show Blk ((((w1.alloc (.cells #[.int .i32 1] 21)).alloc (.cells #[.int .i64 1] 3)).alloc (.cells #[.slice none 0 0, .slice (some ⟨w1.heap.size + 1, 0, none⟩) 1 1] 28)).alloc (.cells #[.int .u64 2, .slice (some ⟨w1.heap.size, 0, none⟩) 1 1, .int .u64 0, .int .i64 1, .slice (some ⟨w1.heap.size + 1 + 1, 0, none⟩) 2 2, .int .i64 0, .int .i64 1] 47)) (w1.heap.size + 1 + 1 + 1) 47 #[.int .u64 2, .slice (some ⟨w1.heap.size, 0, none⟩) 1 1, .int .u64 0, .int .i64 1, .slice (some ⟨w1.heap.size + 1 + 1, 0, none⟩) 2 2, .int .i64 0, .int .i64 1] from (show Blk ((((w1.alloc (.cells #[.int .i32 1] 21)).alloc (.cells #[.int .i64 1] 3)).alloc (.cells #[.slice none 0 0, .slice (some ⟨w1.heap.size + 1, 0, none⟩) 1 1] 28)).alloc (.cells #[.int .u64 2, .slice (some ⟨w1.heap.size, 0, none⟩) 1 1, .int .u64 0, .int .i64 1, .slice (some ⟨w1.heap.size + 1 + 1, 0, none⟩) 2 2, .int .i64 0, .int .i64 1] 47)) (w1.heap.size + 1 + 1 + 1) 47 #[.int .u64 2, .slice (some ⟨w1.heap.size, 0, none⟩) 1 1, .int .u64 0, .int .i64 1, .slice (some ⟨w1.heap.size + 1 + 1, 0, none⟩) 2 2, .int .i64 0, .int .i64 1] by have := Blk.new (((w1.alloc (.cells #[.int .i32 1] 21)).alloc (.cells #[.int .i64 1] 3)).alloc (.cells #[.slice none 0 0, .slice (some ⟨w1.heap.size + 1, 0, none⟩) 1 1] 28)) 47 #[.int .u64 2, .slice (some ⟨w1.heap.size, 0, none⟩) 1 1, .int .u64 0, .int .i64 1, .slice (some ⟨w1.heap.size + 1 + 1, 0, none⟩) 2 2, .int .i64 0, .int .i64 1]; simpa using this))
  have HB2 := hide (show Below w.heap.size w ((((w1.alloc (.cells #[.int .i32 1] 21)).alloc (.cells #[.int .i64 1] 3)).alloc (.cells #[.slice none 0 0, .slice (some ⟨w1.heap.size + 1, 0, none⟩) 1 1] 28)).alloc (.cells #[.int .u64 2, .slice (some ⟨w1.heap.size, 0, none⟩) 1 1, .int .u64 0, .int .i64 1, .slice (some ⟨w1.heap.size + 1 + 1, 0, none⟩) 2 2, .int .i64 0, .int .i64 1] 47)) from Below.step HBp.out ((((Below.refl w1.heap.size w1).alloc (Nat.le_refl _) _).alloc (by simp) _ |>.alloc (by simp; omega) _).alloc (by simp; omega) _))
  have hbx : Below w1.heap.size w1 ((((w1.alloc (.cells #[.int .i32 1] 21)).alloc (.cells #[.int .i64 1] 3)).alloc (.cells #[.slice none 0 0, .slice (some ⟨w1.heap.size + 1, 0, none⟩) 1 1] 28)).alloc (.cells #[.int .u64 2, .slice (some ⟨w1.heap.size, 0, none⟩) 1 1, .int .u64 0, .int .i64 1, .slice (some ⟨w1.heap.size + 1 + 1, 0, none⟩) 2 2, .int .i64 0, .int .i64 1] 47)) := ((((Below.refl w1.heap.size w1).alloc (Nat.le_refl _) _).alloc (by simp) _ |>.alloc (by simp; omega) _).alloc (by simp; omega) _)
  replace HA1 := hide (HA1.out.below hbx HA1.out.lt)
  replace HL1 := hide (HL1.out.below hbx HL1.out.lt)
  replace HS1 := hide (HS1.out.below hbx HS1.out.lt)
  replace HV1 := hide (HV1.out.below hbx HV1.out.lt)
  clear hbx HB1
  generalize World.alloc (World.alloc (World.alloc (World.alloc w1 _) _) _) _ = w2 at *
  generalize w1.heap.size + 1 + 1 + 1 = v2 at *
  generalize w1.heap.size + 1 + 1 = s2 at *
  generalize w1.heap.size + 1 = l2 at *
  generalize w1.heap.size = a2 at *
  have d10 := HV1.out.cell 0
  have d11 := HV1.out.cell 1
  have d12 := HV1.out.cell 2
  have d13 := HV1.out.cell 3
  have d14 := HV1.out.cell 4
  have d15 := HV1.out.cell 5
  have d16 := HV1.out.cell 6
  simp at d10 d11 d12 d13 d14 d15 d16
  have d20 := HV2.out.cell 0
  have d21 := HV2.out.cell 1
  have d22 := HV2.out.cell 2
  have d23 := HV2.out.cell 3
  have d24 := HV2.out.cell 4
  have d25 := HV2.out.cell 5
  have d26 := HV2.out.cell 6
  simp at d20 d21 d22 d23 d24 d25 d26
  go_upto_region 4 with fail
  have hb3 : Below w2.heap.size w2 ((w2.alloc (.cells #[.int .u64 0, .slice none 0 0, .int .u64 0, .int .i64 0, .slice none 0 0, .int .i64 1, .int .i64 2, .int .u64 1, .slice (some ⟨a1, 0, none⟩) 1 1, .int .u64 0, .int .i64 1, .slice (some ⟨s1, 0, none⟩) 2 2, .int .i64 2, .int .i64 0, .int .u64 2, .slice (some ⟨a2, 0, none⟩) 1 1, .int .u64 0, .int .i64 1, .slice (some ⟨s2, 0, none⟩) 2 2, .int .i64 0, .int .i64 1] 47)).alloc (.cells #[.slice (some ⟨w2.heap.size, 0, none⟩) 3 3, .int .i64 1, .int .i64 1] 24)) := ((Below.refl _ _).alloc (Nat.le_refl _) _).alloc (by simp) _
  have HNd := hide (lit_nodes ((w2.alloc (.cells #[.int .u64 0, .slice none 0 0, .int .u64 0, .int .i64 0, .slice none 0 0, .int .i64 1, .int .i64 2, .int .u64 1, .slice (some ⟨a1, 0, none⟩) 1 1, .int .u64 0, .int .i64 1, .slice (some ⟨s1, 0, none⟩) 2 2, .int .i64 2, .int .i64 0, .int .u64 2, .slice (some ⟨a2, 0, none⟩) 1 1, .int .u64 0, .int .i64 1, .slice (some ⟨s2, 0, none⟩) 2 2, .int .i64 0, .int .i64 1] 47)).alloc (.cells #[.slice (some ⟨w2.heap.size, 0, none⟩) 3 3, .int .i64 1, .int .i64 1] 24)) w2.heap.size a1 s1 l1 a2 s2 l2 (show Blk ((w2.alloc (.cells #[.int .u64 0, .slice none 0 0, .int .u64 0, .int .i64 0, .slice none 0 0, .int .i64 1, .int .i64 2, .int .u64 1, .slice (some ⟨a1, 0, none⟩) 1 1, .int .u64 0, .int .i64 1, .slice (some ⟨s1, 0, none⟩) 2 2, .int .i64 2, .int .i64 0, .int .u64 2, .slice (some ⟨a2, 0, none⟩) 1 1, .int .u64 0, .int .i64 1, .slice (some ⟨s2, 0, none⟩) 2 2, .int .i64 0, .int .i64 1] 47)).alloc (.cells #[.slice (some ⟨w2.heap.size, 0, none⟩) 3 3, .int .i64 1, .int .i64 1] 24)) w2.heap.size 47 #[.int .u64 0, .slice none 0 0, .int .u64 0, .int .i64 0, .slice none 0 0, .int .i64 1, .int .i64 2, .int .u64 1, .slice (some ⟨a1, 0, none⟩) 1 1, .int .u64 0, .int .i64 1, .slice (some ⟨s1, 0, none⟩) 2 2, .int .i64 2, .int .i64 0, .int .u64 2, .slice (some ⟨a2, 0, none⟩) 1 1, .int .u64 0, .int .i64 1, .slice (some ⟨s2, 0, none⟩) 2 2, .int .i64 0, .int .i64 1] from Blk.alloc (Blk.new w2 47 #[.int .u64 0, .slice none 0 0, .int .u64 0, .int .i64 0, .slice none 0 0, .int .i64 1, .int .i64 2, .int .u64 1, .slice (some ⟨a1, 0, none⟩) 1 1, .int .u64 0, .int .i64 1, .slice (some ⟨s1, 0, none⟩) 2 2, .int .i64 2, .int .i64 0, .int .u64 2, .slice (some ⟨a2, 0, none⟩) 1 1, .int .u64 0, .int .i64 1, .slice (some ⟨s2, 0, none⟩) 2 2, .int .i64 0, .int .i64 1]) _) (HA1.out.below hb3 HA1.out.lt) (HS1.out.below hb3 HS1.out.lt) (HL1.out.below hb3 HL1.out.lt) (HA2.out.below hb3 HA2.out.lt) (HS2.out.below hb3 HS2.out.lt) (HL2.out.below hb3 HL2.out.lt))
  have HP := hide (show Blk ((w2.alloc (.cells #[.int .u64 0, .slice none 0 0, .int .u64 0, .int .i64 0, .slice none 0 0, .int .i64 1, .int .i64 2, .int .u64 1, .slice (some ⟨a1, 0, none⟩) 1 1, .int .u64 0, .int .i64 1, .slice (some ⟨s1, 0, none⟩) 2 2, .int .i64 2, .int .i64 0, .int .u64 2, .slice (some ⟨a2, 0, none⟩) 1 1, .int .u64 0, .int .i64 1, .slice (some ⟨s2, 0, none⟩) 2 2, .int .i64 0, .int .i64 1] 47)).alloc (.cells #[.slice (some ⟨w2.heap.size, 0, none⟩) 3 3, .int .i64 1, .int .i64 1] 24)) (w2.heap.size + 1) 24 #[.slice (some ⟨w2.heap.size, 0, none⟩) 3 3, .int .i64 1, .int .i64 1] by have := Blk.new (w2.alloc (.cells #[.int .u64 0, .slice none 0 0, .int .u64 0, .int .i64 0, .slice none 0 0, .int .i64 1, .int .i64 2, .int .u64 1, .slice (some ⟨a1, 0, none⟩) 1 1, .int .u64 0, .int .i64 1, .slice (some ⟨s1, 0, none⟩) 2 2, .int .i64 2, .int .i64 0, .int .u64 2, .slice (some ⟨a2, 0, none⟩) 1 1, .int .u64 0, .int .i64 1, .slice (some ⟨s2, 0, none⟩) 2 2, .int .i64 0, .int .i64 1] 47)) 24 #[.slice (some ⟨w2.heap.size, 0, none⟩) 3 3, .int .i64 1, .int .i64 1]; simpa using this)
  have HB := hide (Below.step HB2.out hb3)
  clear hb3 d10 d11 d12 d13 d14 d15 d16 d20 d21 d22 d23 d24 d25 d26 HA1 HS1 HL1 HV1 HA2 HS2 HL2 HV2 HB2 HBp
  generalize World.alloc (World.alloc w2 _) _ = w3 at *
  generalize w2.heap.size + 1 = gp at *
  generalize w2.heap.size = g at *
  have p0 := HP.out.cell 0
  have p1 := HP.out.cell 1
  have p2 := HP.out.cell 2
  simp at p0 p1 p2
  go_wp2_with fail
  have HW := hide (plW_lit HNd.out (x := 0) (by omega))
  have hb := below1 w3 (.cells #[.int .i32 0] 21)
  replace HNd := hide (HNd.out.at_world hb)
  replace HP := hide (HP.out.below hb HP.out.lt)
  replace HB := hide (Below.step HB.out hb)
  clear hb p0 p1 p2
  generalize World.alloc w3 _ = w4 at *
  generalize w3.heap.size = gq3 at *
  refine (lvStep HW.out step11 (b := true) (by decide)).mono ?_
  rintro e w5 ⟨rfl, hb⟩
  replace HNd := hide (HNd.out.at_world hb)
  replace HP := hide (HP.out.below hb HP.out.lt)
  replace HB := hide (Below.step HB.out hb)
  clear hb
  clear HW
  have p0 := HP.out.cell 0
  have p1 := HP.out.cell 1
  have p2 := HP.out.cell 2
  simp at p0 p1 p2
  go_wp2_with fail
  have HW := hide (plW_lit HNd.out (x := 0) (by omega))
  have hb := below1 w5 (.cells #[.int .i32 0] 21)
  replace HNd := hide (HNd.out.at_world hb)
  replace HP := hide (HP.out.below hb HP.out.lt)
  replace HB := hide (Below.step HB.out hb)
  clear hb p0 p1 p2
  generalize World.alloc w5 _ = w6 at *
  generalize w5.heap.size = gq5 at *
  refine (lvStep HW.out step21 (b := false) (by decide)).mono ?_
  rintro e w7 ⟨rfl, hb⟩
  replace HNd := hide (HNd.out.at_world hb)
  replace HP := hide (HP.out.below hb HP.out.lt)
  replace HB := hide (Below.step HB.out hb)
  clear hb
  clear HW
  have p0 := HP.out.cell 0
  have p1 := HP.out.cell 1
  have p2 := HP.out.cell 2
  simp at p0 p1 p2
  go_wp2_with fail
  have HW := hide (plW_lit HNd.out (x := 0) (by omega))
  have hb := below1 w7 (.cells #[.int .i32 0] 21)
  replace HNd := hide (HNd.out.at_world hb)
  replace HP := hide (HP.out.below hb HP.out.lt)
  replace HB := hide (Below.step HB.out hb)
  clear hb p0 p1 p2
  generalize World.alloc w7 _ = w8 at *
  generalize w7.heap.size = gq7 at *
  refine (lvDown HW.out).mono ?_
  rintro e w9 ⟨rfl, hb⟩
  replace HNd := hide (HNd.out.at_world hb)
  replace HP := hide (HP.out.below hb HP.out.lt)
  replace HB := hide (Below.step HB.out hb)
  clear hb
  clear HW
  go_wp2_with fail
  refine (lvNone _).mono ?_
  rintro e w10 ⟨rfl, hb⟩
  replace HNd := hide (HNd.out.at_world hb)
  replace HP := hide (HP.out.below hb HP.out.lt)
  replace HB := hide (Below.step HB.out hb)
  clear hb
  have p0 := HP.out.cell 0
  have p1 := HP.out.cell 1
  have p2 := HP.out.cell 2
  simp at p0 p1 p2
  go_wp2_with fail
  have HW := hide (plW_lit HNd.out (x := 0) (by omega))
  have hb := below1 w10 (.cells #[.int .i32 0] 21)
  replace HNd := hide (HNd.out.at_world hb)
  replace HP := hide (HP.out.below hb HP.out.lt)
  replace HB := hide (Below.step HB.out hb)
  clear hb p0 p1 p2
  generalize World.alloc w10 _ = w11 at *
  generalize w10.heap.size = gq10 at *
  refine (lvLevel HW.out).mono ?_
  rintro e w12 ⟨A9, c9, rfl, q1, q2, hr, hb⟩
  replace HNd := hide (HNd.out.at_world hb)
  replace HP := hide (HP.out.below hb HP.out.lt)
  replace HB := hide (Below.step HB.out hb)
  clear hb
  have HR := hide hr
  clear hr HW
  go_wp2_with fail
  have hb := below1 w12 (.cells #[.int .i64 1, .int .i64 2] 3)
  have HL := hide ((flatInt .i64).blk (l := [1, 2]) (Blk.new w12 3 #[.int .i64 1, .int .i64 2]) rfl)
  replace HR := hide (HR.out.at_world hb)
  replace HNd := hide (HNd.out.at_world hb)
  replace HP := hide (HP.out.below hb HP.out.lt)
  replace HB := hide (Below.step HB.out hb)
  clear hb
  generalize World.alloc w12 _ = w13 at *
  generalize w12.heap.size = gl at *
  refine (sameInts_any A9 (some ⟨gl, 0, none⟩) 2 c9 2 2 [1, 2] [1, 2] _ HR.out rfl q1 q2 HL.out rfl (by omega) (by omega)).mono ?_
  rintro e w14 ⟨rfl, hw⟩
  have hb : Below w13.heap.size w13 w14 := hw.below
  replace HNd := hide (HNd.out.at_world hb)
  replace HP := hide (HP.out.below hb HP.out.lt)
  replace HB := hide (Below.step HB.out hb)
  clear hb hw HR HL
  have p0 := HP.out.cell 0
  have p1 := HP.out.cell 1
  have p2 := HP.out.cell 2
  simp at p0 p1 p2
  go_wp2_with fail
  have HW := hide (plW_lit HNd.out (x := 0) (by omega))
  have hb := below1 w14 (.cells #[.int .i32 0] 21)
  replace HNd := hide (HNd.out.at_world hb)
  replace HP := hide (HP.out.below hb HP.out.lt)
  replace HB := hide (Below.step HB.out hb)
  clear hb p0 p1 p2
  generalize World.alloc w14 _ = w15 at *
  generalize w14.heap.size = gq14 at *
  refine (lvSpot HW.out spot2).mono ?_
  rintro e w16 ⟨rfl, hb⟩
  replace HNd := hide (HNd.out.at_world hb)
  replace HP := hide (HP.out.below hb HP.out.lt)
  replace HB := hide (Below.step HB.out hb)
  clear hb
  clear HW
  have p0 := HP.out.cell 0
  have p1 := HP.out.cell 1
  have p2 := HP.out.cell 2
  simp at p0 p1 p2
  go_wp2_with fail
  have HW := hide (plW_lit HNd.out (x := 2) (by omega))
  have hb := below1 w16 (.cells #[.int .i32 2] 21)
  replace HNd := hide (HNd.out.at_world hb)
  replace HP := hide (HP.out.below hb HP.out.lt)
  replace HB := hide (Below.step HB.out hb)
  clear hb p0 p1 p2
  generalize World.alloc w16 _ = w17 at *
  generalize w16.heap.size = gq16 at *
  refine (lvSpot HW.out spot9).mono ?_
  rintro e w18 ⟨rfl, hb⟩
  replace HNd := hide (HNd.out.at_world hb)
  replace HP := hide (HP.out.below hb HP.out.lt)
  replace HB := hide (Below.step HB.out hb)
  clear hb
  clear HW
  go_wp2
  go_ret
  exact ⟨by first | rfl | simp, HB.out⟩
end Go.Proofs.Ytphbdffgeeicaad
