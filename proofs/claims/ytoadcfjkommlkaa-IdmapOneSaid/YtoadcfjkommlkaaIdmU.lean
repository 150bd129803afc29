/-
  lives of the law's package. No condition.
-/
import Derived.Test.YtoadcfjkommlkaaIdmT
import Derived.Test.YtoadcfjkommlkaaTk2
namespace Go.Proofs.Ytoadcfjkommlkaa
set_option linter.unusedSimpArgs false
set_option linter.unusedVariables false
open Go.RowKit

abbrev L9 : List NamedV := [(9, (3, 1))]
abbrev L8 : List NamedV := [(8, (3, 1))]
abbrev L28 : List NamedV := [(2, (3, 1)), (8, (3, 1))]
theorem size_no (n : Nat) (hn : 0 < n) (l : List NamedV) : sizeR n l (n : Int) = 0 := by
  unfold sizeR
  rw [List.filter_eq_nil_iff.2 fun p hp => by have := shardF_lt hn p.1; simp; omega]
  rfl
theorem size_9 {s : Nat} (h : shardF 4 9 = s) : (sizeR 4 L9 (s : Int) : Int) = 1 := by subst h; simp [sizeR]
theorem twoN {w : World} {g : Nat} (h : Blk w g 56 #[.int .u64 2, .int .i64 3, .int .i64 1, .int .u64 8, .int .i64 3, .int .i64 1]) : Rd SNm w w.heap.size (some ⟨g, 0, none⟩) L28 := flatN.blk h rfl
set_option maxHeartbeats 8000000 in
set_option maxRecDepth 100000 in
theorem lives_any (w : World) : Calls Try.prog 5 #[] w fun e w' => e = .returned (.bool true) ∧ Below w.heap.size w w' := by
  have he := run_eql_ref 3 3 1 1 (r := true) rfl
  have HZ4 := hide (show (sizeR 4 L28 (4 : Int) : Int) = 0 from congrArg Nat.cast (size_no 4 (by omega) L28))
  obtain ⟨s9, hs9⟩ : ∃ s, shardF 4 9 = s := ⟨_, rfl⟩
  have H9 := hide hs9
  clear hs9
  go_enter Try.func5, Try.ntmps5
  go_upto_region 5 with (first
    | (go_at_call 6; with_reducible refine Calls.mono (kNew 4 (by omega) (by omega) _) ?_; rintro e w1 ⟨M, g, hs, rfl, hk, hn, hb⟩; have HL := hide (show LI w M g hs [] 0 [] w1 from ⟨hk, hn, fun p hp => by simp at hp, hb⟩); clear hk hn hb)
    | (go_at_call 6; with_reducible refine Calls.mono (new_bad 65 (by omega) _) ?_; rintro e _ ⟨rfl, rfl⟩))
  go_upto_region 6 with fail
  replace HL := hide (HL.out.box 3 1)
  generalize World.alloc w1 _ = w2 at *
  generalize w1.heap.size = gr at *
  obtain ⟨z0, z1⟩ := HL.out.cells (q := gr) (a := 3) (b := 1) (by simp)
  go_upto_region 7 with (first
    | (go_at_call 9; with_reducible refine Calls.mono (liPut HL.out 9 3 1 (by decide) (by omega) (L' := L9) (ver' := 1) (b := true) (by kernel_rfl) (by kernel_rfl)) ?_; rintro e w3 ⟨rfl, hv⟩; have HL2 := hide hv; clear hv HL)
    | (go_at_call 9; with_reducible refine Calls.mono (liPut HL2.out 9 0 0 (by decide) (by omega) (L' := L9) (ver' := 1) (b := false) (by kernel_rfl) (by kernel_rfl)) ?_; rintro e w4 ⟨rfl, hv⟩; have HL := hide hv; clear hv HL2))
  clear z0 z1
  go_upto_region 8 with (go_at_call 12; refine Calls.mono (liGet HL.out 9 (by decide) (b := true) (r1 := 3) (r2 := 1) (by kernel_rfl) (by kernel_rfl)) ?_; rintro e w5 ⟨rfl, hv⟩; have HL2 := hide (hv); clear hv)
  clear HL
  have HL := HL2
  clear HL2
  replace HL := hide (HL.out.box 3 1)
  generalize World.alloc w5 _ = w6 at *
  generalize w5.heap.size = gx at *
  go_upto_region 9 with (first
    | (go_at_call 16; refine Calls.mono (liShard HL.out 9 H9.out) ?_; rintro e w7 ⟨rfl, hv⟩; have HL2 := hide hv; clear hv HL)
    | (go_at_call 18; refine Calls.mono (liSize HL2.out _ (size_9 H9.out)) ?_; rintro e _ ⟨rfl, rfl⟩))
  have HL := HL2
  clear HL2
  go_upto_region 10 with (go_at_call 11; refine Calls.mono (liDrop HL.out 9 (by decide) (by omega) (L' := []) (ver' := 2) (b := true) (r1 := 3) (r2 := 1) (by kernel_rfl) (by kernel_rfl) (by kernel_rfl)) ?_; rintro e w8 ⟨rfl, hv⟩; have HL2 := hide (hv); clear hv)
  clear HL
  have HL := HL2
  clear HL2
  replace HL := hide (HL.out.box 3 1)
  generalize World.alloc w8 _ = w9 at *
  generalize w8.heap.size = gy at *
  go_upto_region 11 with (go_at_call 11; refine Calls.mono (liDrop HL.out 9 (by decide) (by omega) (L' := []) (ver' := 2) (b := false) (r1 := 0) (r2 := 0) (by kernel_rfl) (by kernel_rfl) (by kernel_rfl)) ?_; rintro e w10 ⟨rfl, hv⟩; have HL2 := hide (hv); clear hv)
  clear HL
  have HL := HL2
  clear HL2
  replace HL := hide (HL.out.box 0 0)
  generalize World.alloc w10 _ = w11 at *
  generalize w10.heap.size = gz at *
  have HS11 := hide (show (fun W => ∃ L ver, (L, ver) ∈ [(([] : List NamedV), (2 : Int)), (L8, 3), (L28, 4)] ∧ LI w M g hs L ver [(gz, 0, 0), (gy, 3, 1), (gx, 3, 1), (gr, 3, 1)] W) w11.drew from ⟨[], 2, by simp, HL.out.step (Below.refl _ _).drew⟩)
  replace HL := hide (HL.out.step (Below.refl _ _).drew)
  refine startO (S := fun W => ∃ L ver, (L, ver) ∈ [(([] : List NamedV), (2 : Int)), (L8, 3), (L28, 4)] ∧ LI w M g hs L ver [(gz, 0, 0), (gy, 3, 1), (gx, 3, 1), (gr, 3, 1)] W) 8 (by as_aux_lemma => kernel_rfl) (by as_aux_lemma => kernel_rfl) HS11.out (fun hHeld => ?_)
  clear HS11
  generalize World.drew _ = wl1 at *
  refine putsO [0, 3] [3, 0] [(59, .pointer (some ⟨M, 0, none⟩)), (56, .pointer (some ⟨M, 0, none⟩))] 2 rfl [56, 59] (by as_aux_lemma => kernel_rfl) (by as_aux_lemma => kernel_rfl) rfl (fun _ _ _ _ _ h => h) hHeld ?_
  refine takeO 1 57 (.load 35 (.const (.pointer (some ⟨gr, 0, none⟩)))) 35 (.agg #[.int .i64 3, .int .i64 1]) (by as_aux_lemma => kernel_rfl) (by as_aux_lemma => kernel_rfl) (by as_aux_lemma => kernel_rfl) (fun _ _ _ _ _ h => h) (fun W hS => by obtain ⟨L0, v0, _, hS⟩ := hS; obtain ⟨z0, z1⟩ := hS.cells (q := gr) (a := 3) (b := 1) (by simp); clear hS hHeld; unfold cEv opC; as_aux_lemma => first | (go_simp; done) | (go_simp <;> rfl)) hHeld ?_
  refine takeO 4 60 (.load 35 (.const (.pointer (some ⟨gr, 0, none⟩)))) 35 (.agg #[.int .i64 3, .int .i64 1]) (by as_aux_lemma => kernel_rfl) (by as_aux_lemma => kernel_rfl) (by as_aux_lemma => kernel_rfl) (fun _ _ _ _ _ h => h) (fun W hS => by obtain ⟨L0, v0, _, hS⟩ := hS; obtain ⟨z0, z1⟩ := hS.cells (q := gr) (a := 3) (b := 1) (by simp); clear hS hHeld; unfold cEv opC; as_aux_lemma => first | (go_simp; done) | (go_simp <;> rfl)) hHeld ?_
  refine readyO [2] (by as_aux_lemma => kernel_rfl) (by simp) ?_
  refine callO 2 58 (.call { callee := .value (.func 9), args := #[.const (.pointer (some ⟨M, 0, none⟩)), .const (.int .u64 8), .const (.agg #[.int .i64 3, .int .i64 1])], argTypes := #[24, 33, 35] }) 4 9 #[.pointer (some ⟨M, 0, none⟩), .int .u64 8, .agg #[.int .i64 3, .int .i64 1]] (by as_aux_lemma => kernel_rfl) (by as_aux_lemma => kernel_rfl) (by unfold cEv opC; go_simp) ?_ AllReadyH.nil
  refine (liPut HL.out 8 3 1 (by decide) (by omega) (L' := L8) (ver' := 3) (b := true) (by kernel_rfl) (by kernel_rfl)).mono ?_
  rintro e w12 ⟨rfl, hv⟩
  clear HL
  have HL := hide hv
  clear hv
  refine ⟨_, rfl, ⟨L8, 3, by simp, HL.out⟩, fun hHeld2 => ?_⟩
  clear hHeld
  have hHeld := hHeld2
  clear hHeld2
  refine readyO [5] (by as_aux_lemma => kernel_rfl) (by simp) ?_
  refine callO 5 61 (.call { callee := .value (.func 9), args := #[.const (.pointer (some ⟨M, 0, none⟩)), .const (.int .u64 2), .const (.agg #[.int .i64 3, .int .i64 1])], argTypes := #[24, 33, 35] }) 4 9 #[.pointer (some ⟨M, 0, none⟩), .int .u64 2, .agg #[.int .i64 3, .int .i64 1]] (by as_aux_lemma => kernel_rfl) (by as_aux_lemma => kernel_rfl) (by unfold cEv opC; go_simp) ?_ AllReadyH.nil
  refine (liPut HL.out 2 3 1 (by decide) (by omega) (L' := L28) (ver' := 4) (b := true) (by kernel_rfl) (by kernel_rfl)).mono ?_
  rintro e w13 ⟨rfl, hv⟩
  clear HL
  have HL := hide hv
  clear hv
  refine ⟨_, rfl, ⟨L28, 4, by simp, HL.out⟩, fun hHeld2 => ?_⟩
  clear hHeld
  have hHeld := hHeld2
  clear hHeld2
  refine putsO [6, 7] [7, 6] [(16, .bool true), (15, .bool true)] 2 rfl [15, 16] (by as_aux_lemma => kernel_rfl) (by as_aux_lemma => kernel_rfl) rfl (fun _ _ _ _ _ h => h) hHeld ?_
  refine doneO [(15, .bool true), (0, .bool true), (39, .pointer (some ⟨M, 0, none⟩)), (0, .agg #[.int .i64 3, .int .i64 1]), (0, .bool true), (0, .pointer (some ⟨M, 0, none⟩)), (0, .agg #[.int .i64 3, .int .i64 1]), (0, .bool true)] (by as_aux_lemma => kernel_rfl) (by as_aux_lemma => kernel_rfl) ?_
  simp only [fillG]
  clear hHeld
  go_upto_region 14 with (go_at_call 12; refine (getNil 1 _).mono ?_; rintro e w14 ⟨rfl, hv⟩; have HL2 := hide (HL.out.step hv); clear hv)
  clear HL
  have HL := HL2
  clear HL2
  replace HL := hide (HL.out.box 0 0)
  generalize World.alloc w14 _ = w15 at *
  generalize w14.heap.size = gn at *
  refine startO (S := LI w M g hs L28 4 [(gn, 0, 0), (gz, 0, 0), (gy, 3, 1), (gx, 3, 1), (gr, 3, 1)]) 97 (by as_aux_lemma => kernel_rfl) (by as_aux_lemma => kernel_rfl) (HL.out.step (Below.refl _ _).drew) (fun hHeld => ?_)
  clear HL
  generalize World.drew _ = wl2 at *
  refine putsO [0] [0] [(67, .int .i64 0)] 1 rfl [67] (by as_aux_lemma => kernel_rfl) (by as_aux_lemma => kernel_rfl) rfl (fun _ _ _ _ _ h => h) hHeld ?_
  refine takeO 1 68 (.binOp .eql 25 (.const (.int .i64 0)) (.const (.int .i64 0)) 25) 4 (.bool true) (by as_aux_lemma => kernel_rfl) (by as_aux_lemma => kernel_rfl) (by as_aux_lemma => kernel_rfl) (fun _ _ _ _ _ h => h) (fun W hS => by clear hS hHeld; unfold cEv opC; as_aux_lemma => first | (go_simp; done) | (go_simp <;> rfl)) hHeld ?_
  refine putsO [2, 3] [3, 2] [(70, .int .i64 6), (69, .bool true)] 2 rfl [69, 70] (by as_aux_lemma => kernel_rfl) (by as_aux_lemma => kernel_rfl) rfl (fun _ _ _ _ _ h => h) hHeld ?_
  refine takeO 4 71 (.binOp .eql 25 (.const (.int .i64 6)) (.const (.int .i64 6)) 25) 4 (.bool true) (by as_aux_lemma => kernel_rfl) (by as_aux_lemma => kernel_rfl) (by as_aux_lemma => kernel_rfl) (fun _ _ _ _ _ h => h) (fun W hS => by clear hS hHeld; unfold cEv opC; as_aux_lemma => first | (go_simp; done) | (go_simp <;> rfl)) hHeld ?_
  refine putsO [5, 6, 7, 8, 9, 10, 11, 12, 13] [13, 12, 11, 10, 9, 8, 7, 6, 5] [(80, .bool true), (79, .bool true), (78, .bool true), (77, .bool false), (76, .bool true), (75, .bool true), (74, .bool true), (73, .bool true), (72, .bool true)] 9 rfl [72, 73, 74, 75, 76, 77, 78, 79, 80] (by as_aux_lemma => kernel_rfl) (by as_aux_lemma => kernel_rfl) rfl (fun _ _ _ _ _ h => h) hHeld ?_
  refine takeO 14 81 (.load 35 (.const (.pointer (some ⟨gx, 0, none⟩)))) 35 (.agg #[.int .i64 3, .int .i64 1]) (by as_aux_lemma => kernel_rfl) (by as_aux_lemma => kernel_rfl) (by as_aux_lemma => kernel_rfl) (fun _ _ _ _ _ h => h) (fun W hS => by obtain ⟨z0, z1⟩ := hS.cells (q := gx) (a := 3) (b := 1) (by simp); clear hS hHeld; unfold cEv opC; as_aux_lemma => first | (go_simp; done) | (go_simp <;> rfl)) hHeld ?_
  refine takeO 15 82 (.load 35 (.const (.pointer (some ⟨gr, 0, none⟩)))) 35 (.agg #[.int .i64 3, .int .i64 1]) (by as_aux_lemma => kernel_rfl) (by as_aux_lemma => kernel_rfl) (by as_aux_lemma => kernel_rfl) (fun _ _ _ _ _ h => h) (fun W hS => by obtain ⟨z0, z1⟩ := hS.cells (q := gr) (a := 3) (b := 1) (by simp); clear hS hHeld; unfold cEv opC; as_aux_lemma => first | (go_simp; done) | (go_simp <;> rfl)) hHeld ?_
  refine takeO 16 83 (.binOp .eql 35 (.const (.agg #[.int .i64 3, .int .i64 1])) (.const (.agg #[.int .i64 3, .int .i64 1])) 35) 4 (.bool true) (by as_aux_lemma => kernel_rfl) (by as_aux_lemma => kernel_rfl) (by as_aux_lemma => kernel_rfl) (fun _ _ _ _ _ h => h) (fun W hS => by clear hS hHeld; unfold cEv opC; as_aux_lemma => first | (go_simp; done) | (go_simp <;> rfl)) hHeld ?_
  refine putsO [17, 18, 19, 20, 21, 22] [22, 21, 20, 19, 18, 17] [(89, .int .i64 1), (88, .bool true), (87, .bool true), (86, .bool true), (85, .bool true), (84, .bool true)] 6 rfl [84, 85, 86, 87, 88, 89] (by as_aux_lemma => kernel_rfl) (by as_aux_lemma => kernel_rfl) rfl (fun _ _ _ _ _ h => h) hHeld ?_
  refine takeO 23 90 (.binOp .eql 3 (.const (.int .i64 1)) (.const (.int .i64 1)) 3) 4 (.bool true) (by as_aux_lemma => kernel_rfl) (by as_aux_lemma => kernel_rfl) (by as_aux_lemma => kernel_rfl) (fun _ _ _ _ _ h => h) (fun W hS => by clear hS hHeld; unfold cEv opC; as_aux_lemma => first | (go_simp; done) | (go_simp <;> rfl)) hHeld ?_
  refine putsO [24, 25] [25, 24] [(92, .bool true), (91, .bool true)] 2 rfl [91, 92] (by as_aux_lemma => kernel_rfl) (by as_aux_lemma => kernel_rfl) rfl (fun _ _ _ _ _ h => h) hHeld ?_
  refine takeO 26 93 (.load 35 (.const (.pointer (some ⟨gy, 0, none⟩)))) 35 (.agg #[.int .i64 3, .int .i64 1]) (by as_aux_lemma => kernel_rfl) (by as_aux_lemma => kernel_rfl) (by as_aux_lemma => kernel_rfl) (fun _ _ _ _ _ h => h) (fun W hS => by obtain ⟨z0, z1⟩ := hS.cells (q := gy) (a := 3) (b := 1) (by simp); clear hS hHeld; unfold cEv opC; as_aux_lemma => first | (go_simp; done) | (go_simp <;> rfl)) hHeld ?_
  refine takeO 27 94 (.load 35 (.const (.pointer (some ⟨gr, 0, none⟩)))) 35 (.agg #[.int .i64 3, .int .i64 1]) (by as_aux_lemma => kernel_rfl) (by as_aux_lemma => kernel_rfl) (by as_aux_lemma => kernel_rfl) (fun _ _ _ _ _ h => h) (fun W hS => by obtain ⟨z0, z1⟩ := hS.cells (q := gr) (a := 3) (b := 1) (by simp); clear hS hHeld; unfold cEv opC; as_aux_lemma => first | (go_simp; done) | (go_simp <;> rfl)) hHeld ?_
  refine takeO 28 95 (.binOp .eql 35 (.const (.agg #[.int .i64 3, .int .i64 1])) (.const (.agg #[.int .i64 3, .int .i64 1])) 35) 4 (.bool true) (by as_aux_lemma => kernel_rfl) (by as_aux_lemma => kernel_rfl) (by as_aux_lemma => kernel_rfl) (fun _ _ _ _ _ h => h) (fun W hS => by clear hS hHeld; unfold cEv opC; as_aux_lemma => first | (go_simp; done) | (go_simp <;> rfl)) hHeld ?_
  refine putsO [29, 30, 31, 32, 33, 34, 35, 36, 37, 38] [38, 37, 36, 35, 34, 33, 32, 31, 30, 29] [(105, .pointer (some ⟨M, 0, none⟩)), (104, .bool true), (103, .bool true), (102, .bool true), (101, .bool false), (100, .bool true), (99, .bool true), (98, .bool true), (97, .bool true), (96, .bool true)] 10 rfl [96, 97, 98, 99, 100, 101, 102, 103, 104, 105] (by as_aux_lemma => kernel_rfl) (by as_aux_lemma => kernel_rfl) rfl (fun _ _ _ _ _ h => h) hHeld ?_
  refine readyO [39] (by as_aux_lemma => kernel_rfl) (by simp) ?_
  refine callO 39 106 (.call { callee := .value (.func 15), args := #[.const (.pointer (some ⟨M, 0, none⟩))], argTypes := #[24] }) 3 15 #[.pointer (some ⟨M, 0, none⟩)] (by as_aux_lemma => kernel_rfl) (by as_aux_lemma => kernel_rfl) (by unfold cEv opC; go_simp) ?_ AllReadyH.nil
  refine (kVersion hHeld.k).mono ?_
  rintro e _ ⟨rfl, rfl⟩
  refine ⟨_, rfl, hHeld, fun hHeld2 => ?_⟩
  clear hHeld
  have hHeld := hHeld2
  clear hHeld2
  refine takeO 40 107 (.binOp .eql 3 (.const (.int .i64 4)) (.const (.int .i64 4)) 3) 4 (.bool true) (by as_aux_lemma => kernel_rfl) (by as_aux_lemma => kernel_rfl) (by as_aux_lemma => kernel_rfl) (fun _ _ _ _ _ h => h) (fun W hS => by clear hS hHeld; unfold cEv opC; as_aux_lemma => first | (go_simp; done) | (go_simp <;> rfl)) hHeld ?_
  refine putsO [41, 42, 43, 44, 45, 46, 47, 48, 49] [49, 48, 47, 46, 45, 44, 43, 42, 41] [(116, .pointer (some ⟨M, 0, none⟩)), (115, .bool true), (114, .bool true), (113, .bool true), (112, .bool true), (111, .bool true), (110, .bool true), (109, .bool true), (108, .bool true)] 9 rfl [108, 109, 110, 111, 112, 113, 114, 115, 116] (by as_aux_lemma => kernel_rfl) (by as_aux_lemma => kernel_rfl) rfl (fun _ _ _ _ _ h => h) hHeld ?_
  refine readyO [50] (by as_aux_lemma => kernel_rfl) (by simp) ?_
  refine callO 50 117 (.call { callee := .value (.func 14), args := #[.const (.pointer (some ⟨M, 0, none⟩))], argTypes := #[24] }) 3 14 #[.pointer (some ⟨M, 0, none⟩)] (by as_aux_lemma => kernel_rfl) (by as_aux_lemma => kernel_rfl) (by unfold cEv opC; go_simp) ?_ AllReadyH.nil
  refine (liLen hHeld (z := 2) rfl (by decide)).mono ?_
  rintro e _ ⟨rfl, rfl⟩
  refine ⟨_, rfl, hHeld, fun hHeld2 => ?_⟩
  clear hHeld
  have hHeld := hHeld2
  clear hHeld2
  refine takeO 51 118 (.binOp .eql 3 (.const (.int .i64 2)) (.const (.int .i64 2)) 3) 4 (.bool true) (by as_aux_lemma => kernel_rfl) (by as_aux_lemma => kernel_rfl) (by as_aux_lemma => kernel_rfl) (fun _ _ _ _ _ h => h) (fun W hS => by clear hS hHeld; unfold cEv opC; as_aux_lemma => first | (go_simp; done) | (go_simp <;> rfl)) hHeld ?_
  refine putsO [52, 53, 54] [54, 53, 52] [(121, .pointer (some ⟨M, 0, none⟩)), (120, .bool true), (119, .bool true)] 3 rfl [119, 120, 121] (by as_aux_lemma => kernel_rfl) (by as_aux_lemma => kernel_rfl) rfl (fun _ _ _ _ _ h => h) hHeld ?_
  refine takeO 56 123 (.load 35 (.const (.pointer (some ⟨gr, 0, none⟩)))) 35 (.agg #[.int .i64 3, .int .i64 1]) (by as_aux_lemma => kernel_rfl) (by as_aux_lemma => kernel_rfl) (by as_aux_lemma => kernel_rfl) (fun _ _ _ _ _ h => h) (fun W hS => by obtain ⟨z0, z1⟩ := hS.cells (q := gr) (a := 3) (b := 1) (by simp); clear hS hHeld; unfold cEv opC; as_aux_lemma => first | (go_simp; done) | (go_simp <;> rfl)) hHeld ?_
  refine takeO 58 125 (.load 35 (.const (.pointer (some ⟨gr, 0, none⟩)))) 35 (.agg #[.int .i64 3, .int .i64 1]) (by as_aux_lemma => kernel_rfl) (by as_aux_lemma => kernel_rfl) (by as_aux_lemma => kernel_rfl) (fun _ _ _ _ _ h => h) (fun W hS => by obtain ⟨z0, z1⟩ := hS.cells (q := gr) (a := 3) (b := 1) (by simp); clear hS hHeld; unfold cEv opC; as_aux_lemma => first | (go_simp; done) | (go_simp <;> rfl)) hHeld ?_
  refine takeO 57 124 (.build 56 #[(0, .const (.int .u64 2)), (1, .const (.agg #[.int .i64 3, .int .i64 1]))]) 56 (.agg #[.int .u64 2, .int .i64 3, .int .i64 1]) (by as_aux_lemma => kernel_rfl) (by as_aux_lemma => kernel_rfl) (by as_aux_lemma => kernel_rfl) (fun _ _ _ _ _ h => h) (fun W hS => by clear hS hHeld; unfold cEv opC; as_aux_lemma => first | (go_simp; done) | (go_simp <;> rfl)) hHeld ?_
  refine takeO 59 126 (.build 56 #[(0, .const (.int .u64 8)), (1, .const (.agg #[.int .i64 3, .int .i64 1]))]) 56 (.agg #[.int .u64 8, .int .i64 3, .int .i64 1]) (by as_aux_lemma => kernel_rfl) (by as_aux_lemma => kernel_rfl) (by as_aux_lemma => kernel_rfl) (fun _ _ _ _ _ h => h) (fun W hS => by clear hS hHeld; unfold cEv opC; as_aux_lemma => first | (go_simp; done) | (go_simp <;> rfl)) hHeld ?_
  refine readyO [55, 60] (by as_aux_lemma => kernel_rfl) (by simp) ?_
  refine callO 55 122 (.call { callee := .value (.func 21), args := #[.const (.pointer (some ⟨M, 0, none⟩))], argTypes := #[24] }) 28 21 #[.pointer (some ⟨M, 0, none⟩)] (by as_aux_lemma => kernel_rfl) (by as_aux_lemma => kernel_rfl) (by unfold cEv opC; go_simp) ?_ ?_
  · skip
    refine (liList hHeld (k := 2) rfl (by omega)).mono ?_
    rintro e w16 ⟨AL, cL, rfl, kl1, kl2, hr, hbl⟩
    have HRL := hide hr
    clear hr
    refine ⟨_, rfl, (hHeld.step hbl), fun hHeld2 => ?_⟩
    clear hHeld
    have hHeld := hHeld2
    clear hHeld2
    clear hbl
    refine readyO [60] (by as_aux_lemma => kernel_rfl) (by simp) ?_
    refine memO 60 127 (.buildSlice 28 2 #[(0, .const (.agg #[.int .u64 2, .int .i64 3, .int .i64 1])), (1, .const (.agg #[.int .u64 8, .int .i64 3, .int .i64 1]))]) 28 (.slice (some ⟨w16.heap.size, 0, none⟩) 2 2) (w16.alloc (.cells #[.int .u64 2, .int .i64 3, .int .i64 1, .int .u64 8, .int .i64 3, .int .i64 1] 56)) (by as_aux_lemma => kernel_rfl) (by as_aux_lemma => kernel_rfl) (by unfold cEv opC; go_simp) (hHeld.step (below1 _ _)) (fun hHeld2 => ?_) AllReadyH.nil
    clear hHeld
    have hHeld := hHeld2
    clear hHeld2
    replace HRL := hide (HRL.out.at_world (below1 w16 (.cells #[.int .u64 2, .int .i64 3, .int .i64 1, .int .u64 8, .int .i64 3, .int .i64 1] 56)))
    have HTL := hide (twoN (Blk.new w16 56 #[.int .u64 2, .int .i64 3, .int .i64 1, .int .u64 8, .int .i64 3, .int .i64 1]))
    generalize World.alloc w16 _ = w17 at *
    generalize w16.heap.size = gl at *
    refine readyO [61] (by as_aux_lemma => kernel_rfl) (by simp) ?_
    refine callO 61 128 (.call { callee := .value (.func 20), args := #[.const (.slice AL 2 cL), .const (.slice (some ⟨gl, 0, none⟩) 2 2)], argTypes := #[28, 28] }) 4 20 #[.slice AL 2 cL, .slice (some ⟨gl, 0, none⟩) 2 2] (by as_aux_lemma => kernel_rfl) (by as_aux_lemma => kernel_rfl) (by unfold cEv opC; go_simp) ?_ AllReadyH.nil
    refine (refSame_any AL (some ⟨gl, 0, none⟩) 2 cL 2 2 L28 L28 _ HRL.out rfl kl1 kl2 HTL.out rfl (by omega) (by omega)).mono ?_
    rintro e w18 ⟨hev, hdw⟩
    have hev : e = .returned (.bool true) := hev.trans (by simp)
    subst hev
    refine ⟨_, rfl, (hHeld.step hdw.below), fun hHeld2 => ?_⟩
    clear hHeld
    have hHeld := hHeld2
    clear hHeld2
    clear hdw HRL HTL
    refine putsO [62, 63, 64, 65, 66, 67, 68] [68, 67, 66, 65, 64, 63, 62] [(135, .pointer none), (134, .bool true), (133, .bool true), (132, .bool true), (131, .bool false), (130, .bool true), (129, .bool true)] 7 rfl [129, 130, 131, 132, 133, 134, 135] (by as_aux_lemma => kernel_rfl) (by as_aux_lemma => kernel_rfl) rfl (fun _ _ _ _ _ h => h) hHeld ?_
    refine takeO 69 136 (.load 35 (.const (.pointer (some ⟨gr, 0, none⟩)))) 35 (.agg #[.int .i64 3, .int .i64 1]) (by as_aux_lemma => kernel_rfl) (by as_aux_lemma => kernel_rfl) (by as_aux_lemma => kernel_rfl) (fun _ _ _ _ _ h => h) (fun W hS => by obtain ⟨z0, z1⟩ := hS.cells (q := gr) (a := 3) (b := 1) (by simp); clear hS hHeld; unfold cEv opC; as_aux_lemma => first | (go_simp; done) | (go_simp <;> rfl)) hHeld ?_
    refine readyO [70] (by as_aux_lemma => kernel_rfl) (by simp) ?_
    refine callO 70 137 (.call { callee := .value (.func 9), args := #[.const (.pointer none), .const (.int .u64 1), .const (.agg #[.int .i64 3, .int .i64 1])], argTypes := #[24, 33, 35] }) 4 9 #[.pointer none, .int .u64 1, .agg #[.int .i64 3, .int .i64 1]] (by as_aux_lemma => kernel_rfl) (by as_aux_lemma => kernel_rfl) (by unfold cEv opC; go_simp) ?_ AllReadyH.nil
    refine (put_nil 1 3 1 _).mono ?_
    rintro e w19 ⟨rfl, hv⟩
    refine ⟨_, rfl, (hHeld.step hv), fun hHeld2 => ?_⟩
    clear hHeld
    have hHeld := hHeld2
    clear hHeld2
    clear hv
    refine putsO [71, 72, 73, 74, 76, 79, 82, 85] [85, 82, 79, 76, 74, 73, 72, 71] [(152, .pointer none), (149, .pointer none), (146, .pointer none), (143, .pointer none), (141, .pointer none), (140, .bool true), (139, .bool true), (138, .bool true)] 8 rfl [138, 139, 140, 141, 143, 146, 149, 152] (by as_aux_lemma => kernel_rfl) (by as_aux_lemma => kernel_rfl) rfl (fun _ _ _ _ _ h => h) hHeld ?_
    refine readyO [75] (by as_aux_lemma => kernel_rfl) (by simp) ?_
    refine callO 75 142 (.call { callee := .value (.func 14), args := #[.const (.pointer none)], argTypes := #[24] }) 3 14 #[.pointer none] (by as_aux_lemma => kernel_rfl) (by as_aux_lemma => kernel_rfl) (by unfold cEv opC; go_simp) ?_ AllReadyH.nil
    refine (len_nil _).mono ?_
    rintro e _ ⟨rfl, rfl⟩
    refine ⟨_, rfl, hHeld, fun hHeld2 => ?_⟩
    clear hHeld
    have hHeld := hHeld2
    clear hHeld2
    refine readyO [77] (by as_aux_lemma => kernel_rfl) (by simp) ?_
    refine callO 77 144 (.call { callee := .value (.func 15), args := #[.const (.pointer none)], argTypes := #[24] }) 3 15 #[.pointer none] (by as_aux_lemma => kernel_rfl) (by as_aux_lemma => kernel_rfl) (by unfold cEv opC; go_simp) ?_ AllReadyH.nil
    refine (version_nil _).mono ?_
    rintro e _ ⟨rfl, rfl⟩
    refine ⟨_, rfl, hHeld, fun hHeld2 => ?_⟩
    clear hHeld
    have hHeld := hHeld2
    clear hHeld2
    refine takeO 78 145 (.binOp .add 3 (.const (.int .i64 0)) (.const (.int .i64 0)) 3) 3 (.int .i64 0) (by as_aux_lemma => kernel_rfl) (by as_aux_lemma => kernel_rfl) (by as_aux_lemma => kernel_rfl) (fun _ _ _ _ _ h => h) (fun W hS => by clear hS hHeld; unfold cEv opC; as_aux_lemma => first | (go_simp; done) | (go_simp <;> rfl)) hHeld ?_
    refine readyO [80] (by as_aux_lemma => kernel_rfl) (by simp) ?_
    refine callO 80 147 (.call { callee := .value (.func 18), args := #[.const (.pointer none), .const (.int .i64 0)], argTypes := #[24, 3] }) 3 18 #[.pointer none, .int .i64 0] (by as_aux_lemma => kernel_rfl) (by as_aux_lemma => kernel_rfl) (by unfold cEv opC; go_simp) ?_ AllReadyH.nil
    refine (size_nil 0 _).mono ?_
    rintro e _ ⟨rfl, rfl⟩
    refine ⟨_, rfl, hHeld, fun hHeld2 => ?_⟩
    clear hHeld
    have hHeld := hHeld2
    clear hHeld2
    refine takeO 81 148 (.binOp .add 3 (.const (.int .i64 0)) (.const (.int .i64 0)) 3) 3 (.int .i64 0) (by as_aux_lemma => kernel_rfl) (by as_aux_lemma => kernel_rfl) (by as_aux_lemma => kernel_rfl) (fun _ _ _ _ _ h => h) (fun W hS => by clear hS hHeld; unfold cEv opC; as_aux_lemma => first | (go_simp; done) | (go_simp <;> rfl)) hHeld ?_
    refine readyO [83] (by as_aux_lemma => kernel_rfl) (by simp) ?_
    refine callO 83 150 (.call { callee := .value (.func 16), args := #[.const (.pointer none), .const (.int .u64 5)], argTypes := #[24, 33] }) 3 16 #[.pointer none, .int .u64 5] (by as_aux_lemma => kernel_rfl) (by as_aux_lemma => kernel_rfl) (by unfold cEv opC; go_simp) ?_ AllReadyH.nil
    refine (shard_nil 5 _).mono ?_
    rintro e _ ⟨rfl, rfl⟩
    refine ⟨_, rfl, hHeld, fun hHeld2 => ?_⟩
    clear hHeld
    have hHeld := hHeld2
    clear hHeld2
    refine takeO 84 151 (.binOp .add 3 (.const (.int .i64 0)) (.const (.int .i64 0)) 3) 3 (.int .i64 0) (by as_aux_lemma => kernel_rfl) (by as_aux_lemma => kernel_rfl) (by as_aux_lemma => kernel_rfl) (fun _ _ _ _ _ h => h) (fun W hS => by clear hS hHeld; unfold cEv opC; as_aux_lemma => first | (go_simp; done) | (go_simp <;> rfl)) hHeld ?_
    refine readyO [86] (by as_aux_lemma => kernel_rfl) (by simp) ?_
    refine callO 86 153 (.call { callee := .value (.func 21), args := #[.const (.pointer none)], argTypes := #[24] }) 28 21 #[.pointer none] (by as_aux_lemma => kernel_rfl) (by as_aux_lemma => kernel_rfl) (by unfold cEv opC; go_simp) ?_ AllReadyH.nil
    refine (list_nil _).mono ?_
    rintro e _ ⟨rfl, rfl⟩
    refine ⟨_, rfl, hHeld, fun hHeld2 => ?_⟩
    clear hHeld
    have hHeld := hHeld2
    clear hHeld2
    refine takeO 87 154 (.call { callee := .builtin .len, args := #[.const (.slice none 0 0)], argTypes := #[28] }) 3 (.int .i64 0) (by as_aux_lemma => kernel_rfl) (by as_aux_lemma => kernel_rfl) (by as_aux_lemma => kernel_rfl) (fun _ _ _ _ _ h => h) (fun W hS => by clear hS hHeld; unfold cEv opC; as_aux_lemma => first | (go_simp; done) | (go_simp <;> rfl)) hHeld ?_
    refine takeO 88 155 (.binOp .add 3 (.const (.int .i64 0)) (.const (.int .i64 0)) 3) 3 (.int .i64 0) (by as_aux_lemma => kernel_rfl) (by as_aux_lemma => kernel_rfl) (by as_aux_lemma => kernel_rfl) (fun _ _ _ _ _ h => h) (fun W hS => by clear hS hHeld; unfold cEv opC; as_aux_lemma => first | (go_simp; done) | (go_simp <;> rfl)) hHeld ?_
    refine takeO 89 156 (.binOp .eql 3 (.const (.int .i64 0)) (.const (.int .i64 0)) 3) 4 (.bool true) (by as_aux_lemma => kernel_rfl) (by as_aux_lemma => kernel_rfl) (by as_aux_lemma => kernel_rfl) (fun _ _ _ _ _ h => h) (fun W hS => by clear hS hHeld; unfold cEv opC; as_aux_lemma => first | (go_simp; done) | (go_simp <;> rfl)) hHeld ?_
    refine putsO [90, 91, 92] [92, 91, 90] [(159, .pointer (some ⟨M, 0, none⟩)), (158, .bool true), (157, .bool true)] 3 rfl [157, 158, 159] (by as_aux_lemma => kernel_rfl) (by as_aux_lemma => kernel_rfl) rfl (fun _ _ _ _ _ h => h) hHeld ?_
    refine readyO [93] (by as_aux_lemma => kernel_rfl) (by simp) ?_
    refine callO 93 160 (.call { callee := .value (.func 18), args := #[.const (.pointer (some ⟨M, 0, none⟩)), .const (.int .i64 4)], argTypes := #[24, 3] }) 3 18 #[.pointer (some ⟨M, 0, none⟩), .int .i64 4] (by as_aux_lemma => kernel_rfl) (by as_aux_lemma => kernel_rfl) (by unfold cEv opC; go_simp) ?_ AllReadyH.nil
    refine (liSize hHeld 4 HZ4.out).mono ?_
    rintro e _ ⟨rfl, rfl⟩
    refine ⟨_, rfl, hHeld, fun hHeld2 => ?_⟩
    clear hHeld
    have hHeld := hHeld2
    clear hHeld2
    refine takeO 94 161 (.binOp .eql 3 (.const (.int .i64 0)) (.const (.int .i64 0)) 3) 4 (.bool true) (by as_aux_lemma => kernel_rfl) (by as_aux_lemma => kernel_rfl) (by as_aux_lemma => kernel_rfl) (fun _ _ _ _ _ h => h) (fun W hS => by clear hS hHeld; unfold cEv opC; as_aux_lemma => first | (go_simp; done) | (go_simp <;> rfl)) hHeld ?_
    refine putsO [95, 96] [96, 95] [(0, .bool true), (162, .bool true)] 2 rfl [162, 0] (by as_aux_lemma => kernel_rfl) (by as_aux_lemma => kernel_rfl) rfl (fun _ _ _ _ _ h => h) hHeld ?_
    refine doneO [(0, .bool true), (66, .int .i64 0), (0, .bool true), (0, .bool true), (0, .int .i64 6), (0, .bool true), (0, .bool true), (0, .bool true), (0, .bool true), (0, .bool true), (0, .bool true), (0, .bool false), (0, .bool true), (0, .bool true), (0, .bool true), (0, .agg #[.int .i64 3, .int .i64 1]), (0, .agg #[.int .i64 3, .int .i64 1]), (0, .bool true), (0, .bool true), (0, .bool true), (0, .bool true), (0, .bool true), (0, .bool true), (0, .int .i64 1), (0, .bool true), (0, .bool true), (0, .bool true), (0, .agg #[.int .i64 3, .int .i64 1]), (0, .agg #[.int .i64 3, .int .i64 1]), (0, .bool true), (0, .bool true), (0, .bool true), (0, .bool true), (0, .bool true), (0, .bool true), (0, .bool false), (0, .bool true), (0, .bool true), (0, .bool true), (0, .pointer (some ⟨M, 0, none⟩)), (0, .int .i64 4), (0, .bool true), (0, .bool true), (0, .bool true), (0, .bool true), (0, .bool true), (0, .bool true), (0, .bool true), (0, .bool true), (0, .bool true), (0, .pointer (some ⟨M, 0, none⟩)), (0, .int .i64 2), (0, .bool true), (0, .bool true), (0, .bool true), (0, .pointer (some ⟨M, 0, none⟩)), (0, .slice AL 2 cL), (0, .agg #[.int .i64 3, .int .i64 1]), (0, .agg #[.int .u64 2, .int .i64 3, .int .i64 1]), (0, .agg #[.int .i64 3, .int .i64 1]), (0, .agg #[.int .u64 8, .int .i64 3, .int .i64 1]), (0, .slice (some ⟨gl, 0, none⟩) 2 2), (0, .bool true), (0, .bool true), (0, .bool true), (0, .bool false), (0, .bool true), (0, .bool true), (0, .bool true), (0, .pointer none), (0, .agg #[.int .i64 3, .int .i64 1]), (0, .bool false), (0, .bool true), (0, .bool true), (0, .bool true), (0, .pointer none), (0, .int .i64 0), (0, .pointer none), (0, .int .i64 0), (0, .int .i64 0), (0, .pointer none), (0, .int .i64 0), (0, .int .i64 0), (0, .pointer none), (0, .int .i64 0), (0, .int .i64 0), (0, .pointer none), (0, .slice none 0 0), (0, .int .i64 0), (0, .int .i64 0), (0, .bool true), (0, .bool true), (0, .bool true), (0, .pointer (some ⟨M, 0, none⟩)), (0, .int .i64 0), (0, .bool true), (0, .bool true)] (by as_aux_lemma => kernel_rfl) (by as_aux_lemma => kernel_rfl) ?_
    simp only [fillG]
    have HF := hide hHeld
    clear hHeld
    go_wp2
    go_ret
    exact ⟨rfl, HF.out.bel⟩
  refine memO 60 127 (.buildSlice 28 2 #[(0, .const (.agg #[.int .u64 2, .int .i64 3, .int .i64 1])), (1, .const (.agg #[.int .u64 8, .int .i64 3, .int .i64 1]))]) 28 (.slice (some ⟨wl2.heap.size, 0, none⟩) 2 2) (wl2.alloc (.cells #[.int .u64 2, .int .i64 3, .int .i64 1, .int .u64 8, .int .i64 3, .int .i64 1] 56)) (by as_aux_lemma => kernel_rfl) (by as_aux_lemma => kernel_rfl) (by unfold cEv opC; go_simp) (hHeld.step (below1 _ _)) (fun hHeld2 => ?_) AllReadyH.nil
  clear hHeld
  have hHeld := hHeld2
  clear hHeld2
  have HTL := hide (twoN (Blk.new wl2 56 #[.int .u64 2, .int .i64 3, .int .i64 1, .int .u64 8, .int .i64 3, .int .i64 1]))
  generalize World.alloc wl2 _ = w20 at *
  generalize wl2.heap.size = gl at *
  refine readyO [55] (by as_aux_lemma => kernel_rfl) (by simp) ?_
  refine callO 55 122 (.call { callee := .value (.func 21), args := #[.const (.pointer (some ⟨M, 0, none⟩))], argTypes := #[24] }) 28 21 #[.pointer (some ⟨M, 0, none⟩)] (by as_aux_lemma => kernel_rfl) (by as_aux_lemma => kernel_rfl) (by unfold cEv opC; go_simp) ?_ AllReadyH.nil
  refine (liList hHeld (k := 2) rfl (by omega)).mono ?_
  rintro e w21 ⟨AL, cL, rfl, kl1, kl2, hr, hbl⟩
  have HRL := hide hr
  clear hr
  replace HTL := hide (HTL.out.at_world hbl)
  refine ⟨_, rfl, (hHeld.step hbl), fun hHeld2 => ?_⟩
  clear hHeld
  have hHeld := hHeld2
  clear hHeld2
  clear hbl
  refine readyO [61] (by as_aux_lemma => kernel_rfl) (by simp) ?_
  refine callO 61 128 (.call { callee := .value (.func 20), args := #[.const (.slice AL 2 cL), .const (.slice (some ⟨gl, 0, none⟩) 2 2)], argTypes := #[28, 28] }) 4 20 #[.slice AL 2 cL, .slice (some ⟨gl, 0, none⟩) 2 2] (by as_aux_lemma => kernel_rfl) (by as_aux_lemma => kernel_rfl) (by unfold cEv opC; go_simp) ?_ AllReadyH.nil
  refine (refSame_any AL (some ⟨gl, 0, none⟩) 2 cL 2 2 L28 L28 _ HRL.out rfl kl1 kl2 HTL.out rfl (by omega) (by omega)).mono ?_
  rintro e w22 ⟨hev, hdw⟩
  have hev : e = .returned (.bool true) := hev.trans (by simp)
  subst hev
  refine ⟨_, rfl, (hHeld.step hdw.below), fun hHeld2 => ?_⟩
  clear hHeld
  have hHeld := hHeld2
  clear hHeld2
  clear hdw HRL HTL
  refine putsO [62, 63, 64, 65, 66, 67, 68] [68, 67, 66, 65, 64, 63, 62] [(135, .pointer none), (134, .bool true), (133, .bool true), (132, .bool true), (131, .bool false), (130, .bool true), (129, .bool true)] 7 rfl [129, 130, 131, 132, 133, 134, 135] (by as_aux_lemma => kernel_rfl) (by as_aux_lemma => kernel_rfl) rfl (fun _ _ _ _ _ h => h) hHeld ?_
  refine takeO 69 136 (.load 35 (.const (.pointer (some ⟨gr, 0, none⟩)))) 35 (.agg #[.int .i64 3, .int .i64 1]) (by as_aux_lemma => kernel_rfl) (by as_aux_lemma => kernel_rfl) (by as_aux_lemma => kernel_rfl) (fun _ _ _ _ _ h => h) (fun W hS => by obtain ⟨z0, z1⟩ := hS.cells (q := gr) (a := 3) (b := 1) (by simp); clear hS hHeld; unfold cEv opC; as_aux_lemma => first | (go_simp; done) | (go_simp <;> rfl)) hHeld ?_
  refine readyO [70] (by as_aux_lemma => kernel_rfl) (by simp) ?_
  refine callO 70 137 (.call { callee := .value (.func 9), args := #[.const (.pointer none), .const (.int .u64 1), .const (.agg #[.int .i64 3, .int .i64 1])], argTypes := #[24, 33, 35] }) 4 9 #[.pointer none, .int .u64 1, .agg #[.int .i64 3, .int .i64 1]] (by as_aux_lemma => kernel_rfl) (by as_aux_lemma => kernel_rfl) (by unfold cEv opC; go_simp) ?_ AllReadyH.nil
  refine (put_nil 1 3 1 _).mono ?_
  rintro e w23 ⟨rfl, hv⟩
  refine ⟨_, rfl, (hHeld.step hv), fun hHeld2 => ?_⟩
  clear hHeld
  have hHeld := hHeld2
  clear hHeld2
  clear hv
  refine putsO [71, 72, 73, 74, 76, 79, 82, 85] [85, 82, 79, 76, 74, 73, 72, 71] [(152, .pointer none), (149, .pointer none), (146, .pointer none), (143, .pointer none), (141, .pointer none), (140, .bool true), (139, .bool true), (138, .bool true)] 8 rfl [138, 139, 140, 141, 143, 146, 149, 152] (by as_aux_lemma => kernel_rfl) (by as_aux_lemma => kernel_rfl) rfl (fun _ _ _ _ _ h => h) hHeld ?_
  refine readyO [75] (by as_aux_lemma => kernel_rfl) (by simp) ?_
  refine callO 75 142 (.call { callee := .value (.func 14), args := #[.const (.pointer none)], argTypes := #[24] }) 3 14 #[.pointer none] (by as_aux_lemma => kernel_rfl) (by as_aux_lemma => kernel_rfl) (by unfold cEv opC; go_simp) ?_ AllReadyH.nil
  refine (len_nil _).mono ?_
  rintro e _ ⟨rfl, rfl⟩
  refine ⟨_, rfl, hHeld, fun hHeld2 => ?_⟩
  clear hHeld
  have hHeld := hHeld2
  clear hHeld2
  refine readyO [77] (by as_aux_lemma => kernel_rfl) (by simp) ?_
  refine callO 77 144 (.call { callee := .value (.func 15), args := #[.const (.pointer none)], argTypes := #[24] }) 3 15 #[.pointer none] (by as_aux_lemma => kernel_rfl) (by as_aux_lemma => kernel_rfl) (by unfold cEv opC; go_simp) ?_ AllReadyH.nil
  refine (version_nil _).mono ?_
  rintro e _ ⟨rfl, rfl⟩
  refine ⟨_, rfl, hHeld, fun hHeld2 => ?_⟩
  clear hHeld
  have hHeld := hHeld2
  clear hHeld2
  refine takeO 78 145 (.binOp .add 3 (.const (.int .i64 0)) (.const (.int .i64 0)) 3) 3 (.int .i64 0) (by as_aux_lemma => kernel_rfl) (by as_aux_lemma => kernel_rfl) (by as_aux_lemma => kernel_rfl) (fun _ _ _ _ _ h => h) (fun W hS => by clear hS hHeld; unfold cEv opC; as_aux_lemma => first | (go_simp; done) | (go_simp <;> rfl)) hHeld ?_
  refine readyO [80] (by as_aux_lemma => kernel_rfl) (by simp) ?_
  refine callO 80 147 (.call { callee := .value (.func 18), args := #[.const (.pointer none), .const (.int .i64 0)], argTypes := #[24, 3] }) 3 18 #[.pointer none, .int .i64 0] (by as_aux_lemma => kernel_rfl) (by as_aux_lemma => kernel_rfl) (by unfold cEv opC; go_simp) ?_ AllReadyH.nil
  refine (size_nil 0 _).mono ?_
  rintro e _ ⟨rfl, rfl⟩
  refine ⟨_, rfl, hHeld, fun hHeld2 => ?_⟩
  clear hHeld
  have hHeld := hHeld2
  clear hHeld2
  refine takeO 81 148 (.binOp .add 3 (.const (.int .i64 0)) (.const (.int .i64 0)) 3) 3 (.int .i64 0) (by as_aux_lemma => kernel_rfl) (by as_aux_lemma => kernel_rfl) (by as_aux_lemma => kernel_rfl) (fun _ _ _ _ _ h => h) (fun W hS => by clear hS hHeld; unfold cEv opC; as_aux_lemma => first | (go_simp; done) | (go_simp <;> rfl)) hHeld ?_
  refine readyO [83] (by as_aux_lemma => kernel_rfl) (by simp) ?_
  refine callO 83 150 (.call { callee := .value (.func 16), args := #[.const (.pointer none), .const (.int .u64 5)], argTypes := #[24, 33] }) 3 16 #[.pointer none, .int .u64 5] (by as_aux_lemma => kernel_rfl) (by as_aux_lemma => kernel_rfl) (by unfold cEv opC; go_simp) ?_ AllReadyH.nil
  refine (shard_nil 5 _).mono ?_
  rintro e _ ⟨rfl, rfl⟩
  refine ⟨_, rfl, hHeld, fun hHeld2 => ?_⟩
  clear hHeld
  have hHeld := hHeld2
  clear hHeld2
  refine takeO 84 151 (.binOp .add 3 (.const (.int .i64 0)) (.const (.int .i64 0)) 3) 3 (.int .i64 0) (by as_aux_lemma => kernel_rfl) (by as_aux_lemma => kernel_rfl) (by as_aux_lemma => kernel_rfl) (fun _ _ _ _ _ h => h) (fun W hS => by clear hS hHeld; unfold cEv opC; as_aux_lemma => first | (go_simp; done) | (go_simp <;> rfl)) hHeld ?_
  refine readyO [86] (by as_aux_lemma => kernel_rfl) (by simp) ?_
  refine callO 86 153 (.call { callee := .value (.func 21), args := #[.const (.pointer none)], argTypes := #[24] }) 28 21 #[.pointer none] (by as_aux_lemma => kernel_rfl) (by as_aux_lemma => kernel_rfl) (by unfold cEv opC; go_simp) ?_ AllReadyH.nil
  refine (list_nil _).mono ?_
  rintro e _ ⟨rfl, rfl⟩
  refine ⟨_, rfl, hHeld, fun hHeld2 => ?_⟩
  clear hHeld
  have hHeld := hHeld2
  clear hHeld2
  refine takeO 87 154 (.call { callee := .builtin .len, args := #[.const (.slice none 0 0)], argTypes := #[28] }) 3 (.int .i64 0) (by as_aux_lemma => kernel_rfl) (by as_aux_lemma => kernel_rfl) (by as_aux_lemma => kernel_rfl) (fun _ _ _ _ _ h => h) (fun W hS => by clear hS hHeld; unfold cEv opC; as_aux_lemma => first | (go_simp; done) | (go_simp <;> rfl)) hHeld ?_
  refine takeO 88 155 (.binOp .add 3 (.const (.int .i64 0)) (.const (.int .i64 0)) 3) 3 (.int .i64 0) (by as_aux_lemma => kernel_rfl) (by as_aux_lemma => kernel_rfl) (by as_aux_lemma => kernel_rfl) (fun _ _ _ _ _ h => h) (fun W hS => by clear hS hHeld; unfold cEv opC; as_aux_lemma => first | (go_simp; done) | (go_simp <;> rfl)) hHeld ?_
  refine takeO 89 156 (.binOp .eql 3 (.const (.int .i64 0)) (.const (.int .i64 0)) 3) 4 (.bool true) (by as_aux_lemma => kernel_rfl) (by as_aux_lemma => kernel_rfl) (by as_aux_lemma => kernel_rfl) (fun _ _ _ _ _ h => h) (fun W hS => by clear hS hHeld; unfold cEv opC; as_aux_lemma => first | (go_simp; done) | (go_simp <;> rfl)) hHeld ?_
  refine putsO [90, 91, 92] [92, 91, 90] [(159, .pointer (some ⟨M, 0, none⟩)), (158, .bool true), (157, .bool true)] 3 rfl [157, 158, 159] (by as_aux_lemma => kernel_rfl) (by as_aux_lemma => kernel_rfl) rfl (fun _ _ _ _ _ h => h) hHeld ?_
  refine readyO [93] (by as_aux_lemma => kernel_rfl) (by simp) ?_
  refine callO 93 160 (.call { callee := .value (.func 18), args := #[.const (.pointer (some ⟨M, 0, none⟩)), .const (.int .i64 4)], argTypes := #[24, 3] }) 3 18 #[.pointer (some ⟨M, 0, none⟩), .int .i64 4] (by as_aux_lemma => kernel_rfl) (by as_aux_lemma => kernel_rfl) (by unfold cEv opC; go_simp) ?_ AllReadyH.nil
  refine (liSize hHeld 4 HZ4.out).mono ?_
  rintro e _ ⟨rfl, rfl⟩
  refine ⟨_, rfl, hHeld, fun hHeld2 => ?_⟩
  clear hHeld
  have hHeld := hHeld2
  clear hHeld2
  refine takeO 94 161 (.binOp .eql 3 (.const (.int .i64 0)) (.const (.int .i64 0)) 3) 4 (.bool true) (by as_aux_lemma => kernel_rfl) (by as_aux_lemma => kernel_rfl) (by as_aux_lemma => kernel_rfl) (fun _ _ _ _ _ h => h) (fun W hS => by clear hS hHeld; unfold cEv opC; as_aux_lemma => first | (go_simp; done) | (go_simp <;> rfl)) hHeld ?_
  refine putsO [95, 96] [96, 95] [(0, .bool true), (162, .bool true)] 2 rfl [162, 0] (by as_aux_lemma => kernel_rfl) (by as_aux_lemma => kernel_rfl) rfl (fun _ _ _ _ _ h => h) hHeld ?_
  refine doneO [(0, .bool true), (66, .int .i64 0), (0, .bool true), (0, .bool true), (0, .int .i64 6), (0, .bool true), (0, .bool true), (0, .bool true), (0, .bool true), (0, .bool true), (0, .bool true), (0, .bool false), (0, .bool true), (0, .bool true), (0, .bool true), (0, .agg #[.int .i64 3, .int .i64 1]), (0, .agg #[.int .i64 3, .int .i64 1]), (0, .bool true), (0, .bool true), (0, .bool true), (0, .bool true), (0, .bool true), (0, .bool true), (0, .int .i64 1), (0, .bool true), (0, .bool true), (0, .bool true), (0, .agg #[.int .i64 3, .int .i64 1]), (0, .agg #[.int .i64 3, .int .i64 1]), (0, .bool true), (0, .bool true), (0, .bool true), (0, .bool true), (0, .bool true), (0, .bool true), (0, .bool false), (0, .bool true), (0, .bool true), (0, .bool true), (0, .pointer (some ⟨M, 0, none⟩)), (0, .int .i64 4), (0, .bool true), (0, .bool true), (0, .bool true), (0, .bool true), (0, .bool true), (0, .bool true), (0, .bool true), (0, .bool true), (0, .bool true), (0, .pointer (some ⟨M, 0, none⟩)), (0, .int .i64 2), (0, .bool true), (0, .bool true), (0, .bool true), (0, .pointer (some ⟨M, 0, none⟩)), (0, .slice AL 2 cL), (0, .agg #[.int .i64 3, .int .i64 1]), (0, .agg #[.int .u64 2, .int .i64 3, .int .i64 1]), (0, .agg #[.int .i64 3, .int .i64 1]), (0, .agg #[.int .u64 8, .int .i64 3, .int .i64 1]), (0, .slice (some ⟨gl, 0, none⟩) 2 2), (0, .bool true), (0, .bool true), (0, .bool true), (0, .bool false), (0, .bool true), (0, .bool true), (0, .bool true), (0, .pointer none), (0, .agg #[.int .i64 3, .int .i64 1]), (0, .bool false), (0, .bool true), (0, .bool true), (0, .bool true), (0, .pointer none), (0, .int .i64 0), (0, .pointer none), (0, .int .i64 0), (0, .int .i64 0), (0, .pointer none), (0, .int .i64 0), (0, .int .i64 0), (0, .pointer none), (0, .int .i64 0), (0, .int .i64 0), (0, .pointer none), (0, .slice none 0 0), (0, .int .i64 0), (0, .int .i64 0), (0, .bool true), (0, .bool true), (0, .bool true), (0, .pointer (some ⟨M, 0, none⟩)), (0, .int .i64 0), (0, .bool true), (0, .bool true)] (by as_aux_lemma => kernel_rfl) (by as_aux_lemma => kernel_rfl) ?_
  simp only [fillG]
  have HF := hide hHeld
  clear hHeld
  go_wp2
  go_ret
  exact ⟨rfl, HF.out.bel⟩
end Go.Proofs.Ytoadcfjkommlkaa
