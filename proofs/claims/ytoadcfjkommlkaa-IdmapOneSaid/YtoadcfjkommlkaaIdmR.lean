/-
  '==' of refs and of ids with refs; whether two lists of these are one. Conditions: the slices read as lists.
-/
import Derived.Test.YtoadcfjkommlkaaChecked
import Derived.Test.YtoadcfjkommlkaaIdmK
import Derived.Test.YtoadcfjkommlkaaSmall
namespace Go.Proofs.Ytoadcfjkommlkaa
set_option linter.unusedSimpArgs false
set_option linter.unusedVariables false
open Go.RowKit

theorem run_equal_ref (n : Nat) (x0 y0 : Int) (x1 y1 : Int) (W : World) : (Op.equalIn (n + 1 + 1) 35 (.agg #[.int .i64 x0, .int .i64 x1]) (.agg #[.int .i64 y0, .int .i64 y1])).run Try.prog W = .ok ((x0 == y0) && (x1 == y1)) W := by
  rw [run_equalIn_struct W (n + 1) 35 _ _ (by kernel_rfl) (by kernel_rfl)]
  have hf : (Try.prog.fieldsOf 35).toList.map (fun f => (f.name == "_", f.type, f.offset)) = [(false, 3, 0), (false, 3, 1)] := by kernel_rfl
  generalize (Try.prog.fieldsOf 35).toList = fs at hf
  obtain ⟨f0, f1, rfl⟩ : ∃ f0 f1, fs = [f0, f1] := by
    have hl : fs.length = 2 := by simpa using congrArg List.length hf
    rcases fs with _ | ⟨f0, _ | ⟨f1, _ | ⟨x, l⟩⟩⟩ <;> simp at hl
    exact ⟨f0, f1, rfl⟩
  simp at hf
  obtain ⟨⟨n0, t0, o0⟩, n1, t1, o1⟩ := hf
  have hp0 : ∀ (z0 : Int) (z1 : Int) , (part 3 #[.int .i64 z0, .int .i64 z1] 0).run Try.prog W = .ok (.int .i64 z0) W := by
    intro z0 z1
    simp [part, run_isAgg_int W Try.underlying3]
  have he0 := fun x y => run_equalIn_int (P := Try.prog) W (n) 3 .i64 .i64 x y Try.underlying3
  have hp1 : ∀ (z0 : Int) (z1 : Int) , (part 3 #[.int .i64 z0, .int .i64 z1] 1).run Try.prog W = .ok (.int .i64 z1) W := by
    intro z0 z1
    simp [part, run_isAgg_int W Try.underlying3]
  have he1 := fun x y => run_equalIn_int (P := Try.prog) W (n) 3 .i64 .i64 x y Try.underlying3
  simp only [Op.eqFields, n0, t0, o0, n1, t1, o1, Sem.run_ite, Sem.run_bind, hp0, he0, hp1, he1, Result.andThen_ok, ne_eq]
  cases h0 : (x0 == y0) <;> cases h1 : (x1 == y1) <;> simp [h0, h1, n0, n1, Sem.run_bind, hp0, he0, hp1, he1, Result.andThen_ok]
theorem run_eql_ref (x0 y0 : Int) (x1 y1 : Int) {r : Bool} (h : ((x0 == y0) && (x1 == y1)) = r) (W : World) : (binOp .eql 35 (.agg #[.int .i64 x0, .int .i64 x1]) (.agg #[.int .i64 y0, .int .i64 y1])).run Try.prog W = .ok (.bool r) W := by
  rw [run_eql_struct, show (10000 : Nat) = 9998 + 1 + 1 from rfl, run_equal_ref, h]; rfl
theorem run_neq_ref (x0 y0 : Int) (x1 y1 : Int) {r : Bool} (h : ((x0 == y0) && (x1 == y1)) = r) (W : World) : (binOp .neq 35 (.agg #[.int .i64 x0, .int .i64 x1]) (.agg #[.int .i64 y0, .int .i64 y1])).run Try.prog W = .ok (.bool (!r)) W := by
  rw [run_neq_struct, show (10000 : Nat) = 9998 + 1 + 1 from rfl, run_equal_ref, h]; rfl
theorem ref_same {x0 y0 : Int} {x1 y1 : Int} (h : (x0, x1) = (y0, y1)) : ((x0 == y0) && (x1 == y1)) = true := by
  simp only [Prod.mk.injEq] at h
  simp [h]
theorem ref_other {x0 y0 : Int} {x1 y1 : Int} (h : (x0, x1) ≠ (y0, y1)) : ((x0 == y0) && (x1 == y1)) = false := by
  cases h1 : ((x0 == y0) && (x1 == y1)) with
  | false => rfl
  | true => simp at h1; exact (h (by simp only [Prod.mk.injEq]; simp [h1])).elim
theorem run_equal_named (n : Nat) (x0 y0 : Int) (x1 y1 : Int) (x2 y2 : Int) (W : World) : (Op.equalIn (n + 1 + 1 + 1) 56 (.agg #[.int .u64 x0, .int .i64 x1, .int .i64 x2]) (.agg #[.int .u64 y0, .int .i64 y1, .int .i64 y2])).run Try.prog W = .ok ((x0 == y0) && ((x1 == y1) && (x2 == y2))) W := by
  rw [run_equalIn_struct W (n + 1 + 1) 56 _ _ (by kernel_rfl) (by kernel_rfl)]
  have hf : (Try.prog.fieldsOf 56).toList.map (fun f => (f.name == "_", f.type, f.offset)) = [(false, 33, 0), (false, 35, 1)] := by kernel_rfl
  generalize (Try.prog.fieldsOf 56).toList = fs at hf
  obtain ⟨f0, f1, rfl⟩ : ∃ f0 f1, fs = [f0, f1] := by
    have hl : fs.length = 2 := by simpa using congrArg List.length hf
    rcases fs with _ | ⟨f0, _ | ⟨f1, _ | ⟨x, l⟩⟩⟩ <;> simp at hl
    exact ⟨f0, f1, rfl⟩
  simp at hf
  obtain ⟨⟨n0, t0, o0⟩, n1, t1, o1⟩ := hf
  have hp0 : ∀ (z0 : Int) (z1 : Int) (z2 : Int) , (part 33 #[.int .u64 z0, .int .i64 z1, .int .i64 z2] 0).run Try.prog W = .ok (.int .u64 z0) W := by
    intro z0 z1 z2
    simp [part, run_isAgg_int W Try.underlying33]
  have he0 := fun x y => run_equalIn_int (P := Try.prog) W (n + 1) 33 .u64 .u64 x y Try.underlying33
  have hp1 : ∀ (z0 : Int) (z1 : Int) (z2 : Int) , (part 35 #[.int .u64 z0, .int .i64 z1, .int .i64 z2] 1).run Try.prog W = .ok (.agg #[.int .i64 z1, .int .i64 z2]) W := by
    intro z0 z1 z2
    simp [part, Try.isAgg35, Try.sizeOf35]
  have he1 := fun (a0 b0 : Int) (a1 b1 : Int) => run_equal_ref (n) a0 b0 a1 b1 W
  simp only [Op.eqFields, n0, t0, o0, n1, t1, o1, Sem.run_ite, Sem.run_bind, hp0, he0, hp1, he1, Result.andThen_ok, ne_eq]
  cases h0 : (x0 == y0) <;> cases h1 : ((x1 == y1) && (x2 == y2)) <;> simp [h0, h1, n0, n1, Sem.run_bind, hp0, he0, hp1, he1, Result.andThen_ok]
theorem run_eql_named (x0 y0 : Int) (x1 y1 : Int) (x2 y2 : Int) {r : Bool} (h : ((x0 == y0) && ((x1 == y1) && (x2 == y2))) = r) (W : World) : (binOp .eql 56 (.agg #[.int .u64 x0, .int .i64 x1, .int .i64 x2]) (.agg #[.int .u64 y0, .int .i64 y1, .int .i64 y2])).run Try.prog W = .ok (.bool r) W := by
  rw [run_eql_struct, show (10000 : Nat) = 9997 + 1 + 1 + 1 from rfl, run_equal_named, h]; rfl
theorem run_neq_named (x0 y0 : Int) (x1 y1 : Int) (x2 y2 : Int) {r : Bool} (h : ((x0 == y0) && ((x1 == y1) && (x2 == y2))) = r) (W : World) : (binOp .neq 56 (.agg #[.int .u64 x0, .int .i64 x1, .int .i64 x2]) (.agg #[.int .u64 y0, .int .i64 y1, .int .i64 y2])).run Try.prog W = .ok (.bool (!r)) W := by
  rw [run_neq_struct, show (10000 : Nat) = 9997 + 1 + 1 + 1 from rfl, run_equal_named, h]; rfl
theorem named_same {x0 y0 : Int} {x1 y1 : Int} {x2 y2 : Int} (h : (x0, (x1, x2)) = (y0, (y1, y2))) : ((x0 == y0) && ((x1 == y1) && (x2 == y2))) = true := by
  simp only [Prod.mk.injEq] at h
  simp [h]
theorem named_other {x0 y0 : Int} {x1 y1 : Int} {x2 y2 : Int} (h : (x0, (x1, x2)) ≠ (y0, (y1, y2))) : ((x0 == y0) && ((x1 == y1) && (x2 == y2))) = false := by
  cases h1 : ((x0 == y0) && ((x1 == y1) && (x2 == y2))) with
  | false => rfl
  | true => simp at h1; exact (h (by simp only [Prod.mk.injEq]; simp [h1])).elim
set_option maxHeartbeats 1000000 in
theorem refSame_any (A B : Option Addr) (n c m d : Nat) (xs ys : List NamedV) (w : World) (hx : Rd SNm w w.heap.size A xs) (hn : xs.length = n) (hc : n ≤ c) (hm : c ≤ 9223372036854775807)
    (hy : Rd SNm w w.heap.size B ys) (hn' : ys.length = m) (hd : m ≤ d) (hm' : d ≤ 9223372036854775807) :
    Calls Try.prog 20 #[.slice A n c, .slice B m d] w fun e w' => e = .returned (.bool (decide (xs = ys))) ∧ Drew w w' := by
  have Hn := hide hn
  have Hm := hide hn'
  by_cases hnm : n = m
  · subst hnm
    clear hn hn'
    go_enter Try.func20, Try.ntmps20
    go_wp2
    go_loopw [5, 13] (fun _ i wr => ∃ k : Nat, k ≤ n ∧ i = .int .i64 k ∧ Hid (xs.take k = ys.take k) ∧ Drew w wr) (fun _ i _ => n - (intOf i).toNat)
    case atStart => exact ⟨0, by omega, rfl, hide (by simp), Drew.refl _⟩
    case round =>
      obtain ⟨k, hk, rfl, ht, j, rfl⟩ := hrel
      by_cases hlt : k < n
      · obtain ⟨ad, ⟨x0, ⟨x1, x2⟩⟩, rfl, _, hx1, c0, c1, c2⟩ := RdR.ncell hx (k := k) (by have := Hn.out; omega)
        obtain ⟨ad2, ⟨y0, ⟨y1, y2⟩⟩, rfl, _, hy1, d0, d1, d2⟩ := RdR.ncell hy (k := k) (by have := Hm.out; omega)
        simp only at c0 d0 c1 d1 c2 d2
        have h0 : (0 : Int) ≤ k := by omega
        have h1 : (k : Int) < n := by omega
        by_cases e : (x0, (x1, x2)) = (y0, (y1, y2))
        · have HT := hide (show xs.take (k + 1) = ys.take (k + 1) by rw [take_snoc hx1, take_snoc hy1, ht.out, e])
          have he := run_neq_named x0 y0 x1 y1 x2 y2 (named_same e)
          clear hx hy hx1 hy1 e
          go_upto_region 6 with fail
          go_quiet (fail)
          go_wp2
          go_roundw
          case rel => exact ⟨k + 1, by omega, by go_num, HT, by first | exact ⟨_, rfl⟩ | exact drewN_drewN' _ _ _⟩
          case measure => simp [intOf]; omega
        · have HF := hide (at_falseG hx1 hy1 e)
          have he := run_neq_named x0 y0 x1 y1 x2 y2 (named_other e)
          clear hx hy hx1 hy1 e
          go_upto_region 6 with fail
          go_quiet (fail)
          go_wp2
          go_ret
          exact ⟨by rw [HF.out]; rfl, by first | exact ⟨_, rfl⟩ | exact drewN_drewN' _ _ _⟩
      · obtain rfl : k = n := by omega
        have HF := hide (show decide (xs = ys) = true from decide_eq_true (by
          have h := ht.out
          rwa [List.take_of_length_le (by have := Hn.out; omega), List.take_of_length_le (by have := Hm.out; omega)] at h))
        clear hx hy
        go_wp2
        go_ret
        exact ⟨by rw [HF.out]; rfl, by first | exact ⟨_, rfl⟩ | exact drewN_drewN' _ _ _⟩
  · have HF := hide (lens_falseG (xs := xs) (ys := ys) (by omega))
    have hb : ((n : Int) != m) = true := by rw [bne_iff_ne]; omega
    clear hx hy hn hn' hnm
    go_enter Try.func20, Try.ntmps20
    go_wp2
    go_ret
    exact ⟨by rw [HF.out]; rfl, Drew.refl _⟩
end Go.Proofs.Ytoadcfjkommlkaa
