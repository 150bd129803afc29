/-
  The law's own probes of the arena: lives returns true. No condition.
-/
import Derived.Test.YtoodcfldnojkjabArnP
namespace Go.Proofs.Ytoodcfldnojkjab
open Go.RowKit

theorem run_eql_ref (a b c d : Int) (W : World) : (binOp .eql 36 (.agg #[.int .i64 a, .int .i64 b]) (.agg #[.int .i64 c, .int .i64 d])).run Try.prog W = .ok (.bool (a == c && b == d)) W := by
  rw [run_eql_struct]
  have h : (Op.equalIn 10000 36 (.agg #[.int .i64 a, .int .i64 b]) (.agg #[.int .i64 c, .int .i64 d])).run Try.prog W = .ok (a == c && b == d) W := by
    rw [show (10000 : Nat) = 9998 + 1 + 1 from rfl, run_equalIn_struct W (9998 + 1) 36 _ _ (by kernel_rfl) (by kernel_rfl)]
    have hf : (Try.prog.fieldsOf 36).toList.map (fun f => (f.name == "_", f.type, f.offset)) = [(false, 3, 0), (false, 3, 1)] := by kernel_rfl
    generalize (Try.prog.fieldsOf 36).toList = fs at hf
    obtain ⟨f, g, rfl⟩ : ∃ f g, fs = [f, g] := by
      have hl : fs.length = 2 := by simpa using congrArg List.length hf
      rcases fs with _ | ⟨f, _ | ⟨g, _ | ⟨x, l⟩⟩⟩ <;> simp at hl
      exact ⟨f, g, rfl⟩
    · simp at hf
      obtain ⟨⟨n1, t1, o1⟩, n2, t2, o2⟩ := hf
      have hp : ∀ x y : Int, ∀ j : Nat, j < 2 → (part 3 #[.int .i64 x, .int .i64 y] j).run Try.prog W = .ok (if j = 0 then .int .i64 x else .int .i64 y) W := by
        intro x y j hj
        have : j = 0 ∨ j = 1 := by omega
        rcases this with rfl | rfl <;> simp [part, run_isAgg_int W Try.underlying3]
      have he := fun x y : Int => run_equalIn_int (P := Try.prog) W 9998 3 .i64 .i64 x y Try.underlying3
      simp only [Op.eqFields, n1, n2, t1, t2, o1, o2, Sem.run_ite, Sem.run_bind, hp, Result.andThen_ok, he, ne_eq]
      cases h1 : (a == c) <;> cases h2 : (b == d) <;> simp [h1, h2, n1, n2, Sem.run_bind, hp, he, Result.andThen_ok]
  rw [h]
  rfl

section
variable (w : World) (i z : Int)
set_option maxHeartbeats 1000000
theorem nil_at : Calls Try.prog 21 #[.pointer none, .int .i64 i] w fun e w' => e = .returned (.pointer none) ∧ w = w' := by
  go_enter Try.func21, Try.ntmps21
  go_wp2
  go_ret
  exact ⟨rfl, rfl⟩
theorem nil_alloc : Calls Try.prog 9 #[.pointer none] w fun e w' => e = .returned (.tuple #[.agg #[.int .i64 0, .int .i64 0], .bool false]) ∧ Below w.heap.size w w' := by
  go_enter Try.func9, Try.ntmps9
  go_wp2
  refine bodyPost_ret (v := .tuple #[.agg #[.int .i64 0, .int .i64 0], .bool false]) (by simp [results, Try.results9, go_sem]) rfl ⟨rfl, (Below.refl _ _).alloc (Nat.le_refl _) _⟩
theorem nil_state : Calls Try.prog 14 #[.pointer none, .int .i64 i] w fun e w' => e = .returned (.int .i64 (-1)) ∧ w = w' := by
  go_enter Try.func14, Try.ntmps14
  go_wp2_with (go_at_call 21; refine (nil_at _ _).mono ?_; rintro e w' ⟨rfl, rfl⟩)
  go_ret
  exact ⟨rfl, rfl⟩
theorem nil_gen : Calls Try.prog 16 #[.pointer none, .int .i64 i] w fun e w' => e = .returned (.int .i64 (-1)) ∧ w = w' := by
  go_enter Try.func16, Try.ntmps16
  go_wp2_with (go_at_call 21; refine (nil_at _ _).mono ?_; rintro e w' ⟨rfl, rfl⟩)
  go_ret
  exact ⟨rfl, rfl⟩
theorem nil_count : Calls Try.prog 18 #[.pointer none, .int .i64 i] w fun e w' => e = .returned (.int .i64 0) ∧ w = w' := by
  go_enter Try.func18, Try.ntmps18
  go_wp2
  go_ret
  exact ⟨rfl, rfl⟩
theorem nil_free : Calls Try.prog 13 #[.pointer none, .int .i64 i] w fun e w' => e = .returned (.bool false) ∧ w = w' := by
  go_enter Try.func13, Try.ntmps13
  go_wp2_with (go_at_call 21; refine (nil_at _ _).mono ?_; rintro e w' ⟨rfl, rfl⟩)
  go_ret
  exact ⟨rfl, rfl⟩
theorem nil_move : Calls Try.prog 11 #[.pointer none, .int .i64 i, .int .i64 z] w fun e w' => e = .returned (.bool false) ∧ w = w' := by
  go_enter Try.func11, Try.ntmps11
  go_wp2_with (go_at_call 21; refine (nil_at _ _).mono ?_; rintro e w' ⟨rfl, rfl⟩)
  go_ret
  exact ⟨rfl, rfl⟩
end
theorem state_lit {n m P Q B : Nat} {fv : Value} {s : Arn} (w : World) (h : ArnAt w B P Q fv s) (ok : s.Ok n m) (i r : Int) (hr : stateOf s.S i = r) :
    Calls Try.prog 14 #[.pointer (some ⟨P, 0, none⟩), .int .i64 i] w fun e w' => e = .returned (.int .i64 r) ∧ w = w' := by subst hr; exact state_any w h ok i
theorem gen_lit {n m P Q B : Nat} {fv : Value} {s : Arn} (w : World) (h : ArnAt w B P Q fv s) (ok : s.Ok n m) (i r : Int) (hr : genOf s.S s.G i = r) :
    Calls Try.prog 16 #[.pointer (some ⟨P, 0, none⟩), .int .i64 i] w fun e w' => e = .returned (.int .i64 r) ∧ w = w' := by subst hr; exact gen_any w h ok i
theorem count_lit {P Q B : Nat} {fv : Value} {s : Arn} (w : World) (h : ArnAt w B P Q fv s) (i r : Int) (hr : countOf s.S i = r) :
    Calls Try.prog 18 #[.pointer (some ⟨P, 0, none⟩), .int .i64 i] w fun e w' => e = .returned (.int .i64 r) ∧ w = w' := by subst hr; exact count_any w h i
theorem turned_blk {w w' : World} {B P Q : Nat} {fv : Value} {s : Arn} {b : Nat} {t : TypeId} {cs : Array Value} (ht : Turned w w' P Q fv) (h : ArnAt w B P Q fv s) (hb : Blk w b t cs) (h1 : t ≠ 53) (h2 : t ≠ 59) (h3 : 3 ≠ t) : Blk w' b t cs :=
  (ht.block b hb.lt (hb.ne_ h.two.hP h1) (hb.ne_ h.two.hQ h2) (fun e => own_blk_ne h.own hb h3 e.symm)).trans hb
end Go.Proofs.Ytoodcfldnojkjab
