/-
  Spots: their shape, their cells, '=='; whether two lists of spots are equal. Conditions: the slices read as lists of spots.
-/
import Derived.Test.YtgiplahhalgbdaaGreatMgI
import Derived.Test.YtgiplahhalgbdaaGreatHitS
namespace Go.Proofs.YtgiplahhalgbdaaGreat
set_option linter.unusedSimpArgs false
set_option linter.unusedVariables false
open Go.RowKit Go.Lib Go.Sort

def SP : Sh Spt := Sh.pair SH (Sh.int .i64)
theorem RdR.scell {w : World} {R : Nat → Prop} {A : Option Addr} {l : List Spt} (h : RdR SP w R A l) {k : Nat} (hk : k < l.length) : ∃ ad x, A = some ad ∧ R ad.block ∧ l[k]? = some x ∧ w.cell? (ad.add (k * 3)) = some (.int .u64 x.1.1) ∧ w.cell? ⟨(ad.add (k * 3)).block, (ad.add (k * 3)).off + 1, none⟩ = some (.int .u64 x.1.2) ∧ w.cell? ⟨(ad.add (k * 3)).block, (ad.add (k * 3)).off + 2, none⟩ = some (.int .i64 x.2) := by
  obtain ⟨ad, x, cs, e, hb, hx, hr, hc⟩ := h.at_ hk
  obtain ⟨c, d, rfl, hr1, hr2⟩ := hr
  obtain ⟨c', d', rfl, hr3, hr4⟩ := hr1
  have h1 : c' = [.int .u64 x.1.1] := hr3
  have h2 : d' = [.int .u64 x.1.2] := hr4
  have h3 : d = [.int .i64 x.2] := hr2
  subst h1 h2 h3
  have c0 := hc 0 _ rfl
  have c1 := hc 1 _ rfl
  have c2 := hc 2 _ rfl
  rw [show SP.size = 3 from rfl, ← add_of_add] at c1 c2
  refine ⟨ad, x, e, hb, hx, ?_, c1, c2⟩
  simpa [SP, SH, Sh.pair, Sh.int] using c0
theorem run_equal_hit2 (n : Nat) (a b c d : Int) (W : World) : (Op.equalIn (n + 1 + 1) 42 (.agg #[.int .u64 a, .int .u64 b]) (.agg #[.int .u64 c, .int .u64 d])).run Tryz.prog W = .ok (a == c && b == d) W := by
  rw [run_equalIn_struct W (n + 1) 42 _ _ (by kernel_rfl) (by kernel_rfl)]
  have hf : (Tryz.prog.fieldsOf 42).toList.map (fun f => (f.name == "_", f.type, f.offset)) = [(false, 26, 0), (false, 26, 1)] := by kernel_rfl
  generalize (Tryz.prog.fieldsOf 42).toList = fs at hf
  obtain ⟨f, g, rfl⟩ : ∃ f g, fs = [f, g] := by
    have hl : fs.length = 2 := by simpa using congrArg List.length hf
    rcases fs with _ | ⟨f, _ | ⟨g, _ | ⟨x, l⟩⟩⟩ <;> simp at hl
    exact ⟨f, g, rfl⟩
  · simp at hf
    obtain ⟨⟨n1, t1, o1⟩, n2, t2, o2⟩ := hf
    have hp : ∀ x y : Int, ∀ j : Nat, j < 2 → (part 26 #[.int .u64 x, .int .u64 y] j).run Tryz.prog W = .ok (if j = 0 then .int .u64 x else .int .u64 y) W := by
      intro x y j hj
      have : j = 0 ∨ j = 1 := by omega
      rcases this with rfl | rfl <;> simp [part, run_isAgg_int W Tryz.underlying26]
    have he := fun x y : Int => run_equalIn_int (P := Tryz.prog) W n 26 .u64 .u64 x y Tryz.underlying26
    simp only [Op.eqFields, n1, n2, t1, t2, o1, o2, Sem.run_ite, Sem.run_bind, hp, Result.andThen_ok, he, ne_eq]
    cases h1 : (a == c) <;> cases h2 : (b == d) <;> simp [h1, h2, n1, n2, Sem.run_bind, hp, he, Result.andThen_ok]
theorem run_equal_spot (a b s c d u : Int) (W : World) : (Op.equalIn 10000 60 (.agg #[.int .u64 a, .int .u64 b, .int .i64 s]) (.agg #[.int .u64 c, .int .u64 d, .int .i64 u])).run Tryz.prog W = .ok ((a == c && b == d) && s == u) W := by
  rw [show (10000 : Nat) = 9997 + 1 + 1 + 1 from rfl, run_equalIn_struct W (9997 + 1 + 1) 60 _ _ (by kernel_rfl) (by kernel_rfl)]
  have hf : (Tryz.prog.fieldsOf 60).toList.map (fun f => (f.name == "_", f.type, f.offset)) = [(false, 42, 0), (false, 3, 2)] := by kernel_rfl
  generalize (Tryz.prog.fieldsOf 60).toList = fs at hf
  obtain ⟨f, g, rfl⟩ : ∃ f g, fs = [f, g] := by
    have hl : fs.length = 2 := by simpa using congrArg List.length hf
    rcases fs with _ | ⟨f, _ | ⟨g, _ | ⟨x, l⟩⟩⟩ <;> simp at hl
    exact ⟨f, g, rfl⟩
  · simp at hf
    obtain ⟨⟨n1, t1, o1⟩, n2, t2, o2⟩ := hf
    have hp : ∀ x y z : Int, (part 42 #[.int .u64 x, .int .u64 y, .int .i64 z] 0).run Tryz.prog W = .ok (.agg #[.int .u64 x, .int .u64 y]) W := by
      intro x y z
      simp [part, Tryz.isAgg42, Tryz.sizeOf42]
    have hq : ∀ x y z : Int, (part 3 #[.int .u64 x, .int .u64 y, .int .i64 z] 2).run Tryz.prog W = .ok (.int .i64 z) W := by
      intro x y z
      simp [part, run_isAgg_int W Tryz.underlying3]
    have he := fun x y : Int => run_equalIn_int (P := Tryz.prog) W (9997 + 1) 3 .i64 .i64 x y Tryz.underlying3
    have hh := fun x y z t : Int => run_equal_hit2 9997 x y z t W
    simp only [Op.eqFields, n1, n2, t1, t2, o1, o2, Sem.run_ite, Sem.run_bind, hp, hq, hh, Result.andThen_ok, he, ne_eq]
    cases h1 : (a == c && b == d) <;> cases h2 : (s == u) <;> simp [h1, h2, n1, n2, Sem.run_bind, hp, hq, hh, he, Result.andThen_ok]
theorem run_eql_spot (a b s c d u : Int) {r : Bool} (h : ((a == c && b == d) && s == u) = r) (W : World) : (binOp .eql 60 (.agg #[.int .u64 a, .int .u64 b, .int .i64 s]) (.agg #[.int .u64 c, .int .u64 d, .int .i64 u])).run Tryz.prog W = .ok (.bool r) W := by
  rw [run_eql_struct, run_equal_spot, h]; rfl
theorem run_neq_spot (a b s c d u : Int) {r : Bool} (h : ((a == c && b == d) && s == u) = r) (W : World) : (binOp .neq 60 (.agg #[.int .u64 a, .int .u64 b, .int .i64 s]) (.agg #[.int .u64 c, .int .u64 d, .int .i64 u])).run Tryz.prog W = .ok (.bool (!r)) W := by
  rw [run_neq_struct, run_equal_spot, h]; rfl
theorem spot_same {a b s c d u : Int} (h : ((a, b), s) = ((c, d), u)) : ((a == c && b == d) && s == u) = true := by
  injection h with h1 h2; injection h1 with h3 h4; subst h2 h3 h4; simp
theorem spot_other {a b s c d u : Int} (h : ((a, b), s) ≠ ((c, d), u)) : ((a == c && b == d) && s == u) = false := by
  cases h1 : ((a == c && b == d) && s == u) with
  | false => rfl
  | true => simp at h1; obtain ⟨⟨rfl, rfl⟩, rfl⟩ := h1; exact (h rfl).elim
end Go.Proofs.YtgiplahhalgbdaaGreat
