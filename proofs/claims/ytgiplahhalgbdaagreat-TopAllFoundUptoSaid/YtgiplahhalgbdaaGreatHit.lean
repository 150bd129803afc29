/-
  Hits: their shape, their cells, '=='. No condition.
-/
import Derived.Test.YtgiplahhalgbdaaGreatChecked
import Derived.Test.YtgiplahhalgbdaaGreatLib2
import Derived.IntWalk
namespace Go.Proofs.YtgiplahhalgbdaaGreat
set_option linter.unusedSimpArgs false
set_option linter.unusedVariables false
open Go.RowKit

abbrev Hit : Type := Int × Int
def wfH (h : Hit) : Prop := (0 ≤ h.1 ∧ h.1 ≤ 18446744073709551615) ∧ 0 ≤ h.2 ∧ h.2 ≤ 18446744073709551615
def SH : Sh Hit := Sh.pair (Sh.int .u64) (Sh.int .u64)
section
variable {w : World} {R : Nat → Prop} {B : Nat} {A : Option Addr} {l : List Hit}
theorem RdR.hcell (h : RdR SH w R A l) {k : Nat} (hk : k < l.length) : ∃ ad x, A = some ad ∧ R ad.block ∧ l[k]? = some x ∧ w.cell? (ad.add (k * 2)) = some (.int .u64 x.1) ∧ w.cell? ⟨(ad.add (k * 2)).block, (ad.add (k * 2)).off + 1, none⟩ = some (.int .u64 x.2) := by
  obtain ⟨ad, x, cs, e, hb, hx, hr, hc⟩ := h.at_ hk
  obtain ⟨c, d, rfl, hr1, hr2⟩ := hr
  have h1 : c = [.int .u64 x.1] := hr1
  have h2 : d = [.int .u64 x.2] := hr2
  subst h1 h2
  refine ⟨ad, x, e, hb, hx, by simpa [SH, Sh.pair, Sh.int] using hc 0 _ rfl, ?_⟩
  have := hc 1 _ rfl
  rw [show SH.size = 2 from rfl, ← add_of_add] at this
  exact this
theorem Rd.hcell (h : Rd SH w B A l) {k : Nat} (hk : k < l.length) : ∃ ad x, A = some ad ∧ ad.block < B ∧ l[k]? = some x ∧ w.cell? (ad.add (k * 2)) = some (.int .u64 x.1) ∧ w.cell? ⟨(ad.add (k * 2)).block, (ad.add (k * 2)).off + 1, none⟩ = some (.int .u64 x.2) := RdR.hcell h hk
end
theorem run_equal_hit (a b c d : Int) (W : World) : (Op.equalIn 10000 42 (.agg #[.int .u64 a, .int .u64 b]) (.agg #[.int .u64 c, .int .u64 d])).run Tryz.prog W = .ok (a == c && b == d) W := by
  rw [show (10000 : Nat) = 9998 + 1 + 1 from rfl, run_equalIn_struct W (9998 + 1) 42 _ _ (by kernel_rfl) (by kernel_rfl)]
  have hf : (Tryz.prog.fieldsOf 42).toList.map (fun f => (f.name == "_", f.type, f.offset)) = [(false, 26, 0), (false, 26, 1)] := by kernel_rfl
  generalize (Tryz.prog.fieldsOf 42).toList = fs at hf
  obtain ⟨f, g, rfl⟩ : ∃ f g, fs = [f, g] := by
    have hl : fs.length = 2 := by simpa using congrArg List.length hf
    rcases fs with _ | ⟨f, _ | ⟨g, _ | ⟨x, l⟩⟩⟩ <;> simp at hl
    exact ⟨f, g, rfl⟩
  · simp at hf
    obtain ⟨⟨n1, t1, o1⟩, n2, t2, o2⟩ := hf
    have hp : ∀ x y : Int, ∀ j : Nat, j < 2 → (part 26 #[.int .u64 x, .int .u64 y] j).run Tryz.prog W = .ok (if j = 0 then .int .u64 x else .int .u64 y) W := by
      intro x y j hj
      have : j = 0 ∨ j = 1 := by omega
      rcases this with rfl | rfl <;> simp [part, run_isAgg_int W Tryz.underlying26]
    have he := fun x y : Int => run_equalIn_int (P := Tryz.prog) W 9998 26 .u64 .u64 x y Tryz.underlying26
    simp only [Op.eqFields, n1, n2, t1, t2, o1, o2, Sem.run_ite, Sem.run_bind, hp, Result.andThen_ok, he, ne_eq]
    cases h1 : (a == c) <;> cases h2 : (b == d) <;> simp [h1, h2, n1, n2, Sem.run_bind, hp, he, Result.andThen_ok]
theorem run_eql_hit (a b c d : Int) {r : Bool} (h : (a == c && b == d) = r) (W : World) : (binOp .eql 42 (.agg #[.int .u64 a, .int .u64 b]) (.agg #[.int .u64 c, .int .u64 d])).run Tryz.prog W = .ok (.bool r) W := by
  rw [run_eql_struct, run_equal_hit, h]; rfl
theorem run_neq_hit (a b c d : Int) {r : Bool} (h : (a == c && b == d) = r) (W : World) : (binOp .neq 42 (.agg #[.int .u64 a, .int .u64 b]) (.agg #[.int .u64 c, .int .u64 d])).run Tryz.prog W = .ok (.bool (!r)) W := by
  rw [run_neq_struct, run_equal_hit, h]; rfl
theorem hit_same {x y : Hit} (h : x = y) : (x.1 == y.1 && x.2 == y.2) = true := by subst h; simp
theorem hit_other {x y : Hit} (h : x ≠ y) : (x.1 == y.1 && x.2 == y.2) = false := by
  cases h1 : (x.1 == y.1 && x.2 == y.2) with
  | false => rfl
  | true => simp at h1; exact (h (Prod.ext h1.1 h1.2)).elim

end Go.Proofs.YtgiplahhalgbdaaGreat
