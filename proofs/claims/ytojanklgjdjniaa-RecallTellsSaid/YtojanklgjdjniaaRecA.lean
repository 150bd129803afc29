/-
  The package recall, its small functions: first, has, held, permille; hits as cells. Conditions: the slices read as lists of hits.
-/
import Derived.Test.YtojanklgjdjniaaChecked
import Derived.Test.YtojanklgjdjniaaRecM
import Derived.IntWalk
namespace Go.Proofs.Ytojanklgjdjniaa
open Go.RowKit

def SH : Sh Hit := Sh.pair (Sh.int .u64) (Sh.int .u64)
section
variable {w : World} {R : Nat → Prop} {B : Nat} {A : Option Addr} {l : List Hit}
theorem RdR.hcell (h : RdR SH w R A l) {k : Nat} (hk : k < l.length) : ∃ ad x, A = some ad ∧ R ad.block ∧ l[k]? = some x ∧ w.cell? (ad.add (k * 2)) = some (.int .u64 x.1) ∧ w.cell? ⟨(ad.add (k * 2)).block, (ad.add (k * 2)).off + 1, none⟩ = some (.int .u64 x.2) := by
  obtain ⟨ad, x, cs, e, hb, hx, hr, hc⟩ := h.at_ hk
  obtain ⟨c, d, rfl, hr1, hr2⟩ := hr
  have h1 : c = [.int .u64 x.1] := hr1
  have h2 : d = [.int .u64 x.2] := hr2
  subst h1 h2
  refine ⟨ad, x, e, hb, hx, by simpa [SH, Sh.pair, Sh.int] using hc 0 _ rfl, ?_⟩
  have := hc 1 _ rfl
  rw [show SH.size = 2 from rfl, ← add_of_add] at this
  exact this
theorem Rd.hcell (h : Rd SH w B A l) {k : Nat} (hk : k < l.length) : ∃ ad x, A = some ad ∧ ad.block < B ∧ l[k]? = some x ∧ w.cell? (ad.add (k * 2)) = some (.int .u64 x.1) ∧ w.cell? ⟨(ad.add (k * 2)).block, (ad.add (k * 2)).off + 1, none⟩ = some (.int .u64 x.2) := RdR.hcell h hk
end
theorem run_equal_hit (a b c d : Int) (W : World) : (Op.equalIn 10000 35 (.agg #[.int .u64 a, .int .u64 b]) (.agg #[.int .u64 c, .int .u64 d])).run Try.prog W = .ok (a == c && b == d) W := by
  rw [show (10000 : Nat) = 9998 + 1 + 1 from rfl, run_equalIn_struct W (9998 + 1) 35 _ _ (by kernel_rfl) (by kernel_rfl)]
  have hf : (Try.prog.fieldsOf 35).toList.map (fun f => (f.name == "_", f.type, f.offset)) = [(false, 30, 0), (false, 30, 1)] := by kernel_rfl
  generalize (Try.prog.fieldsOf 35).toList = fs at hf
  obtain ⟨f, g, rfl⟩ : ∃ f g, fs = [f, g] := by
    have hl : fs.length = 2 := by simpa using congrArg List.length hf
    rcases fs with _ | ⟨f, _ | ⟨g, _ | ⟨x, l⟩⟩⟩ <;> simp at hl
    exact ⟨f, g, rfl⟩
  · simp at hf
    obtain ⟨⟨n1, t1, o1⟩, n2, t2, o2⟩ := hf
    have hp : ∀ x y : Int, ∀ j : Nat, j < 2 → (part 30 #[.int .u64 x, .int .u64 y] j).run Try.prog W = .ok (if j = 0 then .int .u64 x else .int .u64 y) W := by
      intro x y j hj
      have : j = 0 ∨ j = 1 := by omega
      rcases this with rfl | rfl <;> simp [part, run_isAgg_int W Try.underlying30]
    have he := fun x y : Int => run_equalIn_int (P := Try.prog) W 9998 30 .u64 .u64 x y Try.underlying30
    simp only [Op.eqFields, n1, n2, t1, t2, o1, o2, Sem.run_ite, Sem.run_bind, hp, Result.andThen_ok, he, ne_eq]
    cases h1 : (a == c) <;> cases h2 : (b == d) <;> simp [h1, h2, n1, n2, Sem.run_bind, hp, he, Result.andThen_ok]
theorem run_eql_hit (a b c d : Int) {r : Bool} (h : (a == c && b == d) = r) (W : World) : (binOp .eql 35 (.agg #[.int .u64 a, .int .u64 b]) (.agg #[.int .u64 c, .int .u64 d])).run Try.prog W = .ok (.bool r) W := by
  rw [run_eql_struct, run_equal_hit, h]; rfl
theorem run_neq_hit (a b c d : Int) {r : Bool} (h : (a == c && b == d) = r) (W : World) : (binOp .neq 35 (.agg #[.int .u64 a, .int .u64 b]) (.agg #[.int .u64 c, .int .u64 d])).run Try.prog W = .ok (.bool (!r)) W := by
  rw [run_neq_struct, run_equal_hit, h]; rfl
theorem hit_same {x y : Hit} (h : x = y) : (x.1 == y.1 && x.2 == y.2) = true := by subst h; simp
theorem hit_other {x y : Hit} (h : x ≠ y) : (x.1 == y.1 && x.2 == y.2) = false := by
  cases h1 : (x.1 == y.1 && x.2 == y.2) with
  | false => rfl
  | true => simp at h1; exact (h (Prod.ext h1.1 h1.2)).elim

theorem sl_eq {A : Option Addr} {x y c : Nat} (h : x = y) : Value.slice A x c = Value.slice A y c := by rw [h]
/-- how many are first -/
def fstN (k : Int) (n : Nat) : Nat := min k.toNat n
theorem fstN_le (k : Int) (n : Nat) : fstN k n ≤ n := Nat.min_le_right _ _
set_option maxHeartbeats 1000000 in
theorem first_any (A : Option Addr) (n c : Nat) (k : Int) (w : World) (hc : n ≤ c) (hm : c ≤ 9223372036854775807) :
    Calls Try.prog 17 #[.slice A n c, .int .i64 k] w fun e w' => e = .returned (.slice A (fstN k n) c) ∧ w = w' := by
  by_cases h0 : k < 0
  · have e : fstN k n = 0 := by unfold fstN; omega
    have g1 : ¬ (n : Int) < k := by omega
    have g2 : k < (n : Int) := by omega
    rw [e]
    go_enter Try.func17, Try.ntmps17
    go_wp2
    all_goals go_ret
    all_goals exact ⟨congrArg Ending.returned (sl_eq (by omega)), rfl⟩
  · obtain ⟨j, rfl⟩ : ∃ j : Nat, k = j := ⟨k.toNat, by omega⟩
    by_cases h1 : j < n
    · have e : fstN j n = j := by unfold fstN; omega
      have g1 : ¬ n < j := by omega
      rw [e]
      go_enter Try.func17, Try.ntmps17
      go_wp2
      all_goals go_ret
      all_goals exact ⟨congrArg Ending.returned (sl_eq (by omega)), rfl⟩
    · have e : fstN j n = n := by unfold fstN; omega
      rw [e]
      by_cases h2 : n < j
      · go_enter Try.func17, Try.ntmps17
        go_wp2
        all_goals go_ret
        all_goals exact ⟨congrArg Ending.returned (sl_eq (by omega)), rfl⟩
      · obtain rfl : j = n := by omega
        go_enter Try.func17, Try.ntmps17
        go_wp2
        all_goals go_ret
        all_goals exact ⟨congrArg Ending.returned (sl_eq (by omega)), rfl⟩
set_option maxHeartbeats 1000000 in
theorem refFirst_any (A : Option Addr) (n c : Nat) (k : Int) (w : World) (hc : n ≤ c) (hm : c ≤ 9223372036854775807) :
    Calls Try.prog 18 #[.slice A n c, .int .i64 k] w fun e w' => e = .returned (.slice A (fstN k n) c) ∧ w = w' := by
  by_cases h0 : k < 0
  · have e : fstN k n = 0 := by unfold fstN; omega
    have g1 : ¬ (n : Int) < k := by omega
    have g2 : k < (n : Int) := by omega
    rw [e]
    go_enter Try.func18, Try.ntmps18
    go_wp2
    all_goals go_ret
    all_goals exact ⟨congrArg Ending.returned (sl_eq (by omega)), rfl⟩
  · obtain ⟨j, rfl⟩ : ∃ j : Nat, k = j := ⟨k.toNat, by omega⟩
    by_cases h1 : j < n
    · have e : fstN j n = j := by unfold fstN; omega
      have g1 : ¬ n < j := by omega
      rw [e]
      go_enter Try.func18, Try.ntmps18
      go_wp2
      all_goals go_ret
      all_goals exact ⟨congrArg Ending.returned (sl_eq (by omega)), rfl⟩
    · have e : fstN j n = n := by unfold fstN; omega
      rw [e]
      by_cases h2 : n < j
      · go_enter Try.func18, Try.ntmps18
        go_wp2
        all_goals go_ret
        all_goals exact ⟨congrArg Ending.returned (sl_eq (by omega)), rfl⟩
      · obtain rfl : j = n := by omega
        go_enter Try.func18, Try.ntmps18
        go_wp2
        all_goals go_ret
        all_goals exact ⟨congrArg Ending.returned (sl_eq (by omega)), rfl⟩
/-- a part as it counts -/
def hB (b : Int) : Int := min b 2147483647
def hA (a b : Int) : Int := max 0 (min a (hB b))
theorem hB_le (b : Int) : hB b ≤ 2147483647 := by unfold hB; omega
theorem hA_le (a b : Int) : 0 ≤ hA a b ∧ hA a b ≤ 2147483647 := by unfold hA hB; omega
theorem agg2 {a b c d : Int} (h : a = b) (k : c = d) : Value.agg #[.int .i64 a, .int .i64 c] = Value.agg #[.int .i64 b, .int .i64 d] := by rw [h, k]
theorem tup2 {a b c d : Int} (h : a = b) (k : c = d) : Ending.returned (.tuple #[.int .i64 a, .int .i64 c]) = Ending.returned (.tuple #[.int .i64 b, .int .i64 d]) := by rw [h, k]
theorem part_cell {fn : Func} {p : Tmp} (h : fn.results = #[.cell p 42]) (tmps : Array Value) (w : World) (g : Nat) (x y : Int) (hp : tmps.getD p undef = .pointer (some ⟨g, 0, none⟩)) (hg : w.heap[g]? = some (.cells #[.int .i64 x, .int .i64 y] 42 (0, 0))) :
    (results fn tmps).run Try.prog w = .ok (.agg #[.int .i64 x, .int .i64 y]) w :=
  results_cell_row h tmps w g 42 _ (0, 0) _ hp hg Try.underlying42 rfl (by kernel_rfl)
set_option maxHeartbeats 1000000 in
theorem held_any (a b : Int) (w : World) : Calls Try.prog 20 #[.int .i64 a, .int .i64 b] w fun e w' => e = .returned (.agg #[.int .i64 (hA a b), .int .i64 (hB b)]) ∧ Below w.heap.size w w' := by
  go_enter Try.func20, Try.ntmps20
  go_wp2
  all_goals refine bodyPost_ret (part_cell rfl _ _ w.heap.size _ _ rfl (heap_alloc_new _ _)) rfl ⟨congrArg Ending.returned (agg2 ?_ ?_), below1 _ _⟩
  all_goals (simp only [hA, hB]; omega)
set_option maxHeartbeats 1000000 in
theorem refHeld_any (a b : Int) (w : World) : Calls Try.prog 22 #[.int .i64 a, .int .i64 b] w fun e w' => e = .returned (.tuple #[.int .i64 (hA a b), .int .i64 (hB b)]) ∧ w = w' := by
  go_enter Try.func22, Try.ntmps22
  go_wp2
  all_goals go_ret2
  all_goals refine ⟨tup2 ?_ ?_, rfl⟩
  all_goals (simp only [hA, hB]; omega)
end Go.Proofs.Ytojanklgjdjniaa
