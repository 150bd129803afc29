/-
  Maps from integers to integers. No condition.
-/
import Derived.Test.YtgiplahhalgbdaaGreatMap
import Derived.Test.YtgiplahhalgbdaaGreatChecked
namespace Go.Proofs.YtgiplahhalgbdaaGreat
set_option linter.unusedSimpArgs false
set_option linter.unusedVariables false
open Go.RowKit

theorem wfI {x : Int} (h : -9223372036854775808 ≤ x ∧ x ≤ 9223372036854775807) : (Lit.int .i64 x).wf = true := by
  simp only [Lit.wf, Bool.and_eq_true, decide_eq_true_eq]; exact h
theorem intZeroI (u : World) : (zeroValue 3).run Tryz.prog u = .ok (Value.int .i64 0) u := by kernel_rfl
theorem MapA.atI {w : World} {b : Nat} {m : List (Int × Int)} (h : MapA .i64 (Value.int .i64) w b m) {x : Int} (hw : (Lit.int .i64 x).wf = true) :
    (Instr.lookup 94 (.map (some b)) (.int .i64 x) false).run Tryz.prog w = .ok (.int .i64 ((lookF m x).getD 0)) w :=
  h.look Tryz.underlying3 Tryz.underlying94 (d := 0) intZeroI hw
theorem MapA.setI {w : World} {b : Nat} {m : List (Int × Int)} (h : MapA .i64 (Value.int .i64) w b m) {x : Int} (hw : (Lit.int .i64 x).wf = true) (v : Int) : ∃ w' : World,
    (Instr.mapUpdate 94 (.map (some b)) (.int .i64 x) (.int .i64 v)).run Tryz.prog w = .ok () w' ∧ MapA .i64 (Value.int .i64) w' b (putF m x v) ∧ MapPut w w' b :=
  h.put Tryz.underlying3 Tryz.underlying94 hw v
theorem own_ne_map {β : Type} {kd : IntKind} {enc : β → Value} {w : World} {base b n k : Nat} {e : TypeId} {v : Value} {xs : List Value} {m : List (Int × β)} (h : w.ownsRow base e k v n xs) (hm : MapA kd enc w b m) : v.ownBlock ≠ some b := fun hv => by
  obtain ⟨es, cl, h1, _⟩ := hm
  rcases h.2 with ⟨rfl, _⟩ | ⟨g', cap, cur, rfl, _, hh, _⟩
  · simp [Value.ownBlock] at hv
  · have : g' = b := by simpa [Value.ownBlock] using hv
    subst this
    rw [h1] at hh
    cases hh
theorem blk_ne_map {β : Type} {kd : IntKind} {enc : β → Value} {w : World} {g b : Nat} {t : TypeId} {cs : Array Value} {m : List (Int × β)} (h : Blk w g t cs) (hm : MapA kd enc w b m) : g ≠ b := fun e => by
  obtain ⟨es, cl, h1, _⟩ := hm
  subst e
  unfold Blk at h
  rw [h1] at h
  cases h
theorem own_put {β : Type} {kd : IntKind} {enc : β → Value} {w w' : World} {base b n k : Nat} {e : TypeId} {v : Value} {xs : List Value} {m : List (Int × β)} (h : w.ownsRow base e k v n xs) (hm : MapA kd enc w b m) (hp : MapPut w w' b) : w'.ownsRow base e k v n xs :=
  own_keep h fun g hg => hp.2.2.2.2 g fun e2 => own_ne_map h hm (e2 ▸ hg)
theorem map_grown {β : Type} {kd : IntKind} {enc : β → Value} {w w' : World} {base b n k : Nat} {e : TypeId} {v : Value} {xs : List Value} {m : List (Int × β)} (hm : MapA kd enc w b m) (h : w.ownsRow base e k v n xs) (hg : w.grownBy w' v.ownBlock) : MapA kd enc w' b m :=
  hm.block (hg.block b hm.lt fun e2 => own_ne_map h hm e2.symm)
/-- each of a list once -/
def ones (l : List Int) : List (Int × Int) := l.map fun x => (x, 1)
theorem look_ones (l : List Int) (x : Int) : lookF (ones l) x = if x ∈ l then some 1 else none := by
  by_cases h : x ∈ l
  · rw [if_pos h]
    unfold lookF ones
    induction l with
    | nil => simp at h
    | cons y l ih =>
      rw [List.map_cons, List.find?_cons]
      by_cases e : y = x
      · simp [e]
      · have h2 : x ∈ l := by
          rcases List.mem_cons.1 h with h | h
          · exact absurd h.symm e
          · exact h
        rw [show ((y, (1 : Int)).1 == x) = false by simpa using e]
        exact ih h2
  · rw [if_neg h]
    refine lookF_none fun p hp e => h ?_
    obtain ⟨y, hy, rfl⟩ := List.mem_map.1 hp
    exact e ▸ hy
theorem put_ones {l : List Int} {x : Int} (h : x ∉ l) : putF (ones l) x 1 = ones (l ++ [x]) := by
  unfold putF
  rw [if_neg (by rw [look_ones, if_neg h]; simp)]
  simp [ones]
end Go.Proofs.YtgiplahhalgbdaaGreat
