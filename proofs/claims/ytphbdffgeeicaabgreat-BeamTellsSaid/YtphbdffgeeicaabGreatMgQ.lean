/-
  Texts of one part, put together. No condition.
-/
import Derived.Test.YtphbdffgeeicaabGreatMgH
import Derived.Test.YtphbdffgeeicaabGreatRowN
/-
  The package edges: the reference's With and Without. Conditions: the slices read as lists of ints; at most a million of them.
-/
namespace Go.Proofs.YtphbdffgeeicaabGreat
open Go.RowKit

/-- a list with a number, and without it -/
def withF (l : List Int) (x : Int) : List Int := if x ∈ l then l else l ++ [x]
def woF (l : List Int) (x : Int) : List Int := l.filter fun y => decide (y ≠ x)
theorem woF_snoc {l : List Int} {k : Nat} {x y : Int} (h : l[k]? = some y) : woF (l.take (k + 1)) x = woF (l.take k) x ++ if y = x then [] else [y] := by
  unfold woF
  rw [List.take_add_one, h, List.filter_append]
  by_cases e : y = x <;> simp [e]
theorem woF_le (l : List Int) (x : Int) (k : Nat) : (woF (l.take k) x).length ≤ k := by
  have := List.length_filter_le (fun y => decide (y ≠ x)) (l.take k)
  rw [List.length_take] at this
  unfold woF; omega
end Go.Proofs.YtphbdffgeeicaabGreat

/-
  The package edges: the reference's With. Conditions: the slice reads as a list of ints; at most a million of them.
-/
namespace Go.Proofs.YtphbdffgeeicaabGreat
open Go.RowKit

theorem Rd.step {α : Type} {S : Sh α} {w w' : World} {A : Option Addr} {l : List α} (h : Rd S w w.heap.size A l) (hb : Below w.heap.size w w') : Rd S w' w'.heap.size A l :=
  RdR.rd (Rd.below h hb (Nat.le_refl _)) fun _ hl => Nat.lt_of_lt_of_le hl hb.size
set_option maxHeartbeats 1000000 in
theorem refWith_any (A : Option Addr) (n c : Nat) (l : List Int) (x : Int) (w : World) (hx : Rd (Sh.int .i64) w w.heap.size A l) (hn : l.length = n) (hc : n ≤ c) (hm : c ≤ 9223372036854775807) (h6 : n ≤ 1000000) :
    Calls Tryz.prog 65 #[.slice A n c, .int .i64 x] w fun e w' => ∃ v, e = .returned v ∧ NewL (Sh.int .i64) w (withF l x) v w' := by
  have HX := hide hx
  have Hn := hide hn
  have HO0 := hide (own_start w 3 1)
  have HB0 := hide (below1 w (.cells #[] 3))
  have HR0 := hide (flatI.reads (fun _ h => h) (HX.out.step HB0.out) Hn.out)
  obtain ⟨i1, hi1, hz1⟩ := Option.map_eq_some_iff.1 info_intE
  simp only [Prod.mk.injEq] at hz1
  have HI := hide hi1
  have HZ := hide hz1.1
  have HS := hide hz1.2.1
  have HY := hide hz1.2.2
  clear hx hn hi1 hz1
  go_enter Tryz.func65, Tryz.ntmps65
  go_upto_region 2 with (at_builtin; refine wpList_append_any _ rfl _ _ 27 rfl w.heap.size 3 i1 _ 1 8 Tryz.underlying27 HI.out HZ.out HS.out HY.out rfl (by decide) _ 0 _ rfl HO0.out _ A n c (fcs encI l) rfl HR0.out (flatI.ones l) (by simp only [maxLen]; omega) (by omega) HB0.out.size ?_; intro v3 w3 hown hgr _; have HO3 := hide hown; have HB3 := hide (below_own HB0.out HO0.out HB0.out.size hgr); clear hown hgr)
  have HO4 := hide (show w3.ownsRow w.heap.size 3 1 v3 n (fcs encI l) by have h := HO3.out; simpa using h)
  have HC := hide (refHas_any A n c l x w3 (HX.out.step HB3.out) Hn.out hc hm)
  clear HO0 HB0 HR0 HO3
  by_cases e : x ∈ l
  · have HF := hide (show withF l x = l by unfold withF; rw [if_pos e])
    rw [decide_eq_true e] at HC
    clear e
    go_wp2_with (go_at_call 88; refine HC.out.mono ?_; rintro e _ ⟨rfl, rfl⟩)
    go_ret
    exact ⟨_, rfl, by rw [HF.out]; exact flatI.new HO4.out HB3.out⟩
  · have HF := hide (show withF l x = l ++ [x] by unfold withF; rw [if_neg e])
    rw [decide_eq_false e] at HC
    clear e
    go_wp2_with (first
      | (go_at_call 88; refine HC.out.mono ?_; rintro e _ ⟨rfl, rfl⟩)
      | (at_builtin; refine wpList_append_elem rfl _ _ 27 rfl w.heap.size Tryz.underlying27 info_intE rfl (by decide) _ n _ rfl HO4.out _ _ rfl rfl (by simp [Value.oneCell']) (by simp only [maxLen]; omega) (by omega) HB3.out.size ?_; intro v' w9 hown9 hgr9 _; have HO9 := hide hown9; have HB9 := hide (below_own HB3.out HO4.out HB3.out.size hgr9); clear hown9 hgr9))
    go_ret
    exact ⟨_, rfl, by rw [HF.out]; exact flatI.new (by rw [fcs_snoc]; exact HO9.out) HB9.out⟩
end Go.Proofs.YtphbdffgeeicaabGreat
