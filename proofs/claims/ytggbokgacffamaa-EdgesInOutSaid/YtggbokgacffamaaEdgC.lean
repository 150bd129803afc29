/-
  The package edges: the reference's With and Without. Conditions: the slices read as lists of ints; at most a million of them.
-/
import Derived.Test.YtggbokgacffamaaEdgB
import Derived.Test.YtggbokgacffamaaFlat
namespace Go.Proofs.Ytggbokgacffamaa
open Go.RowKit

def encI (x : Int) : List Value := [.int .i64 x]
theorem flatI : Flat (Sh.int .i64) encI := flatInt .i64
/-- a list with a number, and without it -/
def withF (l : List Int) (x : Int) : List Int := if x ∈ l then l else l ++ [x]
def woF (l : List Int) (x : Int) : List Int := l.filter fun y => decide (y ≠ x)
theorem woF_snoc {l : List Int} {k : Nat} {x y : Int} (h : l[k]? = some y) : woF (l.take (k + 1)) x = woF (l.take k) x ++ if y = x then [] else [y] := by
  unfold woF
  rw [List.take_add_one, h, List.filter_append]
  by_cases e : y = x <;> simp [e]
theorem woF_le (l : List Int) (x : Int) (k : Nat) : (woF (l.take k) x).length ≤ k := by
  have := List.length_filter_le (fun y => decide (y ≠ x)) (l.take k)
  rw [List.length_take] at this
  unfold woF; omega
theorem info_intE : (Try.prog.info? 3).map (fun i => (i.zero, i.size, i.bytes)) = some (some (.int .i64 0), 1, 8) := by kernel_rfl
theorem own_start (w : World) (e : TypeId) (k : Nat) : (w.alloc (.cells #[] e)).ownsRow w.heap.size e k (.slice (some ⟨w.heap.size, 0, none⟩) 0 0) 0 [] :=
  ⟨by simp, .inr ⟨w.heap.size, 0, #[], rfl, Nat.le_refl _, heap_alloc_new _ _, Nat.le_refl _, Nat.zero_le _, by simp, by simp⟩⟩
set_option maxHeartbeats 1000000 in
theorem refWithout_any (A : Option Addr) (n c : Nat) (l : List Int) (x : Int) (w : World) (hx : Rd (Sh.int .i64) w w.heap.size A l) (hn : l.length = n) (hc : n ≤ c) (hm : c ≤ 9223372036854775807) (h6 : n ≤ 1000000) :
    Calls Try.prog 16 #[.slice A n c, .int .i64 x] w fun e w' => ∃ v, e = .returned v ∧ NewL (Sh.int .i64) w (woF l x) v w' := by
  have HX := hide hx
  have Hn := hide hn
  clear hx hn
  go_enter Try.func16, Try.ntmps16
  go_upto_region 3 with fail
  go_loopw [5, 7, 10] (fun v _ i wr => ∃ k : Nat, k ≤ n ∧ i = .int .i64 k ∧ Hid (wr.ownsRow w.heap.size 3 1 v (woF (l.take k) x).length (fcs encI (woF (l.take k) x))) ∧ Hid (Below w.heap.size w wr)) (fun _ _ i _ => n - (intOf i).toNat)
  case atStart => exact ⟨0, by omega, rfl, hide ⟨rfl, .inl ⟨rfl, rfl⟩⟩, hide (Below.refl _ _)⟩
  case round =>
    obtain ⟨k, hk, rfl, HO, HB⟩ := hrel
    by_cases hlt : k < n
    · obtain ⟨ad, y, rfl, _, hv, q0⟩ := RdR.icell (HX.out.below HB.out (Nat.le_refl _)) (k := k) (by have := Hn.out; omega)
      have g0 : (0 : Int) ≤ k := by omega
      have g1 : (k : Int) < n := by omega
      have HSn := hide (woF_snoc (x := x) hv)
      have Hle := hide (woF_le l x k)
      clear hv
      by_cases e : y = x
      · rw [if_pos e, List.append_nil] at HSn
        have he : (y != x) = false := by simp [e]
        clear e
        go_wp2
        go_roundw
        case rel => exact ⟨k + 1, by omega, by go_num, by rw [HSn.out]; exact HO, HB⟩
        case measure => simp [intOf]; omega
      · rw [if_neg e] at HSn
        have he : (y != x) = true := by simpa using e
        clear e
        generalize hu : woF (l.take k) x = u at *
        have Hu := hide hu
        clear hu
        go_wp2_with (at_builtin; refine wpList_append_elem rfl _ _ 22 rfl w.heap.size Try.underlying22 info_intE rfl (by decide) _ u.length _ rfl HO.out _ _ rfl rfl (by simp [Value.oneCell']) (by simp only [maxLen]; have := Hle.out; omega) (by have := Hle.out; omega) HB.out.size ?_; intro v' w9 hown9 hgr9 _; have HO9 := hide hown9; have HB9 := hide (below_own HB.out HO.out HB.out.size hgr9); clear hown9 hgr9)
        go_roundw
        case rel => exact ⟨k + 1, by omega, by go_num, hide (by rw [HSn.out, fcs_snoc, List.length_append]; exact HO9.out), HB9⟩
        case measure => simp [intOf]; omega
    · obtain rfl : k = n := by omega
      have hO := HO.out
      rw [List.take_of_length_le (by have := Hn.out; omega)] at hO
      have HF := hide (flatI.new hO HB.out)
      clear HO hO
      go_wp2
      go_ret
      exact ⟨_, rfl, HF.out⟩
end Go.Proofs.Ytggbokgacffamaa
