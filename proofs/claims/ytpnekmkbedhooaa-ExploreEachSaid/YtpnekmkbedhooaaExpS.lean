/-
  The plain law of ExploreEach: what an order has, where it is, and that orders rise with their places. No program in sight.
-/
import Derived.Test.YtpnekmkbedhooaaExpR
namespace Go.Proofs.Ytpnekmkbedhooaa
open Go.RowKit

theorem getD_dec {l : List Nat} {w : Nat} (hw : w < l.length) (i : Nat) : (dec l w).getD i 0 = if i = w then l.getD w 0 - 1 else l.getD i 0 := dec_getD l w i hw
theorem nth_cnt {l : List Nat} {n : Nat} {o : List Nat} (h : Nth l n o) : (∀ w, o.count w = l.getD w 0) ∧ ∀ x ∈ o, x < l.length := by
  induction h with
  | last h =>
    rename_i l
    refine ⟨fun w => ?_, fun x hx => by simp at hx⟩
    have := getD_le_sum l w
    rw [List.count_nil]; omega
  | next hw _ ih =>
    rename_i l n v o _
    refine ⟨fun w => ?_, fun x hx => ?_⟩
    · have h1 := ih.1 w
      rw [getD_dec hw.1] at h1
      have h2 := hw.2.1
      rw [List.count_cons, h1]
      by_cases e : w = v
      · subst e; rw [if_pos rfl, if_pos (by simp)]; omega
      · rw [if_neg e, if_neg (by simp; exact fun h => e h.symm)]; omega
    · rcases List.mem_cons.1 hx with rfl | hx
      · exact hw.1
      · have := ih.2 x hx; rwa [dec_len] at this
theorem nth_plc {l : List Nat} {n : Nat} {o : List Nat} (h : Nth l n o) : plc l (ni o) = some n := by
  induction h with
  | last h => rfl
  | next hw _ ih =>
    rename_i l n v o _
    show plc l ((v : Int) :: ni o) = some n
    rw [plc_next _ hw.1 hw.2.1, ih]
    simp only [Option.map_some]
    congr 1
    have := hw.2.2.1
    omega
theorem nth_pla {xs : List Int} {n : Nat} {o : List Nat} (h : Nth (tn xs) n o) (hn : n < cntOf xs) : plaOf xs (ni o) = some n := by
  obtain ⟨hok, _, hlt⟩ := cnt_ok hn
  unfold plaOf
  rw [if_pos ⟨hok, by rw [ni_len, nth_len h]⟩, nth_plc h]
  simp [Option.filter, hlt]
theorem nth_rise {l : List Nat} {n : Nat} {a : List Nat} (h : Nth l n a) : ∀ {m : Nat} {b : List Nat}, Nth l m b → ∀ (i x y : Nat), a.take i = b.take i → a[i]? = some x → b[i]? = some y → x < y → n < m := by
  induction h with
  | last h => intro m b _ i x y _ hx; simp at hx
  | next hw h' ih =>
    rename_i l n v a
    intro m b hb i x y ht hx hy hxy
    cases hb with
    | last h => simp at hy
    | next hv hb' =>
      rename_i u b
      cases i with
      | zero =>
        simp at hx hy
        subst hx; subst hy
        have h1 := hw.2.2.2
        have h2 := hv.2.2.1
        have h3 := first_mono 0 l (show v + 1 ≤ u by omega)
        omega
      | succ i =>
        simp at ht hx hy
        obtain ⟨rfl, ht⟩ := ht
        have h1 := ih hb' i x y ht hx hy hxy
        have h2 := hw.2.2.1
        have h3 := hv.2.2.1
        omega
theorem nth_same {l : List Nat} {n : Nat} {a : List Nat} (h : Nth l n a) : ∀ {m : Nat}, Nth l m a → n = m := by
  induction h with
  | last h => intro m hb; cases hb with | last _ => rfl
  | next hw h' ih =>
    intro m hb
    cases hb with
    | next hv hb' =>
      have h1 := ih hb'
      have h2 := hw.2.2.1
      have h3 := hv.2.2.1
      omega
/-- how often each worker is among the first k -/
def cntF (o : List Nat) (k i : Nat) : Int := ((o.take k).count i : Nat)
theorem cntF_set {o : List Nat} {k x : Nat} (h : o[k]? = some x) (m : Nat) : (ics .i64 (cntF o k) m).setIfInBounds x (.int .i64 (cntF o k x + 1)) = ics .i64 (cntF o (k + 1)) m :=
  ics_set .i64 _ _ m x _ fun i _ => by
    unfold cntF
    rw [List.take_add_one, h]
    simp only [Option.toList_some, List.count_append, List.count_cons, List.count_nil]
    by_cases e : i = x
    · subst e; rw [if_pos rfl, if_pos (by simp)]; omega
    · rw [if_neg e, if_neg (by simp; exact fun h => e h.symm)]; omega
theorem cntF_zero (o : List Nat) (m : Nat) : ics .i64 (cntF o 0) m = rep m (.int .i64 0) := by
  rw [ics_zero]; exact ics_congr _ _ _ _ fun i _ => by simp [cntF]
theorem cntF_le (o : List Nat) (k i : Nat) : 0 ≤ cntF o k i ∧ cntF o k i ≤ k := by
  unfold cntF
  have h1 : (o.take k).count i ≤ (o.take k).length := List.count_le_length
  have h2 : (o.take k).length ≤ k := by simp; omega
  omega
end Go.Proofs.Ytpnekmkbedhooaa
