/-
  Texts of one part, put together. No condition.
-/
import Derived.Test.YtgiplahhalgbdaaGreatRnkO
import Derived.Test.YtgiplahhalgbdaaGreatRnkS
import Derived.Shelf.SlSortCmp.NoneTotal
import Derived.Deep.RegionHeld3
/-
  The package rank: Sort. Conditions: the slice reads as a list of spots; at most a million of them.
-/
namespace Go.Proofs.YtgiplahhalgbdaaGreat
set_option linter.unusedSimpArgs false
set_option linter.unusedVariables false
open Go.RowKit

/-- the sort of a row of spots that the call owns -/
theorem sortS_any (base : Nat) (v : Value) (n : Nat) (l : List Spt) (w : World) (ho : w.ownsRow base 60 3 v n (fcs encS l)) (h6 : n ≤ 1000000) :
    Calls Tryz.prog 54 #[v, .func (.func 55) #[] #[]] w fun e w' => e = .returned (.tuple #[]) ∧ w'.ownsRow base 60 3 v n (fcs encS (srtS l)) ∧ w.grownBy w' v.ownBlock := by
  have hl : l.length = n := by have := ho.1; rw [flatS.clen] at this; exact Nat.eq_of_mul_eq_mul_right flatS.pos this
  rcases Nat.eq_zero_or_pos n with h0 | h0
  · subst h0
    have hl0 : l = [] := List.eq_nil_of_length_eq_zero hl
    subst hl0
    have hf : ∃ A c, v = .slice A 0 c := by
      rcases ho.2 with ⟨h, _⟩ | ⟨g, cap, cur, h, _⟩
      · exact ⟨none, 0, h⟩
      · exact ⟨_, cap, h⟩
    obtain ⟨A, c, rfl⟩ := hf
    exact (AnyF.slices_SortFunc_none sortSpot A c _ w).mono fun _ _ ⟨he, hw⟩ => by subst hw; exact ⟨he, by rw [show srtS [] = [] by simp [srtS, srt]]; exact ho, World.grownBy.refl _ _⟩
  · obtain ⟨g, cap, rfl, hg, hlt⟩ := ho.form h0
    have hh := flatS.holds ho
    have hc := AnyQ.slices_SortFunc_total sortSpot 3 Tryz.isAgg60 Tryz.sizeOf60 encS (fun _ => rfl) flatS.one sptO (by rw [ltS]; exact swoS) 55 #[] g 0 cap l.toArray w (enters_of Tryz.func55 (by kernel_rfl) rfl) (fun _ _ _ _ x y => place_any x y _) hh hlt (by simp; omega) (by rw [ltS]; exact totS)
    rw [ltS] at hc
    have e : l.toArray.size = n := by simpa using hl
    rw [e] at hc
    refine Calls.mono hc ?_
    rintro e w' ⟨he, m, os, rfl⟩
    exact ⟨he, flatS.sorted ho (srtS_len l) m os, sortW_grown _ _ _ _ _ _ _⟩
set_option maxHeartbeats 1000000 in
theorem sort_any (A : Option Addr) (n c : Nat) (l : List Spt) (w : World) (hx : Rd SP w w.heap.size A l) (hn : l.length = n) (hc : n ≤ c) (hm : c ≤ 9223372036854775807) (h6 : n ≤ 1000000) :
    Calls Tryz.prog 40 #[.slice A n c] w fun e w' => ∃ v, e = .returned v ∧ w'.ownsRow w.heap.size 60 3 v n (fcs encS (srtS l)) ∧ Below w.heap.size w w' := by
  have H1 := hide (cloneS_any A n c l w hx hn hc hm h6)
  clear hx hn
  go_enter Tryz.func40, Tryz.ntmps40
  go_wp2_with fail
  refine H1.out.mono ?_
  rintro e w1 ⟨v, rfl, ho, hb⟩
  have HB := hide hb
  have HO := hide ho
  have H2 := hide (sortS_any _ v n l w1 ho h6)
  clear ho hb
  go_wp2_with fail
  refine H2.out.mono ?_
  rintro e w2 ⟨rfl, ho2, hg2⟩
  have HO2 := hide ho2
  have HB2 := hide (below_own HB.out HO.out HB.out.size hg2)
  clear ho2 hg2
  go_wp2
  go_ret
  exact ⟨v, rfl, HO2.out, HB2.out⟩
end Go.Proofs.YtgiplahhalgbdaaGreat

/-
  The package rank: the reference's Sort. Conditions: the slice reads as a list of spots; at most a million of them.
-/
namespace Go.Proofs.YtgiplahhalgbdaaGreat
set_option linter.unusedSimpArgs false
set_option linter.unusedVariables false
open Go.RowKit

/-- s, x put in at k, then r -/
def Mid (s : List Spt) (x : Spt) (k : Nat) (r : List Spt) : List Spt := s.take k ++ x :: (s.drop k ++ r)
theorem Mid_at {s r : List Spt} {x : Spt} {k : Nat} (h : k ≤ s.length) : (Mid s x k r)[k]? = some x := by
  unfold Mid
  rw [List.getElem?_append_right (by simp; omega)]
  simp [Nat.min_eq_left h]
theorem Mid_prev {s r : List Spt} {x y : Spt} {k : Nat} (hy : s[k]? = some y) : (Mid s x (k + 1) r)[k]? = some y := by
  have hl := (List.getElem?_eq_some_iff.1 hy).1
  unfold Mid
  rw [List.getElem?_append_left (by simp; omega), List.getElem?_take, if_pos (by omega), hy]
theorem Mid_set {s r : List Spt} {x y : Spt} {k : Nat} (hy : s[k]? = some y) : ((Mid s x (k + 1) r).set (k + 1) y).set k x = Mid s x k r := by
  obtain ⟨hl, e⟩ := List.getElem?_eq_some_iff.1 hy
  unfold Mid
  rw [take_snoc hy, List.drop_eq_getElem_cons hl, e, List.append_assoc]
  have ht : (s.take k).length = k := by simp; omega
  rw [List.set_append_right _ _ (by omega), ht, List.set_append_right _ _ (by omega), ht]
  simp
theorem Mid_start {s r : List Spt} {x : Spt} : Mid s x s.length r = s ++ x :: r := by simp [Mid]
theorem Mid_len {s r : List Spt} {x : Spt} {k : Nat} (h : k ≤ s.length) : (Mid s x k r).length = s.length + 1 + r.length := by simp [Mid]; omega
theorem Mid_end {s r : List Spt} {x : Spt} {k : Nat} : Mid s x k r = (s.take k ++ x :: s.drop k) ++ r := by simp [Mid]
theorem srtS_one (l : List Spt) : srtS (l.take 1) ++ l.drop 1 = l := by
  have : l.take 1 = srtS (l.take 1) := srt_eq swoS totS (List.Perm.refl _) (by
    rcases l with _ | ⟨a, l⟩
    · simp
    · simp)
  rw [← this, List.take_append_drop]
def RB (w : World) (base g n cap : Nat) (l : List Spt) (W : World) : Prop := RowS W base g n cap l ∧ Below w.heap.size w W
section
variable {w W W' : World} {base g n cap : Nat} {l : List Spt}
theorem RB.row (h : RB w base g n cap l W) : RowS W base g n cap l := And.left h
theorem RB.bel (h : RB w base g n cap l W) : Below w.heap.size w W := And.right h
theorem RB.step (h : RB w base g n cap l W) (hb : Below W.heap.size W W') : RB w base g n cap l W' := ⟨h.row.below hb h.row.lt, Below.step h.bel hb⟩
theorem RB.alloc (h : RB w base g n cap l W) (o : Obj) : RB w base g n cap l (W.alloc o) := h.step (below1 W o)
theorem RB.drew (h : RB w base g n cap l W) : RB w base g n cap l W.drew := ⟨h.row, h.bel.drew⟩
theorem RB.drewN (h : RB w base g n cap l W) (q : Nat) : RB w base g n cap l (W.drewN q) := ⟨h.row, ⟨h.bel.os, h.bel.tape, h.bel.output, h.bel.size, h.bel.block⟩⟩
theorem RB.set (h : RB w w.heap.size g n cap l W) {i : Nat} (hi : i < n) (x : Spt) : RB w w.heap.size g n cap (l.set i x) (((W.setCell ⟨g, i * 3, none⟩ (.int .u64 x.1.1)).setCell ⟨g, i * 3 + 1, none⟩ (.int .u64 x.1.2)).setCell ⟨g, i * 3 + 2, none⟩ (.int .i64 x.2)) := by
  refine ⟨h.row.set hi x, ?_⟩
  have hg := h.row.blk.1
  exact ((h.bel.setCell hg _).setCell hg _).setCell hg _
end
end Go.Proofs.YtgiplahhalgbdaaGreat

/-
  The package rank: Least, and the reference's. Conditions: the slice reads as a list of spots; at most a million of them.
-/
namespace Go.Proofs.YtgiplahhalgbdaaGreat
set_option linter.unusedSimpArgs false
set_option linter.unusedVariables false
open Go.RowKit

/-- how many are the least -/
def lstN (k : Int) (n : Nat) : Nat := min k.toNat n
theorem lstN_le (k : Int) (n : Nat) : lstN k n ≤ n := Nat.min_le_right _ _
set_option maxHeartbeats 1000000 in
theorem least_any (A : Option Addr) (n c : Nat) (k : Int) (l : List Spt) (w : World) (hx : Rd SP w w.heap.size A l) (hn : l.length = n) (hc : n ≤ c) (hm : c ≤ 9223372036854775807) (h6 : n ≤ 1000000) :
    Calls Tryz.prog 105 #[.slice A n c, .int .i64 k] w fun e w' => ∃ v, e = .returned v ∧ NewL SP w ((srtS l).take (lstN k n)) v w' := by
  have H1 := hide (sort_any A n c l w hx hn hc hm h6)
  have Hn := hide hn
  clear hx hn
  go_enter Tryz.func105, Tryz.ntmps105
  go_wp2_with fail
  refine H1.out.mono ?_
  rintro e w1 ⟨v, rfl, ho, hb⟩
  obtain ⟨A', c', rfl, p1, p2⟩ := own_form ho
  have HN : ∀ m, m = lstN k n → Hid (NewL SP w ((srtS l).take (lstN k n)) (.slice A' m c') w1) := fun m e => hide (by
    obtain ⟨_, _, _, e1, q1, q2, q3, q4, q5⟩ := flatS.new ho hb
    injection e1 with e1 e2 e3
    subst e1 e2 e3
    have := lstN_le k n
    exact ⟨A', m, c', rfl, by rw [List.length_take, q1, e]; omega, by omega, q3, q4.take _, q5⟩)
  have HN' := hide HN
  clear ho hb HN H1
  go_wp2
  all_goals go_ret
  all_goals exact ⟨_, rfl, (HN'.out _ (by unfold lstN; omega)).out⟩
end Go.Proofs.YtgiplahhalgbdaaGreat
