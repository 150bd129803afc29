/-
  The package exact, plainly: the items that count, as hits in order; the first, the near, the place. No program in sight.
-/
import Derived.Test.YtgiplahhalgbdaaGreatMgX
import Derived.Test.YtgiplahhalgbdaaGreatVecP
namespace Go.Proofs.YtgiplahhalgbdaaGreat
open Go.RowKit

theorem wrap_toNat (x : BitVec 64) : IntKind.u64.wrap (x.toNat : Int) = x.toNat := by
  rw [IntKind.wrap_u64]; have := x.isLt; omega
/-- all bits of a mask are there -/
def hasB (mask tags : Int) : Bool := bits .andNot .u64 mask tags == 0
theorem has_same {m t : Int} (h : 0 ≤ m ∧ m ≤ 18446744073709551615) : (bits .and .u64 t m == m) = hasB m t := by
  have e1 : bits .and .u64 t m = ((BitVec.ofInt 64 t &&& BitVec.ofInt 64 m).toNat : Int) := wrap_toNat _
  have e2 : bits .andNot .u64 m t = ((BitVec.ofInt 64 m &&& ~~~BitVec.ofInt 64 t).toNat : Int) := wrap_toNat _
  have e3 : ((BitVec.ofInt 64 m).toNat : Int) = m := by rw [BitVec.toNat_ofInt]; omega
  unfold hasB
  rw [e1, e2]
  generalize BitVec.ofInt 64 m = a at *
  generalize BitVec.ofInt 64 t = b at *
  rw [Bool.eq_iff_iff, beq_iff_eq, beq_iff_eq]
  constructor
  · intro h1
    have h2 : b &&& a = a := by
      apply BitVec.eq_of_toNat_eq; omega
    have h3 : a &&& ~~~b = 0#64 := by
      apply BitVec.eq_of_getLsbD_eq
      intro i hi
      have := congrArg (fun x => x.getLsbD i) h2
      simp only [BitVec.getLsbD_and] at this
      simp only [BitVec.getLsbD_and, BitVec.getLsbD_not, BitVec.getLsbD_zero, hi, decide_true, Bool.true_and]
      cases h4 : b.getLsbD i <;> cases h5 : a.getLsbD i <;> simp_all
    rw [h3]; rfl
  · intro h1
    have h2 : a &&& ~~~b = 0#64 := by
      apply BitVec.eq_of_toNat_eq
      have : (0#64).toNat = 0 := rfl
      omega
    have h3 : b &&& a = a := by
      apply BitVec.eq_of_getLsbD_eq
      intro i hi
      have := congrArg (fun x => x.getLsbD i) h2
      simp only [BitVec.getLsbD_and, BitVec.getLsbD_not, BitVec.getLsbD_zero, hi, decide_true, Bool.true_and] at this
      simp only [BitVec.getLsbD_and]
      cases h4 : b.getLsbD i <;> cases h5 : a.getLsbD i <;> simp_all
    rw [h3]; exact e3

abbrev ItemP : Type := Int × List Int × Int
/-- the items that count, as hits -/
def cntM (q : List Int) (mask : Int) (l : List ItemP) : List Hit := (l.filter fun it => hasB mask it.2.2).map fun it => (distOf q it.2.1, it.1)
theorem cntM_snoc {q : List Int} {mask : Int} {l : List ItemP} {k : Nat} {x : ItemP} (h : l[k]? = some x) : cntM q mask (l.take (k + 1)) = cntM q mask (l.take k) ++ if hasB mask x.2.2 = true then [(distOf q x.2.1, x.1)] else [] := by
  unfold cntM
  rw [take_snoc h, List.filter_append, List.map_append]
  by_cases e : hasB mask x.2.2 = true
  · rw [if_pos e, List.filter_cons_of_pos (by simpa using e)]; rfl
  · rw [if_neg e, List.filter_cons_of_neg (by simpa using e)]; rfl
theorem cntM_le (q : List Int) (mask : Int) (l : List ItemP) : (cntM q mask l).length ≤ l.length := by
  unfold cntM; rw [List.length_map]; exact List.length_filter_le _ _
/-- .. in order -/
def hitsM (q : List Int) (mask : Int) (l : List ItemP) : List Hit := srtH (cntM q mask l)
theorem hitsM_le (q : List Int) (mask : Int) (l : List ItemP) : (hitsM q mask l).length ≤ l.length := by
  unfold hitsM; rw [srtH_len]; exact cntM_le _ _ _
/-- those that are near enough -/
def nearM (most : Int) (h : List Hit) : List Hit := h.takeWhile fun x => decide (x.1 ≤ most)
theorem near_filter {most : Int} {h : List Hit} (hp : h.Pairwise fun a b => hitLt b a = false) : h.filter (fun x => decide (x.1 ≤ most)) = nearM most h := by
  induction h with
  | nil => rfl
  | cons x l ih =>
    rw [List.pairwise_cons] at hp
    by_cases e : x.1 ≤ most
    · unfold nearM at *
      rw [List.filter_cons_of_pos (by simpa using e), List.takeWhile_cons_of_pos (by simpa using e), ih hp.2]
    · unfold nearM at *
      rw [List.filter_cons_of_neg (by simpa using e), List.takeWhile_cons_of_neg (by simpa using e), List.filter_eq_nil_iff]
      intro y hy
      have := hp.1 y hy
      rw [not_hit] at this
      simp only [decide_eq_true_eq]
      omega
/-- how many are ahead of one -/
def placeM (g : Hit) (h : List Hit) : Nat := h.countP fun x => hitLt x g
end Go.Proofs.YtgiplahhalgbdaaGreat
