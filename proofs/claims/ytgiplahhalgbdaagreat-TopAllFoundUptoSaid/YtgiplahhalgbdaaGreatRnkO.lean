/-
  The package rank: hits and spots as cells; their order; slices.Clone at spots; rows of spots. Conditions: the slice reads as a list of spots; at most a million of them.
-/
import Derived.Test.YtgiplahhalgbdaaGreatRnkD
import Derived.Test.YtgiplahhalgbdaaGreatMgS
import Derived.Test.YtgiplahhalgbdaaGreatSrt
import Derived.Shelf.SlSortCmp.InsertionK
import Derived.Lib.SlBuf
namespace Go.Proofs.YtgiplahhalgbdaaGreat
set_option linter.unusedSimpArgs false
set_option linter.unusedVariables false
open Go.RowKit

def encH (x : Hit) : List Value := [.int .u64 x.1, .int .u64 x.2]
def encS (x : Spt) : List Value := [.int .u64 x.1.1, .int .u64 x.1.2, .int .i64 x.2]
theorem flatH : Flat SH encH := flatPair (flatInt .u64) (flatInt .u64)
theorem flatS : Flat SP encS := flatPair (flatPair (flatInt .u64) (flatInt .u64)) (flatInt .i64)

theorem sptLt_iff (a b : Spt) : sptLt a b = true ↔ a.1.1 < b.1.1 ∨ a.1.1 = b.1.1 ∧ (a.1.2 < b.1.2 ∨ a.1.2 = b.1.2 ∧ a.2 < b.2) := by
  obtain ⟨⟨a1, a2⟩, a3⟩ := a
  obtain ⟨⟨b1, b2⟩, b3⟩ := b
  simp only [sptLt, hitLt, Bool.or_eq_true, Bool.and_eq_true, decide_eq_true_eq, beq_iff_eq, Prod.mk.injEq]
  omega
theorem hitLt_iff (a b : Hit) : hitLt a b = true ↔ a.1 < b.1 ∨ a.1 = b.1 ∧ a.2 < b.2 := by
  simp only [hitLt, decide_eq_true_eq]
theorem not_spt (a b : Spt) : sptLt a b = false ↔ ¬ (a.1.1 < b.1.1 ∨ a.1.1 = b.1.1 ∧ (a.1.2 < b.1.2 ∨ a.1.2 = b.1.2 ∧ a.2 < b.2)) := by
  rw [← sptLt_iff]; simp
theorem not_hit (a b : Hit) : hitLt a b = false ↔ ¬ (a.1 < b.1 ∨ a.1 = b.1 ∧ a.2 < b.2) := by
  rw [← hitLt_iff]; simp
theorem ltS : ltOf sptO = sptLt := funext fun a => funext fun b => sptO_neg a b
theorem ltH : ltOf hitO = hitLt := funext fun a => funext fun b => hitO_neg a b
theorem swoS : Go.Sort.SWO sptLt where
  irrefl x := by rw [not_spt]; omega
  trans x y z h1 h2 := by rw [sptLt_iff] at *; omega
  ntrans x y z h1 h2 := by rw [not_spt] at *; omega
theorem swoH : Go.Sort.SWO hitLt where
  irrefl x := by rw [not_hit]; omega
  trans x y z h1 h2 := by rw [hitLt_iff] at *; omega
  ntrans x y z h1 h2 := by rw [not_hit] at *; omega
theorem totS (x y : Spt) (h1 : sptLt x y = false) (h2 : sptLt y x = false) : x = y := by
  rw [not_spt] at h1 h2
  obtain ⟨⟨a1, a2⟩, a3⟩ := x
  obtain ⟨⟨b1, b2⟩, b3⟩ := y
  simp only at h1 h2
  obtain rfl : a1 = b1 := by omega
  obtain rfl : a2 = b2 := by omega
  obtain rfl : a3 = b3 := by omega
  rfl
theorem totH (x y : Hit) (h1 : hitLt x y = false) (h2 : hitLt y x = false) : x = y := by
  rw [not_hit] at h1 h2
  obtain ⟨a1, a2⟩ := x
  obtain ⟨b1, b2⟩ := y
  simp only at h1 h2
  obtain rfl : a1 = b1 := by omega
  obtain rfl : a2 = b2 := by omega
  rfl
/-- in order -/
def srtS (l : List Spt) : List Spt := srt sptLt l
def srtH (l : List Hit) : List Hit := srt hitLt l
theorem srtS_len (l : List Spt) : (srtS l).length = l.length := srt_len
theorem srtH_len (l : List Hit) : (srtH l).length = l.length := srt_len

theorem info_spot : (Tryz.prog.info? 60).map (fun i => (i.zero, i.size, i.bytes)) = some (some (.agg #[.int .u64 0, .int .u64 0, .int .i64 0]), 3, 24) := by kernel_rfl
set_option maxHeartbeats 1000000 in
theorem cloneS_any (A : Option Addr) (n c : Nat) (l : List Spt) (w : World) (hx : Rd SP w w.heap.size A l) (hn : l.length = n) (hc : n ≤ c) (hm : c ≤ 9223372036854775807) (h6 : n ≤ 1000000) :
    Calls Tryz.prog 53 #[.slice A n c] w fun e w' => ∃ v, e = .returned v ∧ w'.ownsRow w.heap.size 60 3 v n (fcs encS l) ∧ Below w.heap.size w w' := by
  have he := fun (W : World) (a : Option Addr) (n c : Nat) => Lib.run_eql_slice_nil W 57 60 a n c 0 0 Tryz.underlying57
  rcases A with _ | ad
  · have hl : l = [] := by
      rcases l with _ | ⟨x, l⟩
      · rfl
      · obtain ⟨_, h, _⟩ := hx (by simp)
        cases h
    subst hl
    obtain rfl : n = 0 := by simpa using hn.symm
    go_enter Tryz.func53, Tryz.ntmps53
    go_wp2
    go_ret
    exact ⟨_, rfl, ⟨rfl, .inl ⟨rfl, rfl⟩⟩, Below.refl _ _⟩
  · have HR := hide (flatS.reads (w := w.alloc (.cells #[] 60)) (fun _ h => h) (hx.alloc (Nat.le_refl _) _) hn)
    have HO := hide (show (w.alloc (.cells #[] 60)).ownsRow w.heap.size 60 3 (.slice (some ⟨w.heap.size, 0, none⟩) 0 0) 0 [] from ⟨rfl, .inr ⟨w.heap.size, 0, #[], rfl, Nat.le_refl _, heap_alloc_new _ _, Nat.le_refl _, Nat.zero_le _, rfl, rfl⟩⟩)
    have HB := hide (below1 w (.cells #[] 60))
    have Hn := hide hn
    obtain ⟨i, hi, hz⟩ := Option.map_eq_some_iff.1 info_spot
    simp only [Prod.mk.injEq] at hz
    obtain ⟨hz, hs, hy⟩ := hz
    have HI := hide hi
    have HZ := hide hz
    have HS := hide hs
    have HY := hide hy
    clear hx hn hi hz hs hy
    go_enter Tryz.func53, Tryz.ntmps53
    go_wp2_with (at_builtin; refine wpList_append_any _ rfl _ _ 57 rfl w.heap.size 60 i _ 3 24 Tryz.underlying57 HI.out HZ.out HS.out HY.out rfl (by decide) _ 0 [] rfl HO.out w.heap.size (some ad) n c (fcs encS l) rfl HR.out (flatS.ones l) (by simp only [maxLen]; omega) (by omega) HB.out.size ?_; intro v' w9 hown9 hgr9 _; have HO9 := hide hown9; have HB9 := hide (below_own HB.out HO.out HB.out.size hgr9); clear hown9 hgr9)
    all_goals go_ret
    all_goals exact ⟨_, rfl, by have h := HO9.out; rwa [Nat.zero_add] at h, HB9.out⟩
theorem encS_at {l : List Spt} {i : Nat} {x : Spt} (h : l[i]? = some x) : (fcs encS l)[i * 3]? = some (.int .u64 x.1.1) ∧ (fcs encS l)[i * 3 + 1]? = some (.int .u64 x.1.2) ∧ (fcs encS l)[i * 3 + 2]? = some (.int .i64 x.2) :=
  ⟨flatS.at_ h (j := 0) (by decide), flatS.at_ h (j := 1) (by decide), flatS.at_ h (j := 2) (by decide)⟩
theorem fcsS_set (l : List Spt) (i : Nat) (x : Spt) (hi : i < l.length) : fcs encS (l.set i x) = (((fcs encS l).set (i * 3) (.int .u64 x.1.1)).set (i * 3 + 1) (.int .u64 x.1.2)).set (i * 3 + 2) (.int .i64 x.2) := by
  induction l generalizing i with
  | nil => simp at hi
  | cons y l ih =>
    rcases i with _ | i
    · simp [fcs, encS]
    · have e := ih i (by simpa using hi)
      rw [List.set_cons_succ, fcs_cons, e, fcs_cons, show (i + 1) * 3 = i * 3 + 1 + 1 + 1 by omega]
      simp [encS]
/-- a row of spots in a block of the call's own -/
def RowS (w : World) (base g n cap : Nat) (l : List Spt) : Prop := w.ownsRow base 60 3 (.slice (some ⟨g, 0, none⟩) n cap) n (fcs encS l)
section
variable {w w' : World} {base g n cap : Nat} {l : List Spt}
theorem RowS.len (h : RowS w base g n cap l) : l.length = n := by have := h.1; rw [flatS.clen] at this; exact Nat.eq_of_mul_eq_mul_right flatS.pos this
theorem RowS.blk (h : RowS w base g n cap l) : base ≤ g ∧ ∃ cur, Blk w g 60 cur ∧ cur.size = cap * 3 ∧ cur.toList.take (n * 3) = fcs encS l ∧ n ≤ cap ∧ cap ≤ maxLen := by
  rcases h.2 with ⟨h, _⟩ | ⟨g', cap', cur, e, h0, h1, h2, h5, h3, h4⟩
  · cases h
  · injection e with e _ e3
    injection e with e
    injection e with e
    subst e e3
    exact ⟨h0, cur, h1, h3, h4, h2, h5⟩
theorem RowS.lt (h : RowS w base g n cap l) : g < w.heap.size := by obtain ⟨_, cur, h1, _⟩ := h.blk; exact h1.lt
theorem RowS.below {B : Nat} (h : RowS w base g n cap l) (hb : Below B w w') (hB : g < B) : RowS w' base g n cap l := by
  obtain ⟨h0, cur, h1, h3, h4, h2, h5⟩ := h.blk
  exact ⟨h.1, .inr ⟨g, cap, cur, rfl, h0, (hb.block g hB).trans h1, h2, h5, h3, h4⟩⟩
theorem RowS.cells (h : RowS w base g n cap l) {i : Nat} {x : Spt} (hx : l[i]? = some x) : w.cell? ⟨g, i * 3, none⟩ = some (.int .u64 x.1.1) ∧ w.cell? ⟨g, i * 3 + 1, none⟩ = some (.int .u64 x.1.2) ∧ w.cell? ⟨g, i * 3 + 2, none⟩ = some (.int .i64 x.2) := by
  obtain ⟨h0, cur, h1, h3, h4, _⟩ := h.blk
  obtain ⟨e0, e1, e2⟩ := encS_at hx
  have k : ∀ {j : Nat} {u : Value}, (fcs encS l)[j]? = some u → w.cell? ⟨g, j, none⟩ = some u := fun {j u} hu => by
    rw [h1.cell j, ← Array.getElem?_toList]
    rw [← h4, List.getElem?_take] at hu
    split at hu
    · exact hu
    · cases hu
  exact ⟨k e0, k e1, k e2⟩
theorem RowS.frozen (h : RowS w base g n cap l) (j : Nat) : w.frozen? ⟨g, j, none⟩ = false := by obtain ⟨_, cur, h1, _⟩ := h.blk; exact h1.frozen j
theorem RowS.set (h : RowS w base g n cap l) {i : Nat} (hi : i < n) (x : Spt) : RowS (((w.setCell ⟨g, i * 3, none⟩ (.int .u64 x.1.1)).setCell ⟨g, i * 3 + 1, none⟩ (.int .u64 x.1.2)).setCell ⟨g, i * 3 + 2, none⟩ (.int .i64 x.2)) base g n cap (l.set i x) := by
  obtain ⟨h0, cur, h1, h3, h4, h2, h5⟩ := h.blk
  have k1 := h1.set_ (i * 3) (.int .u64 x.1.1)
  have k2 := k1.set_ (i * 3 + 1) (.int .u64 x.1.2)
  have k3 := k2.set_ (i * 3 + 2) (.int .i64 x.2)
  have hl := h.len
  refine ⟨by rw [flatS.clen, List.length_set, hl]; rfl, .inr ⟨g, cap, _, rfl, h0, k3, h2, h5, by simpa using h3, ?_⟩⟩
  rw [fcsS_set _ _ _ (by omega), ← h4]
  simp only [Array.toList_setIfInBounds, List.take_set]
end
end Go.Proofs.YtgiplahhalgbdaaGreat
