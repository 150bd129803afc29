/-
  The package probe, plainly: what is known, what is wanted, the lists in order. No program in sight.
-/
import Derived.Test.YtgiplahhalgbdaaGreatMgK
import Derived.Test.YtgiplahhalgbdaaGreatMgB
namespace Go.Proofs.YtgiplahhalgbdaaGreat
set_option linter.unusedSimpArgs false
set_option linter.unusedVariables false

/-- how often a slot was offered -/
def lookD (m : List (Int × Int)) (x : Int) : Int := (lookF m x).getD 0
/-- the counts of a probe and the document's list -/
structure KnM (m : List (Int × Int)) (kn : List Int) (n : Nat) : Prop where
  lo : ∀ x, 0 ≤ lookD m x
  hi : ∀ x, lookD m x ≤ n
  kn : ∀ x, 0 < lookD m x ↔ x ∈ kn
theorem KnM.nil : KnM [] [] 0 := ⟨fun x => by simp [lookD, lookF_nil], fun x => by simp [lookD, lookF_nil], fun x => by simp [lookD, lookF_nil]⟩
theorem lookD_put (m : List (Int × Int)) (k v x : Int) : lookD (putF m k v) x = if x = k then v else lookD m x := by
  unfold lookD
  rw [lookF_put]
  split <;> simp
theorem KnM.again {m : List (Int × Int)} {kn : List Int} {n : Nat} (h : KnM m kn n) {s : Int} (hs : s ∈ kn) : KnM (putF m s (lookD m s + 1)) kn (n + 1) := by
  refine ⟨fun x => ?_, fun x => ?_, fun x => ?_⟩ <;> rw [lookD_put]
  · have := h.lo x; have := h.lo s; split <;> omega
  · have := h.hi x; have := h.hi s; split <;> omega
  · have h1 := h.lo s
    split
    · rename_i e
      subst e
      exact ⟨fun _ => hs, fun _ => by omega⟩
    · exact h.kn x
theorem KnM.once {m : List (Int × Int)} {kn : List Int} {n : Nat} (h : KnM m kn n) {s : Int} (hs : s ∉ kn) : KnM (putF m s (lookD m s + 1)) (kn ++ [s]) (n + 1) := by
  refine ⟨fun x => ?_, fun x => ?_, fun x => ?_⟩ <;> rw [lookD_put]
  · have := h.lo x; have := h.lo s; split <;> omega
  · have := h.hi x; have := h.hi s; split <;> omega
  · have h1 := h.lo s
    rw [List.mem_append, List.mem_singleton]
    split
    · rename_i e
      exact ⟨fun _ => .inr e, fun _ => by omega⟩
    · rename_i e
      exact ⟨fun hx => .inl ((h.kn x).1 hx), fun hx => (h.kn x).2 (hx.resolve_right e)⟩
theorem KnM.more {m : List (Int × Int)} {kn : List Int} {n k : Nat} (h : KnM m kn n) (hk : n ≤ k) : KnM m kn k := ⟨h.lo, fun x => by have := h.hi x; omega, h.kn⟩
theorem KnM.zero {m : List (Int × Int)} {kn : List Int} {n : Nat} (h : KnM m kn n) {s : Int} (hs : s ∉ kn) : lookD m s = 0 := by
  have h1 := h.lo s
  have h2 := mt (h.kn s).1 hs
  omega
/-- the document's Want: whether nothing is wanted any more -/
def doneR (n : Nat) (wt bs : List Spt) : Bool := decide (wt.length = 0) || (decide (n = 0) || (decide (bs.length = n) && sptLt (lstS bs) (fstS wt)))
theorem fst_srt {l : List Spt} (hh : Heap sptLt l) (h : 0 < l.length) : fstS (srtS l) = fstS l := by
  obtain ⟨m, hm⟩ := fst_split h
  rw [srtS_pop hh (m := m) (by rw [← hm])]
  rfl
theorem mostB_zero (ef : Int) : mostB ef = 0 ↔ ef < 1 := by unfold mostB; omega
theorem done_eq {ef : Int} {l l2 : List Spt} (hq : Heap sptLt l) (hb : Heap sptGt l2) (hk : l2.length ≤ mostB ef) : doneP ef (mostB ef) l l2 = doneR (mostB ef) (srtS l) (srtS l2) := by
  unfold doneP doneR
  rw [srtS_len, srtS_len]
  by_cases h0 : 0 < l.length
  · rw [decide_eq_true h0, decide_eq_false (show ¬ l.length = 0 by omega)]
    by_cases h1 : ef < 1
    · rw [decide_eq_true h1, decide_eq_true ((mostB_zero ef).2 h1)]; rfl
    · have h2 : ¬ mostB ef = 0 := fun e => h1 ((mostB_zero ef).1 e)
      rw [decide_eq_false h1, decide_eq_false h2]
      by_cases h3 : mostB ef ≤ l2.length
      · rw [decide_eq_true h3, decide_eq_true (show l2.length = mostB ef by omega), decide_eq_true (show 0 < l2.length by omega), lstS_worst hb (by omega), fst_srt hq h0]
        simp
      · rw [decide_eq_false h3, decide_eq_false (show ¬ l2.length = mostB ef by omega)]
        simp
  · rw [decide_eq_false h0, decide_eq_true (show l.length = 0 by omega)]; rfl
end Go.Proofs.YtgiplahhalgbdaaGreat
