/-
  The package beam, plainly: offers, looks around. No program in sight.
-/
import Derived.Test.YtgiplahhalgbdaaGreatPrbV
import Derived.Test.YtgiplahhalgbdaaGreatMgD
namespace Go.Proofs.YtgiplahhalgbdaaGreat
set_option linter.unusedSimpArgs false
set_option linter.unusedVariables false

/-- what is known, what waits, the best -/
abbrev PrS : Type := List Int × List Spt × List Spt
section
variable (ns : List NodeP) (q : List Int) (mask : Int) (K : Nat)
/-- a slot that is there is offered -/
def offS (s : PrS) (n : Int) : PrS := if thereF ns n = true then (offKn s.1 n, offWt s.1 s.2.1 (spotF ns q n), offBs K (hasB mask (itemF ns n).2.2) s.1 s.2.2 (spotF ns q n)) else s
def offL (s : PrS) (l : List Int) : PrS := l.foldl (offS ns q mask K) s
/-- a look around on a level: where it ends, at what cost -/
inductive LookR (level : Int) : PrS → PrS → Nat → Prop
  | stop (s : PrS) : doneR K s.2.1 s.2.2 = true → LookR level s s 0
  | more (s t : PrS) (c : Nat) : doneR K s.2.1 s.2.2 = false → LookR level (offL ns q mask K (s.1, s.2.1.drop 1, s.2.2) (nearF ns (fstS s.2.1).2 level)) t c → LookR level s t (c + 1)
end
section
variable {ns : List NodeP} {q : List Int} {mask : Int} {K : Nat} {level : Int}
theorem LookR.same {s t : PrS} {c : Nat} (h : LookR ns q mask K level s t c) : ∀ {t' : PrS} {c' : Nat}, LookR ns q mask K level s t' c' → t = t' ∧ c = c' := by
  induction h with
  | stop s h =>
    intro t' c' k
    cases k with
    | stop _ _ => exact ⟨rfl, rfl⟩
    | more _ _ _ h2 _ => rw [h] at h2; cases h2
  | more s t c h _ ih =>
    intro t' c' k
    cases k with
    | stop _ h2 => rw [h] at h2; cases h2
    | more _ _ _ _ k2 =>
      obtain ⟨h1, h2⟩ := ih k2
      exact ⟨h1, by rw [h2]⟩
theorem offL_snoc {s : PrS} {l : List Int} {n : Int} : offL ns q mask K s (l ++ [n]) = offS ns q mask K (offL ns q mask K s l) n := by
  unfold offL
  rw [List.foldl_append]; rfl
/-- the slots that are there and not known -/
def unkN (ns : List NodeP) (kn : List Int) : Nat := (List.range ns.length).countP fun (i : Nat) => thereF ns (i : Int) && decide ((i : Int) ∉ kn)
theorem unkN_le (ns : List NodeP) (kn : List Int) : unkN ns kn ≤ ns.length := by
  unfold unkN
  exact Nat.le_trans List.countP_le_length (by simp)
theorem unkN_lt {kn : List Int} {n : Int} (ht : thereF ns n = true) (hn : n ∉ kn) : unkN ns (kn ++ [n]) < unkN ns kn := by
  obtain ⟨h1, h2⟩ := there_lt ht
  have e : ((n.toNat : Nat) : Int) = n := by omega
  unfold unkN
  refine countP_lt' (a := n.toNat) (fun i _ hi => ?_) (by rw [List.mem_range]; omega) ?_ ?_
  · simp only [Bool.and_eq_true, decide_eq_true_eq, List.mem_append, not_or] at hi ⊢
    exact ⟨hi.1, hi.2.1⟩
  · show (thereF ns (n.toNat : Int) && decide ((n.toNat : Int) ∉ kn ++ [n])) = false
    rw [e]; simp
  · show (thereF ns (n.toNat : Int) && decide ((n.toNat : Int) ∉ kn)) = true
    rw [e, ht]; simpa using hn
/-- what is left to do -/
def lookM (ns : List NodeP) (s : PrS) : Nat := unkN ns s.1 + s.2.1.length
theorem offS_le (s : PrS) (n : Int) : lookM ns (offS ns q mask K s n) ≤ lookM ns s := by
  unfold offS
  split
  · rename_i ht
    unfold lookM offKn offWt
    simp only
    by_cases h : n ∈ s.1
    · have h2 : (spotF ns q n).2 ∈ s.1 := h
      rw [if_pos h, if_pos h2]; omega
    · have h2 : (spotF ns q n).2 ∉ s.1 := h
      rw [if_neg h, if_neg h2, srtS_len, List.length_append]
      have := unkN_lt ht h
      simp only [List.length_cons, List.length_nil]
      omega
  · omega
theorem offL_le : ∀ (l : List Int) (s : PrS), lookM ns (offL ns q mask K s l) ≤ lookM ns s
  | [], s => Nat.le_refl _
  | n :: l, s => Nat.le_trans (offL_le l (offS ns q mask K s n)) (offS_le s n)
theorem look_less {s : PrS} (h : doneR K s.2.1 s.2.2 = false) (l : List Int) : lookM ns (offL ns q mask K (s.1, s.2.1.drop 1, s.2.2) l) < lookM ns s := by
  refine Nat.lt_of_le_of_lt (offL_le l _) ?_
  have : 0 < s.2.1.length := by
    rcases Nat.eq_zero_or_pos s.2.1.length with e | e
    · rw [show doneR K s.2.1 s.2.2 = true by unfold doneR; rw [decide_eq_true e]; rfl] at h; cases h
    · exact e
  unfold lookM
  simp only [List.length_drop]
  omega
theorem look_pos {s : PrS} (h : doneR K s.2.1 s.2.2 = false) : 0 < lookM ns s := by
  have : 0 < s.2.1.length := by
    rcases Nat.eq_zero_or_pos s.2.1.length with e | e
    · rw [show doneR K s.2.1 s.2.2 = true by unfold doneR; rw [decide_eq_true e]; rfl] at h; cases h
    · exact e
  unfold lookM
  omega
end
end Go.Proofs.YtgiplahhalgbdaaGreat
