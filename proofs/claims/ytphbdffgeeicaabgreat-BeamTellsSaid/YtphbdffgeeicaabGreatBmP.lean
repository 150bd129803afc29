/-
  The package beam, plainly: offers, looks around. No program in sight.
-/
import Derived.Test.YtphbdffgeeicaabGreatPrbV
import Derived.Test.YtphbdffgeeicaabGreatMgD
namespace Go.Proofs.YtphbdffgeeicaabGreat
set_option linter.unusedSimpArgs false
set_option linter.unusedVariables false

/-- what is known, what waits, the best -/
abbrev PrS : Type := List Int × List Spt × List Spt
section
variable (ns : List NodeP) (q : List Int) (mask : Int) (K : Nat)
/-- a slot that is there is offered -/
def offS (s : PrS) (n : Int) : PrS := if thereF ns n = true then (offKn s.1 n, offWt s.1 s.2.1 (spotF ns q n), offBs K (hasB mask (itemF ns n).2.2) s.1 s.2.2 (spotF ns q n)) else s
def offL (s : PrS) (l : List Int) : PrS := l.foldl (offS ns q mask K) s
/-- a look around on a level: where it ends, at what cost -/
inductive LookR (level : Int) : PrS → PrS → Nat → Prop
  | stop (s : PrS) : doneR K s.2.1 s.2.2 = true → LookR level s s 0
  | more (s t : PrS) (c : Nat) : doneR K s.2.1 s.2.2 = false → LookR level (offL ns q mask K (s.1, s.2.1.drop 1, s.2.2) (nearF ns (fstS s.2.1).2 level)) t c → LookR level s t (c + 1)
end
section
variable {ns : List NodeP} {q : List Int} {mask : Int} {K : Nat} {level : Int}
theorem LookR.same {s t : PrS} {c : Nat} (h : LookR ns q mask K level s t c) : ∀ {t' : PrS} {c' : Nat}, LookR ns q mask K level s t' c' → t = t' ∧ c = c' := by
  induction h with
  | stop s h =>
    intro t' c' k
    cases k with
    | stop _ _ => exact ⟨rfl, rfl⟩
    | more _ _ _ h2 _ => rw [h] at h2; cases h2
  | more s t c h _ ih =>
    intro t' c' k
    cases k with
    | stop _ h2 => rw [h] at h2; cases h2
    | more _ _ _ _ k2 =>
      obtain ⟨h1, h2⟩ := ih k2
      exact ⟨h1, by rw [h2]⟩
theorem offL_snoc {s : PrS} {l : List Int} {n : Int} : offL ns q mask K s (l ++ [n]) = offS ns q mask K (offL ns q mask K s l) n := by
  unfold offL
  rw [List.foldl_append]; rfl
/-- the slots that are there and not known -/
def unkN (ns : List NodeP) (kn : List Int) : Nat := (List.range ns.length).countP fun (i : Nat) => thereF ns (i : Int) && decide ((i : Int) ∉ kn)
theorem unkN_le (ns : List NodeP) (kn : List Int) : unkN ns kn ≤ ns.length := by
  unfold unkN
  exact Nat.le_trans List.countP_le_length (by simp)
theorem unkN_lt {kn : List Int} {n : Int} (ht : thereF ns n = true) (hn : n ∉ kn) : unkN ns (kn ++ [n]) < unkN ns kn := by
  obtain ⟨h1, h2⟩ := there_lt ht
  have e : ((n.toNat : Nat) : Int) = n := by omega
  unfold unkN
  refine countP_lt' (a := n.toNat) (fun i _ hi => ?_) (by rw [List.mem_range]; omega) ?_ ?_
  · simp only [Bool.and_eq_true, decide_eq_true_eq, List.mem_append, not_or] at hi ⊢
    exact ⟨hi.1, hi.2.1⟩
  · show (thereF ns (n.toNat : Int) && decide ((n.toNat : Int) ∉ kn ++ [n])) = false
    rw [e]; simp
  · show (thereF ns (n.toNat : Int) && decide ((n.toNat : Int) ∉ kn)) = true
    rw [e, ht]; simpa using hn
/-- what is left to do -/
def lookM (ns : List NodeP) (s : PrS) : Nat := unkN ns s.1 + s.2.1.length
theorem offS_le (s : PrS) (n : Int) : lookM ns (offS ns q mask K s n) ≤ lookM ns s := by
  unfold offS
  split
  · rename_i ht
    unfold lookM offKn offWt
    simp only
    by_cases h : n ∈ s.1
    · have h2 : (spotF ns q n).2 ∈ s.1 := h
      rw [if_pos h, if_pos h2]; omega
    · have h2 : (spotF ns q n).2 ∉ s.1 := h
      rw [if_neg h, if_neg h2, srtS_len, List.length_append]
      have := unkN_lt ht h
      simp only [List.length_cons, List.length_nil]
      omega
  · omega
theorem offL_le : ∀ (l : List Int) (s : PrS), lookM ns (offL ns q mask K s l) ≤ lookM ns s
  | [], s => Nat.le_refl _
  | n :: l, s => Nat.le_trans (offL_le l (offS ns q mask K s n)) (offS_le s n)
theorem look_less {s : PrS} (h : doneR K s.2.1 s.2.2 = false) (l : List Int) : lookM ns (offL ns q mask K (s.1, s.2.1.drop 1, s.2.2) l) < lookM ns s := by
  refine Nat.lt_of_le_of_lt (offL_le l _) ?_
  have : 0 < s.2.1.length := by
    rcases Nat.eq_zero_or_pos s.2.1.length with e | e
    · rw [show doneR K s.2.1 s.2.2 = true by unfold doneR; rw [decide_eq_true e]; rfl] at h; cases h
    · exact e
  unfold lookM
  simp only [List.length_drop]
  omega
theorem look_pos {s : PrS} (h : doneR K s.2.1 s.2.2 = false) : 0 < lookM ns s := by
  have : 0 < s.2.1.length := by
    rcases Nat.eq_zero_or_pos s.2.1.length with e | e
    · rw [show doneR K s.2.1 s.2.2 = true by unfold doneR; rw [decide_eq_true e]; rfl] at h; cases h
    · exact e
  unfold lookM
  omega
theorem kept_sub {l : List Int} {x : Int} : ∀ {k : Nat}, x ∈ kept ns l k → x ∈ l.take k
  | 0, h => by simp [kept] at h
  | k + 1, h => by
    unfold kept at h
    rw [List.take_add_one]
    rcases List.mem_append.1 h with h | h
    · exact List.mem_append_left _ (kept_sub h)
    · split at h
      · rename_i y hy
        split at h
        · rw [hy]; exact List.mem_append_right _ (by simpa using h)
        · simp at h
      · simp at h
theorem kept_nodup {l : List Int} : ∀ (k : Nat), (kept ns l k).Nodup
  | 0 => by simp [kept]
  | k + 1 => by
    unfold kept
    refine List.nodup_append.2 ⟨kept_nodup k, ?_, ?_⟩
    · split
      · split <;> simp
      · simp
    · intro a ha b hb e
      subst e
      split at hb
      · rename_i y hy
        split at hb
        · rename_i hs
          rw [List.mem_singleton.1 hb] at ha
          unfold stayF at hs
          rw [Bool.and_eq_true, decide_eq_true_eq] at hs
          exact hs.1 (kept_sub ha)
        · simp at hb
      · simp at hb
theorem there_len {l : List Int} (h : l.Nodup) (ht : ∀ x ∈ l, thereF ns x = true) : l.length ≤ ns.length := by
  have h1 := len_le_of_keys (l := l.map fun x => (x, ())) (m := (List.range ns.length).map fun (i : Nat) => ((i : Int), ())) (by rw [show (l.map fun x : Int => (x, ())).map (·.1) = l from by rw [List.map_map]; exact List.map_id l]; exact h) (fun p hp => by
    obtain ⟨x, hx, rfl⟩ := List.mem_map.1 hp
    obtain ⟨h1, h2⟩ := there_lt (ht x hx)
    exact List.mem_map.2 ⟨x.toNat, by rw [List.mem_range]; omega, by simp; omega⟩)
  simpa using h1
theorem near_len (ns : List NodeP) (slot level : Int) : (nearF ns slot level).length ≤ ns.length := by
  refine there_len ?_ fun x hx => near_there hx
  unfold nearF
  split
  · simp
  · split
    · exact kept_nodup _
    · simp
end
end Go.Proofs.YtphbdffgeeicaabGreat
