/-
  Planes and walks, plainly: who is there, who is near, spots, steps. No program in sight.
-/
import Derived.Test.YtgiplahhalgbdaaGreatMgX
import Derived.Test.YtgiplahhalgbdaaGreatVecP
namespace Go.Proofs.YtgiplahhalgbdaaGreat
set_option linter.unusedSimpArgs false
set_option linter.unusedVariables false

/-- a node: its item, level, lists, the next and the previous one -/
abbrev NodeP : Type := (Int × List Int × Int) × Int × List (List Int) × Int × Int
/-- a slot is there -/
def thereF (ns : List NodeP) (s : Int) : Bool := decide (0 < s) && (decide (s < ns.length) && decide (0 ≤ (ns[s.toNat]?.map fun n => n.2.2.2.1).getD (-1)))
theorem there_lt {ns : List NodeP} {s : Int} (h : thereF ns s = true) : 0 < s ∧ s < ns.length := by
  unfold thereF at h
  simp only [Bool.and_eq_true, decide_eq_true_eq] at h
  exact ⟨h.1, h.2.1⟩
/-- the neighbours, as they stand in the node -/
def rawF (n : NodeP) (slot level : Int) : List Int := (if 0 < slot ∧ 0 ≤ level ∧ level < n.2.2.1.length then n.2.2.1[level.toNat]?.getD [] else []) ++ (if level = 0 then [n.2.2.2.1, n.2.2.2.2] else [])
/-- whether the k-th of a list stays -/
def stayF (ns : List NodeP) (l : List Int) (k : Nat) (x : Int) : Bool := decide (x ∉ l.take k) && thereF ns x
/-- what stays of the first k -/
def kept (ns : List NodeP) (l : List Int) : Nat → List Int
  | 0 => []
  | k + 1 => kept ns l k ++ (match l[k]? with | some x => if stayF ns l k x = true then [x] else [] | none => [])
theorem kept_succ {ns : List NodeP} {l : List Int} {k : Nat} {x : Int} (h : l[k]? = some x) : kept ns l (k + 1) = kept ns l k ++ if stayF ns l k x = true then [x] else [] := by rw [kept, h]
theorem kept_len (ns : List NodeP) (l : List Int) : ∀ k, (kept ns l k).length ≤ k
  | 0 => by simp [kept]
  | k + 1 => by
    have := kept_len ns l k
    unfold kept
    rw [List.length_append]
    split
    · split <;> simp <;> omega
    · simp; omega
theorem kept_mem {ns : List NodeP} {l : List Int} {x : Int} : ∀ {k}, x ∈ kept ns l k → thereF ns x = true
  | 0, h => by simp [kept] at h
  | k + 1, h => by
    unfold kept at h
    rcases List.mem_append.1 h with h | h
    · exact kept_mem h
    · split at h
      · split at h
        · rename_i hs
          rw [List.mem_singleton.1 h]
          unfold stayF at hs
          rw [Bool.and_eq_true] at hs
          exact hs.2
        · simp at h
      · simp at h
def nearF (ns : List NodeP) (slot level : Int) : List Int :=
  if slot < 0 ∨ (ns.length : Int) ≤ slot then [] else match ns[slot.toNat]? with
  | some n => kept ns (rawF n slot level) (rawF n slot level).length
  | none => []
theorem near_there {ns : List NodeP} {slot level x : Int} (h : x ∈ nearF ns slot level) : thereF ns x = true := by
  unfold nearF at h
  split at h
  · simp at h
  · split at h
    · exact kept_mem h
    · simp at h
/-- a slot's item, or none -/
def itemF (ns : List NodeP) (s : Int) : Int × List Int × Int := if 0 ≤ s ∧ s < ns.length then (ns[s.toNat]?.map fun n => n.1).getD (0, [], 0) else (0, [], 0)
def spotF (ns : List NodeP) (q : List Int) (s : Int) : Spt := ((distOf q (itemF ns s).2.1, (itemF ns s).1), s)
/-- the spots that a step looks at -/
def seenF (ns : List NodeP) (q : List Int) (slot level : Int) : List Spt := spotF ns q slot :: (nearF ns slot level).map (spotF ns q)
def stepF (ns : List NodeP) (q : List Int) (slot level : Int) : Int := ((srtS (seenF ns q slot level))[0]?.map (·.2)).getD 0
theorem srt_first {l : List Spt} {x : Spt} (h : (srtS l)[0]? = some x) : x ∈ l ∧ ∀ y ∈ l, sptLt y x = false := by
  have hp : (srtS l).Pairwise fun a b => sptLt b a = false := srt_pw swoS l
  have hm : (srtS l).Perm l := srt_perm
  cases e : srtS l with
  | nil => rw [e] at h; simp at h
  | cons a t =>
    rw [e] at h hp hm
    simp at h
    subst h
    refine ⟨hm.mem_iff.1 (by simp), fun y hy => ?_⟩
    rcases List.mem_cons.1 (hm.mem_iff.2 hy) with rfl | hy
    · exact swoS.irrefl _
    · exact (List.pairwise_cons.1 hp).1 y hy
theorem step_spec (ns : List NodeP) (q : List Int) (slot level : Int) : ∃ b : Spt, (srtS (seenF ns q slot level))[0]? = some b ∧ b = spotF ns q (stepF ns q slot level) ∧ (stepF ns q slot level = slot ∨ stepF ns q slot level ∈ nearF ns slot level) ∧ ∀ y ∈ seenF ns q slot level, sptLt y (spotF ns q (stepF ns q slot level)) = false := by
  have hl : 0 < (srtS (seenF ns q slot level)).length := by rw [srtS_len]; simp [seenF]
  obtain ⟨b, hb⟩ : ∃ b, (srtS (seenF ns q slot level))[0]? = some b := ⟨_, List.getElem?_eq_getElem hl⟩
  obtain ⟨h1, h2⟩ := srt_first hb
  have hs : stepF ns q slot level = b.2 := by unfold stepF; rw [hb]; rfl
  have hbs : b = spotF ns q b.2 := by
    unfold seenF at h1
    rcases List.mem_cons.1 h1 with rfl | h1
    · rfl
    · obtain ⟨n, _, rfl⟩ := List.mem_map.1 h1
      rfl
  refine ⟨b, hb, by rw [hs]; exact hbs, ?_, fun y hy => by rw [hs, ← hbs]; exact h2 y hy⟩
  rw [hs]
  unfold seenF at h1
  rcases List.mem_cons.1 h1 with rfl | h1
  · exact .inl rfl
  · obtain ⟨n, hn, rfl⟩ := List.mem_map.1 h1
    exact .inr hn
/-- a step leads on to a spot ahead, to a neighbour; or no neighbour is ahead -/
theorem step_on {ns : List NodeP} {q : List Int} {slot level : Int} (h : stepF ns q slot level ≠ slot) : stepF ns q slot level ∈ nearF ns slot level ∧ sptLt (spotF ns q (stepF ns q slot level)) (spotF ns q slot) = true := by
  obtain ⟨b, _, _, h1, h2⟩ := step_spec ns q slot level
  refine ⟨h1.resolve_left h, ?_⟩
  have h3 := h2 (spotF ns q slot) (by simp [seenF])
  rcases hl : sptLt (spotF ns q (stepF ns q slot level)) (spotF ns q slot) with _ | _
  · exact absurd (congrArg Prod.snd (totS _ _ hl h3)) h
  · rfl
theorem step_end {ns : List NodeP} {q : List Int} {slot level : Int} (h : stepF ns q slot level = slot) (m : Int) (hm : m ∈ nearF ns slot level) : sptLt (spotF ns q m) (spotF ns q slot) = false := by
  obtain ⟨b, _, _, h1, h2⟩ := step_spec ns q slot level
  rw [h] at h2
  exact h2 _ (by simp only [seenF, List.mem_cons, List.mem_map]; exact .inr ⟨m, hm, rfl⟩)
/-- how many slots have a spot ahead of one's -/
def aheadN (ns : List NodeP) (q : List Int) (s : Int) : Nat := (List.range ns.length).countP fun (i : Nat) => sptLt (spotF ns q (i : Int)) (spotF ns q s)
theorem ahead_le (ns : List NodeP) (q : List Int) (s : Int) : aheadN ns q s ≤ ns.length := by
  unfold aheadN
  exact Nat.le_trans List.countP_le_length (by simp)
theorem countP_lt' {α : Type} {p r : α → Bool} : ∀ {l : List α} {a : α}, (∀ x ∈ l, p x = true → r x = true) → a ∈ l → p a = false → r a = true → l.countP p < l.countP r
  | [], a, _, h, _, _ => by simp at h
  | x :: l, a, hs, h, h1, h2 => by
    have hle : l.countP p ≤ l.countP r := List.countP_mono_left fun y hy hp => hs y (List.mem_cons_of_mem _ hy) hp
    rw [List.countP_cons, List.countP_cons]
    rcases List.mem_cons.1 h with rfl | h
    · rw [h1, h2]; simp; omega
    · have := countP_lt' (p := p) (r := r) (fun y hy hp => hs y (List.mem_cons_of_mem _ hy) hp) h h1 h2
      have hx := hs x (by simp)
      cases hp : p x with
      | false => simp; omega
      | true => rw [hx hp]; simp; omega
theorem ahead_lt {ns : List NodeP} {q : List Int} {s t : Int} (ht : thereF ns t = true) (h : sptLt (spotF ns q t) (spotF ns q s) = true) : aheadN ns q t < aheadN ns q s := by
  obtain ⟨h1, h2⟩ := there_lt ht
  unfold aheadN
  refine countP_lt' (a := t.toNat) (fun i _ hi => swoS.trans _ _ _ hi h) (by rw [List.mem_range]; omega) ?_ ?_
  · show sptLt (spotF ns q (t.toNat : Int)) (spotF ns q t) = false
    rw [show ((t.toNat : Nat) : Int) = t by omega]
    exact swoS.irrefl _
  · show sptLt (spotF ns q (t.toNat : Int)) (spotF ns q s) = true
    rw [show ((t.toNat : Nat) : Int) = t by omega]
    exact h
/-- a way: each is a neighbour of the one ahead, and its spot is ahead -/
def Way (ns : List NodeP) (q : List Int) (level : Int) (p : List Int) : Prop := ∀ (i : Nat) (a b : Int), p[i]? = some a → p[i + 1]? = some b → b ∈ nearF ns a level ∧ sptLt (spotF ns q b) (spotF ns q a) = true
theorem Way.one (ns : List NodeP) (q : List Int) (level s : Int) : Way ns q level [s] := fun i a b h1 h2 => by simp at h2
theorem Way.snoc {ns : List NodeP} {q : List Int} {level : Int} {p : List Int} {s t : Int} (h : Way ns q level (p ++ [s])) (h1 : t ∈ nearF ns s level) (h2 : sptLt (spotF ns q t) (spotF ns q s) = true) : Way ns q level (p ++ [s] ++ [t]) := fun i a b ha hb => by
  by_cases hi : i + 1 < (p ++ [s]).length
  · rw [List.getElem?_append_left (by omega)] at ha
    rw [List.getElem?_append_left hi] at hb
    exact h i a b ha hb
  · have hl := (List.getElem?_eq_some_iff.1 hb).1
    rw [List.length_append] at hl
    simp only [List.length_append, List.length_cons, List.length_nil] at hi hl
    have e : i = p.length := by omega
    subst e
    rw [List.getElem?_append_left (by simp)] at ha
    simp at ha hb
    subst ha hb
    exact ⟨h1, h2⟩
/-- the last of a way is no behind its first -/
theorem Way.last {ns : List NodeP} {q : List Int} {level : Int} : ∀ {p : List Int} {s t : Int}, Way ns q level p → p[0]? = some s → p[p.length - 1]? = some t → t = s ∨ sptLt (spotF ns q t) (spotF ns q s) = true
  | [], s, t, _, h1, _ => by simp at h1
  | [a], s, t, _, h1, h2 => by simp at h1 h2; exact .inl (h2.symm.trans h1)
  | a :: b :: p, s, t, hw, h1, h2 => by
    simp at h1
    subst h1
    have hw2 : Way ns q level (b :: p) := fun i x y hx hy => hw (i + 1) x y (by simpa using hx) (by simpa using hy)
    have h3 := hw 0 a b rfl rfl
    rcases hw2.last (s := b) (t := t) rfl (by simpa using h2) with e | e
    · rw [e]; exact .inr h3.2
    · exact .inr (swoS.trans _ _ _ e h3.2)
end Go.Proofs.YtgiplahhalgbdaaGreat
