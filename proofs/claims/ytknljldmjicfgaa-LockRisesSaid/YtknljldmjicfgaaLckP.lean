/-
  The tables of mutexes: plain laws. No condition.
-/
import Derived.Test.YtknljldmjicfgaaMap
namespace Go.Proofs.Ytknljldmjicfgaa
open Go.RowKit

/-- a table: who holds a mutex, for which a worker waits, was not all taken rising -/
structure Tab where
  h : List (Int × Int)
  ws : List (Int × Int)
  br : Bool
def intsUpTo (n : Nat) : List Int := (List.range n).map fun (i : Nat) => (i : Int)
theorem mem_intsUpTo {n : Nat} {x : Int} : x ∈ intsUpTo n ↔ 0 ≤ x ∧ x < n := by
  unfold intsUpTo
  rw [List.mem_map]
  constructor
  · rintro ⟨i, hi, rfl⟩
    have := List.mem_range.1 hi
    omega
  · intro h
    exact ⟨x.toNat, List.mem_range.2 (by omega), by omega⟩
/-- a worker's mutexes below N -/
def heldN (N : Nat) (h : List (Int × Int)) (w : Int) : List Int := (intsUpTo N).filter fun n => decide (lookF h n = some w)
theorem mem_heldN {N : Nat} {h : List (Int × Int)} {w x : Int} : x ∈ heldN N h w ↔ (0 ≤ x ∧ x < N) ∧ lookF h x = some w := by
  unfold heldN
  rw [List.mem_filter, mem_intsUpTo, decide_eq_true_iff]
/-- a worker's mutexes -/
def heldF (h : List (Int × Int)) (w : Int) : List Int := heldN 4097 h w
def outL (w n : Int) : Prop := w < 0 ∨ 64 < w ∨ n < 0 ∨ 4096 < n
instance (w n : Int) : Decidable (outL w n) := by unfold outL; infer_instance
def brF (s : Tab) (w n : Int) : Bool := s.br || (heldF s.h w).any fun m => decide (n < m)
def takeF (s : Tab) (w n : Int) : Tab × Bool :=
  if outL w n ∨ lookF s.h n = some w then (s, false)
  else if (lookF s.h n).isSome then (⟨s.h, putF s.ws w n, brF s w n⟩, false) else (⟨putF s.h n w, dropF s.ws w, brF s w n⟩, true)
def giveF (s : Tab) (w n : Int) : Tab × Bool :=
  if lookF s.h n = some w then (⟨dropF s.h n, dropF s.ws w, s.br⟩, true) else (s, false)
/-- the reference's: who waits is told anew behind all others -/
def brR (s : Tab) (w n : Int) : Bool := s.br || (heldF s.h w).any fun m => decide (n ≤ m)
def takeR (s : Tab) (w n : Int) : Tab × Bool :=
  if outL w n ∨ lookF s.h n = some w then (s, false)
  else if (lookF s.h n).isSome then (⟨s.h, dropF s.ws w ++ [(w, n)], brR s w n⟩, false) else (⟨s.h ++ [(n, w)], dropF s.ws w, brR s w n⟩, true)
def nextF (s : Tab) (w : Int) : Option Int := (lookF s.ws w).bind (lookF s.h)
/-- numbers of mutexes and workers are in bounds, and no mutex stands twice -/
structure Tab.Ok (s : Tab) : Prop where
  h : ∀ p ∈ s.h, (0 ≤ p.1 ∧ p.1 ≤ 4096) ∧ 0 ≤ p.2 ∧ p.2 ≤ 64
  ws : ∀ p ∈ s.ws, (0 ≤ p.1 ∧ p.1 ≤ 64) ∧ 0 ≤ p.2 ∧ p.2 ≤ 4096
def Tab0 : Tab := ⟨[], [], false⟩
theorem Tab0.ok : Tab0.Ok := ⟨by simp [Tab0], by simp [Tab0]⟩
theorem mem_held {h : List (Int × Int)} {w x : Int} : x ∈ heldF h w ↔ (0 ≤ x ∧ x < 4097) ∧ lookF h x = some w := by
  have k : x ∈ heldF h w ↔ _ := @mem_heldN 4097 h w x
  constructor
  · intro hx
    have hx := k.1 hx
    exact ⟨⟨hx.1.1, by have := hx.1.2; omega⟩, hx.2⟩
  · intro hx
    exact k.2 ⟨⟨hx.1.1, by have := hx.1.2; omega⟩, hx.2⟩
theorem br_same (s : Tab) (w n : Int) (h : lookF s.h n ≠ some w) : brR s w n = brF s w n := by
  unfold brR brF
  have hm : ∀ m ∈ heldF s.h w, m ≠ n := fun m hm e => h (e ▸ (mem_held.1 hm).2)
  generalize heldF s.h w = L at hm ⊢
  have key : (L.any fun m => decide (n ≤ m)) = L.any fun m => decide (n < m) := by
    rw [Bool.eq_iff_iff, List.any_eq_true, List.any_eq_true]
    constructor
    · rintro ⟨m, h1, h2⟩
      have h2 : n ≤ m := of_decide_eq_true h2
      have := hm m h1
      exact ⟨m, h1, decide_eq_true (by omega)⟩
    · rintro ⟨m, h1, h2⟩
      have h2 : n < m := of_decide_eq_true h2
      exact ⟨m, h1, decide_eq_true (by omega)⟩
  rw [key]
theorem lookF_bounds {P : Int × Int → Prop} {m : List (Int × Int)} (h : ∀ p ∈ m, P p) {k v : Int} (hk : lookF m k = some v) : P (k, v) := h _ (lookF_mem hk)
theorem putF_mem {m : List (Int × Int)} {k v : Int} {p : Int × Int} (h : p ∈ putF m k v) : p ∈ m ∨ p = (k, v) := by
  unfold putF at h
  split at h
  · obtain ⟨q, hq, rfl⟩ := List.mem_map.1 h
    by_cases e : q.1 = k
    · simp [e]
    · simp [e, hq]
  · rcases List.mem_append.1 h with h | h
    · exact .inl h
    · exact .inr (List.mem_singleton.1 h)
theorem Tab.Ok.take {s : Tab} (h : s.Ok) (w n : Int) : (takeF s w n).1.Ok := by
  unfold takeF
  split
  · exact h
  · rename_i hn
    have hb : (0 ≤ w ∧ w ≤ 64) ∧ 0 ≤ n ∧ n ≤ 4096 := by
      have := not_or.1 hn
      unfold outL at this
      omega
    split
    · refine ⟨h.h, fun p hp => ?_⟩
      rcases putF_mem hp with hp | rfl
      · exact h.ws p hp
      · exact hb
    · refine ⟨fun p hp => ?_, fun p hp => h.ws p (List.mem_filter.1 hp).1⟩
      rcases putF_mem hp with hp | rfl
      · exact h.h p hp
      · exact ⟨hb.2, hb.1⟩
theorem Tab.Ok.give {s : Tab} (h : s.Ok) (w n : Int) : (giveF s w n).1.Ok := by
  unfold giveF
  split
  · exact ⟨fun p hp => h.h p (List.mem_filter.1 hp).1, fun p hp => h.ws p (List.mem_filter.1 hp).1⟩
  · exact h

/-- two tables tell the same -/
structure Sim (s r : Tab) : Prop where
  h : s.h = r.h
  ws : ∀ x, lookF s.ws x = lookF r.ws x
  br : s.br = r.br
theorem Sim.start : Sim Tab0 Tab0 := ⟨rfl, fun _ => rfl, rfl⟩
theorem Sim.take {s r : Tab} (h : Sim s r) (w n : Int) : Sim (takeF s w n).1 (takeR r w n).1 ∧ (takeR r w n).2 = (takeF s w n).2 := by
  unfold takeF takeR
  rw [← h.h]
  by_cases e : outL w n ∨ lookF s.h n = some w
  · simp only [if_pos e]; exact ⟨h, trivial⟩
  · simp only [if_neg e]
    have hb : brR r w n = brF s w n := by
      rw [← br_same s w n (fun e1 => e (.inr e1))]
      unfold brR
      rw [← h.h, ← h.br]
    by_cases e1 : (lookF s.h n).isSome = true
    · simp only [if_pos e1]
      refine ⟨⟨rfl, fun x => ?_, hb.symm⟩, trivial⟩
      simp only
      rw [lookF_put, lookF_append, lookF_drop, lookF_cons, lookF_nil, h.ws]
      by_cases e2 : x = w
      · simp [e2]
      · have : (w == x) = false := by simpa using Ne.symm e2
        simp [e2, this]
    · simp only [if_neg e1]
      refine ⟨⟨?_, fun x => ?_, hb.symm⟩, trivial⟩
      · unfold putF; simp only [if_neg e1]
      · simp only
        rw [lookF_drop, lookF_drop, h.ws]
theorem Sim.give {s r : Tab} (h : Sim s r) (w n : Int) : Sim (giveF s w n).1 (giveF r w n).1 ∧ (giveF r w n).2 = (giveF s w n).2 := by
  unfold giveF
  rw [← h.h]
  by_cases e : lookF s.h n = some w
  · simp only [if_pos e]
    exact ⟨⟨rfl, fun x => by simp only; rw [lookF_drop, lookF_drop, h.ws], h.br⟩, trivial⟩
  · simp only [if_neg e]; exact ⟨h, trivial⟩
theorem Sim.next {s r : Tab} (h : Sim s r) : nextF s = nextF r := by
  funext w
  unfold nextF
  rw [h.ws, h.h]

/-! ### rings -/
/-- the chain from w, as far as k steps more: at w again with the list l -/
def chainF (f : Int → Option Int) (w : Int) : Nat → List Int → Option Int → Option (List Int)
  | 0, _, _ => none
  | _ + 1, _, none => none
  | k + 1, l, some x => if x = w then some l else chainF f w k (l ++ [x]) (f x)
def chainR (f : Int → Option Int) (w : Int) : Nat → List Int → Int → Option (List Int)
  | 0, _, _ => none
  | k + 1, l, a => match f a with
    | none => none
    | some x => if x = w then some (l ++ [a]) else chainR f w k (l ++ [a]) x
theorem chainR_eq (f : Int → Option Int) (w : Int) : ∀ (k : Nat) (l : List Int) (a : Int), chainR f w k l a = chainF f w k (l ++ [a]) (f a)
  | 0, _, _ => rfl
  | k + 1, l, a => by
    unfold chainR
    rcases h : f a with _ | x
    · rfl
    · simp only [chainF]
      rw [chainR_eq f w k]
/-- the iterates -/
def itF (f : Int → Option Int) (w : Int) : Nat → Option Int
  | 0 => some w
  | k + 1 => (itF f w k).bind f
theorem itF_add {f : Int → Option Int} {w : Int} {i j : Nat} (h : itF f w i = itF f w j) : ∀ t, itF f w (i + t) = itF f w (j + t)
  | 0 => h
  | t + 1 => by
    show (itF f w (i + t)).bind f = (itF f w (j + t)).bind f
    rw [itF_add h t]
/-- what a chain is: the iterates, up to the first that is w again -/
structure RingOf (f : Int → Option Int) (w : Int) (l : List Int) : Prop where
  pos : 0 < l.length
  at_ : ∀ i, i < l.length → itF f w i = l[i]?
  back : itF f w l.length = some w
  first : ∀ i, 0 < i → i < l.length → itF f w i ≠ some w
theorem chainF_ring {f : Int → Option Int} {w : Int} : ∀ (k : Nat) (l : List Int) (o : Option Int) (r : List Int), 0 < l.length → (∀ i, i < l.length → itF f w i = l[i]?) → (∀ i, 0 < i → i < l.length → itF f w i ≠ some w) →
    itF f w l.length = o → chainF f w k l o = some r → RingOf f w r ∧ r.length < l.length + k
  | 0, l, o, r, _, _, _, _, h => by simp [chainF] at h
  | k + 1, l, none, r, _, _, _, _, h => by simp [chainF] at h
  | k + 1, l, some x, r, h0, h1, h2, h3, h => by
    simp only [chainF] at h
    by_cases e : x = w
    · rw [if_pos e] at h
      injection h with h
      subst h
      exact ⟨⟨h0, h1, by rw [h3, e], h2⟩, by omega⟩
    · rw [if_neg e] at h
      have := chainF_ring k (l ++ [x]) (f x) r (by simp) (fun i hi => by
          simp only [List.length_append, List.length_cons, List.length_nil] at hi
          by_cases e1 : i = l.length
          · subst e1; rw [h3]; simp
          · rw [h1 i (by omega), List.getElem?_append_left (by omega)]) (fun i hi hl => by
          simp only [List.length_append, List.length_cons, List.length_nil] at hl
          by_cases e1 : i = l.length
          · subst e1; rw [h3]; intro e2; injection e2 with e2; exact e e2
          · exact h2 i hi (by omega)) (by
          simp only [List.length_append, List.length_cons, List.length_nil]
          show (itF f w l.length).bind f = f x
          rw [h3]; rfl) h
      simp only [List.length_append, List.length_cons, List.length_nil] at this
      exact ⟨this.1, by omega⟩
theorem RingOf.nodup {f : Int → Option Int} {w : Int} {l : List Int} (h : RingOf f w l) : l.Nodup := by
  refine List.pairwise_iff_getElem.2 fun i j hi hj hij e => ?_
  have e : l[i]? = l[j]? := by rw [List.getElem?_eq_getElem hi, List.getElem?_eq_getElem hj, e]
  have e1 : itF f w i = itF f w j := by rw [h.at_ i (by omega), h.at_ j hj, e]
  have e2 := itF_add e1 (l.length - j)
  rw [show j + (l.length - j) = l.length by omega, h.back] at e2
  exact h.first (i + (l.length - j)) (by omega) (by omega) e2
theorem RingOf.mem {f : Int → Option Int} {w : Int} {l : List Int} (h : RingOf f w l) {P : Int → Prop} (hw : P w) (hf : ∀ a x, f a = some x → P x) : ∀ x ∈ l, P x := by
  intro x hx
  obtain ⟨i, hi⟩ := List.getElem?_of_mem hx
  have hl := (List.getElem?_eq_some_iff.1 hi).1
  have h1 := h.at_ i hl
  rw [hi] at h1
  rcases i with _ | i
  · injection h1 with h1; exact h1 ▸ hw
  · obtain ⟨a, _, ha⟩ := Option.bind_eq_some_iff.1 h1
    exact hf a x ha
theorem nodup_bound {l : List Int} (h : l.Nodup) {n : Nat} (hb : ∀ x ∈ l, 0 ≤ x ∧ x < n) : l.length ≤ n := by
  have key : ∀ (a b : List Int), a.Nodup → (∀ x ∈ a, x ∈ b) → a.length ≤ b.length := by
    intro a
    induction a with
    | nil => intro b _ _; exact Nat.zero_le _
    | cons x a ih =>
      intro b hn hs
      have hx := hs x (List.mem_cons_self ..)
      have := ih (b.erase x) (List.nodup_cons.1 hn).2 fun y hy => by
        have hne : y ≠ x := fun e => (List.nodup_cons.1 hn).1 (e ▸ hy)
        exact (List.mem_erase_of_ne hne).2 (hs y (List.mem_cons_of_mem _ hy))
      rw [List.length_erase_of_mem hx] at this
      have := List.length_pos_of_mem hx
      simp only [List.length_cons]; omega
  have := key l (intsUpTo n) h fun x hx => mem_intsUpTo.2 (hb x hx)
  simpa [intsUpTo] using this
theorem chainF_more {f : Int → Option Int} {w : Int} : ∀ (k : Nat) (l : List Int) (o : Option Int) (r : List Int), chainF f w k l o = some r → chainF f w (k + 1) l o = some r
  | 0, l, o, r, h => by simp [chainF] at h
  | k + 1, l, none, r, h => by simp [chainF] at h
  | k + 1, l, some x, r, h => by
    simp only [chainF] at h ⊢
    by_cases e : x = w
    · rw [if_pos e] at h ⊢; exact h
    · rw [if_neg e] at h ⊢
      exact chainF_more k _ _ _ h
theorem chainF_less {f : Int → Option Int} {w : Int} : ∀ (k : Nat) (l : List Int) (o : Option Int) (r : List Int), chainF f w (k + 1) l o = some r → r.length < l.length + k → chainF f w k l o = some r
  | 0, l, none, r, h, _ => by simp [chainF] at h
  | 0, l, some x, r, h, hl => by
    simp only [chainF] at h
    by_cases e : x = w
    · rw [if_pos e] at h; injection h with h; subst h; omega
    · rw [if_neg e] at h; cases h
  | k + 1, l, none, r, h, _ => by simp [chainF] at h
  | k + 1, l, some x, r, h, hl => by
    rw [chainF] at h ⊢
    by_cases e : x = w
    · rw [if_pos e] at h ⊢; exact h
    · rw [if_neg e] at h ⊢
      exact chainF_less k _ _ _ h (by simp; omega)
theorem Tab.Ok.next {s : Tab} (h : s.Ok) {a x : Int} (hx : nextF s a = some x) : 0 ≤ x ∧ x ≤ 64 := by
  unfold nextF at hx
  obtain ⟨n, _, h2⟩ := Option.bind_eq_some_iff.1 hx
  exact (h.h _ (lookF_mem h2)).2
theorem chain_same {s : Tab} (h : s.Ok) {w : Int} (hw : 0 ≤ w ∧ w ≤ 64) : chainF (nextF s) w 66 [w] (nextF s w) = chainF (nextF s) w 65 [w] (nextF s w) := by
  rcases e : chainF (nextF s) w 66 [w] (nextF s w) with _ | r
  · rcases e1 : chainF (nextF s) w 65 [w] (nextF s w) with _ | r
    · rfl
    · rw [chainF_more _ _ _ _ e1] at e; cases e
  · have hr := (chainF_ring 66 [w] (nextF s w) r (by simp) (fun i hi => by
      have : i = 0 := by simp at hi; omega
      subst this; rfl) (fun i h1 h2 => by simp at h2; omega) rfl e).1
    have hl := nodup_bound (n := 65) hr.nodup (fun x hx => hr.mem (P := fun x => 0 ≤ x ∧ x < (65 : Nat)) (by omega) (fun a x ha => by have := h.next ha; omega) x hx)
    exact (chainF_less _ _ _ _ e (by simp; omega)).symm
/-- the ring of the least worker that is in one, from the worker k on -/
def ringFrom (s : Tab) (k : Nat) : Nat → Option (List Int)
  | 0 => none
  | n + 1 => match chainF (nextF s) (k : Int) 65 [(k : Int)] (nextF s k) with
    | some l => some l
    | none => ringFrom s (k + 1) n
def ringF (s : Tab) : List Int := (ringFrom s 0 65).getD []
theorem Sim.ring {s r : Tab} (h : Sim s r) : ringF r = ringF s := by
  have key : ∀ n k, ringFrom r k n = ringFrom s k n := by
    intro n
    induction n with
    | zero => intro k; rfl
    | succ n ih => intro k; simp only [ringFrom]; rw [← h.next, ih]
  unfold ringF
  rw [key]
theorem ringFrom_of {s : Tab} (h : s.Ok) : ∀ (n k : Nat) (l : List Int), ringFrom s k n = some l → k + n ≤ 65 → ∃ w : Int, (0 ≤ w ∧ w ≤ 64) ∧ RingOf (nextF s) w l
  | 0, k, l, e, _ => by simp [ringFrom] at e
  | n + 1, k, l, e, hk => by
    simp only [ringFrom] at e
    rcases e1 : chainF (nextF s) (k : Int) 65 [(k : Int)] (nextF s k) with _ | r
    · rw [e1] at e
      exact ringFrom_of h n (k + 1) l e (by omega)
    · rw [e1] at e
      injection e with e
      subst e
      exact ⟨k, by omega, (chainF_ring 65 [(k : Int)] (nextF s k) r (by simp) (fun i hi => by
        have : i = 0 := by simp at hi; omega
        subst this; rfl) (fun i h1 h2 => by simp at h2; omega) rfl e1).1⟩
theorem ringF_of {s : Tab} (h : s.Ok) : ringF s = [] ∨ ∃ w : Int, (0 ≤ w ∧ w ≤ 64) ∧ RingOf (nextF s) w (ringF s) := by
  unfold ringF
  rcases e : ringFrom s 0 65 with _ | l
  · exact .inl rfl
  · exact .inr (ringFrom_of h _ _ _ e (by omega))
/-- each waits for what the next one holds -/
theorem RingOf.step {s : Tab} {w : Int} {l : List Int} (h : RingOf (nextF s) w l) {i : Nat} {x : Int} (hx : l[i]? = some x) : ∃ n y, lookF s.ws x = some n ∧ lookF s.h n = some y ∧ l[(i + 1) % l.length]? = some y := by
  have hl := (List.getElem?_eq_some_iff.1 hx).1
  have h1 := h.at_ i hl
  rw [hx] at h1
  have h2 : itF (nextF s) w (i + 1) = nextF s x := by
    show (itF (nextF s) w i).bind _ = _
    rw [h1]; rfl
  have key : ∃ y, nextF s x = some y ∧ l[(i + 1) % l.length]? = some y := by
    by_cases e : i + 1 = l.length
    · rw [e, h.back] at h2
      refine ⟨w, h2.symm, ?_⟩
      rw [e, Nat.mod_self, ← h.at_ 0 h.pos]
      rfl
    · have := h.at_ (i + 1) (by omega)
      rw [Nat.mod_eq_of_lt (by omega), ← h2, this]
      rw [List.getElem?_eq_getElem (by omega)]
      exact ⟨_, rfl, rfl⟩
  obtain ⟨y, h3, h4⟩ := key
  unfold nextF at h3
  obtain ⟨n, h5, h6⟩ := Option.bind_eq_some_iff.1 h3
  exact ⟨n, y, h5, h6, h4⟩
/-- as long as all is taken rising: a worker waits for a mutex above all that it holds -/
def Rise (s : Tab) : Prop := s.br = false → ∀ w n m, lookF s.ws w = some n → lookF s.h m = some w → m < n
theorem Rise.start : Rise Tab0 := fun _ w n m h => by simp [Tab0, lookF] at h
theorem Rise.take {s : Tab} (hr : Rise s) (ok : s.Ok) (w n : Int) : Rise (takeF s w n).1 := by
  unfold takeF
  split
  · exact hr
  · rename_i hn
    have hne : lookF s.h n ≠ some w := fun e => hn (.inr e)
    have hbr : brF s w n = false → s.br = false ∧ ∀ m, lookF s.h m = some w → m < n := by
      intro hb
      unfold brF at hb
      rw [Bool.or_eq_false_iff] at hb
      refine ⟨hb.1, fun m hm => ?_⟩
      have h1 := (ok.h _ (lookF_mem hm)).1
      have h2 := List.any_eq_false.1 hb.2 m (mem_held.2 ⟨by simp only at h1; omega, hm⟩)
      have h3 : ¬ n < m := by simpa using h2
      have h4 : m ≠ n := by rintro rfl; exact hne hm
      omega
    split
    · rintro hb v k m h1 h2
      obtain ⟨hb1, hb2⟩ := hbr hb
      simp only at h1 h2
      rw [lookF_put] at h1
      by_cases e : v = w
      · subst e
        rw [if_pos rfl] at h1
        injection h1 with h1
        subst h1
        exact hb2 m h2
      · rw [if_neg e] at h1
        exact hr hb1 v k m h1 h2
    · rintro hb v k m h1 h2
      obtain ⟨hb1, hb2⟩ := hbr hb
      simp only at h1 h2
      rw [lookF_drop] at h1
      by_cases e : v = w
      · rw [if_pos e] at h1; cases h1
      · rw [if_neg e] at h1
        rw [lookF_put] at h2
        by_cases e1 : m = n
        · rw [if_pos e1] at h2; injection h2 with h2; exact absurd h2.symm e
        · rw [if_neg e1] at h2
          exact hr hb1 v k m h1 h2
theorem Rise.give {s : Tab} (hr : Rise s) (w n : Int) : Rise (giveF s w n).1 := by
  unfold giveF
  split
  · rintro hb v k m h1 h2
    simp only at h1 h2 hb
    rw [lookF_drop] at h1 h2
    by_cases e : v = w
    · rw [if_pos e] at h1; cases h1
    · rw [if_neg e] at h1
      by_cases e1 : m = n
      · rw [if_pos e1] at h2; cases h2
      · rw [if_neg e1] at h2
        exact hr hb v k m h1 h2
  · exact hr
theorem Rise.noRing {s : Tab} (hr : Rise s) (ok : s.Ok) (hb : s.br = false) : ringF s = [] := by
  rcases ringF_of ok with h | ⟨w, _, h⟩
  · exact h
  · exfalso
    generalize ringF s = l at h
    have hs := fun i x hx => h.step (i := i) (x := x) hx
    -- what the i-th waits for
    have hn : ∀ i, i < l.length → ∃ x n, l[i]? = some x ∧ lookF s.ws x = some n := fun i hi => by
      obtain ⟨n, y, h1, _⟩ := hs i _ (List.getElem?_eq_getElem hi)
      exact ⟨_, n, List.getElem?_eq_getElem hi, h1⟩
    have lt : ∀ i, i < l.length → ∀ x n, l[i]? = some x → lookF s.ws x = some n → ∀ y m, l[(i + 1) % l.length]? = some y → lookF s.ws y = some m → n < m := by
      intro i hi x n hx hxn y m hy hym
      obtain ⟨n', y', h1, h2, h3⟩ := hs i x hx
      rw [hxn] at h1
      injection h1 with h1
      subst h1
      rw [hy] at h3
      injection h3 with h3
      subst h3
      exact hr hb y m n hym h2
    have up : ∀ i, i < l.length → ∀ x0 n0 x n, l[0]? = some x0 → lookF s.ws x0 = some n0 → l[i]? = some x → lookF s.ws x = some n → n0 ≤ n := by
      intro i
      induction i with
      | zero => intro _ x0 n0 x n a1 a2 a3 a4; rw [a1] at a3; injection a3 with a3; subst a3; rw [a2] at a4; injection a4 with a4; omega
      | succ i ih =>
        intro hi x0 n0 x n a1 a2 a3 a4
        obtain ⟨x', n', b1, b2⟩ := hn i (by omega)
        have := ih (by omega) x0 n0 x' n' a1 a2 b1 b2
        have := lt i (by omega) x' n' b1 b2 x n (by rw [Nat.mod_eq_of_lt hi]; exact a3) a4
        omega
    have hp := h.pos
    obtain ⟨x0, n0, a1, a2⟩ := hn 0 hp
    obtain ⟨x, n, b1, b2⟩ := hn (l.length - 1) (by omega)
    have h1 := up (l.length - 1) (by omega) x0 n0 x n a1 a2 b1 b2
    have h2 := lt (l.length - 1) (by omega) x n b1 b2 x0 n0 (by rw [show l.length - 1 + 1 = l.length by omega, Nat.mod_self]; exact a1) a2
    omega
end Go.Proofs.Ytknljldmjicfgaa
