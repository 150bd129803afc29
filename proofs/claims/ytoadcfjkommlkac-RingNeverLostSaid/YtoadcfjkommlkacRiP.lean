/-
  A ring of words as a path that closes: a right ring is one; what Joins and Cuts do to it. No condition.
-/
import Derived.Test.YtoadcfjkommlkacRiL
namespace Go.Proofs.Ytoadcfjkommlkac
set_option linter.unusedSimpArgs false
set_option linter.unusedVariables false
open Go.RowKit

/-- the path by Next alone -/
def NP (f : Int → Int × Int) : Int → List Int → Int → Prop
  | a, [], b => (f a).1 = b
  | a, x :: l, b => (f a).1 = x ∧ NP f x l b
/-- the path by Next, and back by Prev -/
def Lk (f : Int → Int × Int) : Int → List Int → Int → Prop
  | a, [], b => (f a).1 = b ∧ (f b).2 = a
  | a, x :: l, b => (f a).1 = x ∧ (f x).2 = a ∧ Lk f x l b
def lastA : Int → List Int → Int
  | a, [] => a
  | _, x :: l => lastA x l
def headA : List Int → Int → Int
  | [], b => b
  | x :: _, _ => x
theorem lastA_mem (a : Int) (l : List Int) : lastA a l ∈ a :: l := by
  induction l generalizing a with
  | nil => simp [lastA]
  | cons x l ih => exact List.mem_cons_of_mem _ (ih x)
theorem headA_mem (l : List Int) (b : Int) : headA l b ∈ l ++ [b] := by cases l <;> simp [headA]
theorem lastA_app (a x : Int) (l m : List Int) : lastA a (l ++ x :: m) = lastA x m := by
  induction l generalizing a with
  | nil => rfl
  | cons y l ih => exact ih y
theorem Lk.np {f : Int → Int × Int} {a : Int} {l : List Int} {b : Int} (h : Lk f a l b) : NP f a l b := by
  induction l generalizing a with
  | nil => exact h.1
  | cons x l ih => exact ⟨h.1, ih h.2.2⟩
theorem Lk.last {f : Int → Int × Int} {a : Int} {l : List Int} {b : Int} (h : Lk f a l b) : (f b).2 = lastA a l := by
  induction l generalizing a with
  | nil => exact h.2
  | cons x l ih => exact ih h.2.2
theorem Lk.head {f : Int → Int × Int} {a : Int} {l : List Int} {b : Int} (h : Lk f a l b) : (f a).1 = headA l b := by
  cases l with
  | nil => exact h.1
  | cons x l => exact h.1
theorem lk_app {f : Int → Int × Int} {a x b : Int} {l m : List Int} : Lk f a (l ++ x :: m) b ↔ Lk f a l x ∧ Lk f x m b := by
  induction l generalizing a with
  | nil => exact ⟨fun h => ⟨⟨h.1, h.2.1⟩, h.2.2⟩, fun h => ⟨h.1.1, h.1.2, h.2⟩⟩
  | cons y l ih => exact ⟨fun h => ⟨⟨h.1, h.2.1, (ih.1 h.2.2).1⟩, (ih.1 h.2.2).2⟩, fun h => ⟨h.1.1, h.1.2.1, ih.2 ⟨h.1.2.2, h.2⟩⟩⟩
theorem NP.congr {f g : Int → Int × Int} {a b : Int} {l : List Int} (h : NP f a l b) (hg : ∀ x ∈ a :: l, (g x).1 = (f x).1) : NP g a l b := by
  induction l generalizing a with
  | nil => exact (hg a (by simp)).trans h
  | cons x l ih => exact ⟨(hg a (by simp)).trans h.1, ih h.2 fun y hy => hg y (List.mem_cons_of_mem _ hy)⟩
theorem Lk.congr {f g : Int → Int × Int} {a b : Int} {l : List Int} (h : Lk f a l b) (hg : ∀ x ∈ a :: l, (g x).1 = (f x).1) (hp : ∀ y ∈ l ++ [b], (g y).2 = (f y).2) : Lk g a l b := by
  induction l generalizing a with
  | nil => exact ⟨(hg a (by simp)).trans h.1, (hp b (by simp)).trans h.2⟩
  | cons x l ih => exact ⟨(hg a (by simp)).trans h.1, (hp x (by simp)).trans h.2.1, ih h.2.2 (fun y hy => hg y (List.mem_cons_of_mem _ hy)) fun y hy => hp y (List.mem_cons_of_mem _ hy)⟩
theorem Lk.next {f : Int → Int × Int} {a b : Int} {l : List Int} (h : Lk f a l b) : ∀ x ∈ a :: l, (f x).1 ∈ l ++ [b] ∧ (f (f x).1).2 = x := by
  induction l generalizing a with
  | nil => intro x hx; rw [List.mem_singleton.1 hx]; exact ⟨by simp [h.1], by rw [h.1]; exact h.2⟩
  | cons y l ih =>
    intro x hx
    rcases List.mem_cons.1 hx with rfl | hx
    · exact ⟨by simp [h.1], by rw [h.1]; exact h.2.1⟩
    · obtain ⟨p, q⟩ := ih h.2.2 x hx
      exact ⟨List.mem_cons_of_mem _ p, q⟩
theorem Lk.prev {f : Int → Int × Int} {a b : Int} {l : List Int} (h : Lk f a l b) : ∀ y ∈ l ++ [b], (f y).2 ∈ a :: l := by
  induction l generalizing a with
  | nil => intro y hy; rw [List.mem_singleton.1 hy, h.2]; simp
  | cons x l ih =>
    intro y hy
    rcases List.mem_cons.1 hy with rfl | hy
    · rw [h.2.1]; simp
    · exact List.mem_cons_of_mem _ (ih h.2.2 y hy)
/-- a slot is taken out: by Next -/
theorem NP.cut {f g : Int → Int × Int} {s b : Int} {l2 : List Int} {l1 : List Int} {a : Int} (h : NP f a (l1 ++ s :: l2) b) (hnd : (a :: (l1 ++ l2)).Nodup)
    (hg : ∀ y ∈ a :: (l1 ++ l2), y ≠ lastA a l1 → (g y).1 = (f y).1) (hq : (g (lastA a l1)).1 = headA l2 b) : NP g a (l1 ++ l2) b := by
  induction l1 generalizing a with
  | nil =>
    have h2 : NP f s l2 b := h.2
    cases l2 with
    | nil => exact hq
    | cons y l2 =>
      refine ⟨hq, h2.2.congr fun z hz => hg z (List.mem_cons_of_mem _ hz) ?_⟩
      rintro rfl
      exact (List.nodup_cons.1 hnd).1 hz
  | cons x l1 ih =>
    have hnd2 := (List.nodup_cons.1 hnd)
    refine ⟨(hg a (by simp) ?_).trans h.1, ih h.2 hnd2.2 (fun y hy hne => hg y (List.mem_cons_of_mem _ hy) hne) hq⟩
    intro e
    have hl := lastA_mem x l1
    have e' : a = lastA x l1 := e
    rw [← e'] at hl
    exact hnd2.1 (by rcases List.mem_cons.1 hl with h | h <;> simp [h])
theorem Lk.cut {f g : Int → Int × Int} {s b : Int} {l2 : List Int} {l1 : List Int} {a : Int} (h : Lk f a (l1 ++ s :: l2) b) (hnd : (a :: (l1 ++ l2)).Nodup) (hnb : (l1 ++ l2 ++ [b]).Nodup)
    (hg : ∀ y ∈ a :: (l1 ++ l2), y ≠ lastA a l1 → (g y).1 = (f y).1) (hq : (g (lastA a l1)).1 = headA l2 b)
    (hp : ∀ y ∈ l1 ++ l2 ++ [b], y ≠ headA l2 b → (g y).2 = (f y).2) (hr : (g (headA l2 b)).2 = lastA a l1) : Lk g a (l1 ++ l2) b := by
  induction l1 generalizing a with
  | nil =>
    have h2 : Lk f s l2 b := h.2.2
    cases l2 with
    | nil => exact ⟨hq, hr⟩
    | cons y l2 =>
      refine ⟨hq, hr, h2.2.2.congr (fun z hz => hg z (List.mem_cons_of_mem _ hz) ?_) fun z hz => hp z (List.mem_cons_of_mem _ hz) ?_⟩
      · rintro rfl
        exact (List.nodup_cons.1 hnd).1 hz
      · rintro rfl
        exact (List.nodup_cons.1 hnb).1 hz
  | cons x l1 ih =>
    have hnd2 := (List.nodup_cons.1 hnd)
    have hnb2 := (List.nodup_cons.1 hnb)
    refine ⟨(hg a (by simp) ?_).trans h.1, (hp x (by simp) ?_).trans h.2.1, ih h.2.2 hnd2.2 hnb2.2 (fun y hy hne => hg y (List.mem_cons_of_mem _ hy) hne) hq (fun y hy hne => hp y (List.mem_cons_of_mem _ hy) hne) hr⟩
    · intro e
      have hl := lastA_mem x l1
      have e' : a = lastA x l1 := e
      rw [← e'] at hl
      exact hnd2.1 (by rcases List.mem_cons.1 hl with h | h <;> simp [h])
    · intro e
      have hl := headA_mem l2 b
      rw [← e] at hl
      exact hnb2.1 (by rcases List.mem_append.1 hl with h | h <;> simp [h] <;> simp_all)
/-- the walk by Next meets the path -/
theorem run_np {ws : List Int} {b : Int} (hb : b ≤ 0) : ∀ (l : List Int) (a : Int) (out : List Int) (k : Nat), NP (atW ws) a l b → (∀ x ∈ l, 0 < x) → (out ++ l).Nodup → l.length ≤ k → runW ws k out (atW ws a).1 = out ++ l := by
  intro l
  induction l with
  | nil => intro a out k h _ _ _; rw [show (atW ws a).1 = b from h, runW_stop (by omega)]; simp
  | cons x l ih =>
    intro a out k h hp hn hk
    obtain ⟨k, rfl⟩ : ∃ j, k = j + 1 := ⟨k - 1, by simp at hk; omega⟩
    have hx : x ∉ out := fun hx => by
      obtain ⟨_, _, h3⟩ := List.nodup_append.1 hn
      exact h3 x hx x (by simp) rfl
    rw [h.1, runW_go ⟨hp x (by simp), hx⟩, ih x (out ++ [x]) k h.2 (fun y hy => hp y (List.mem_cons_of_mem _ hy)) (by simpa using hn) (by simp at hk; omega)]
    simp
theorem list_np {ws : List Int} {l : List Int} (h : NP (atW ws) 0 l 0) (hp : ∀ x ∈ l, 0 < x) (hn : l.Nodup) (h4 : ∀ x ∈ l, x ≤ 4096) : listW ws = l := by
  have := nodup_bound 4096 l hn fun x hx => ⟨by have := hp x hx; omega, h4 x hx⟩
  exact (run_np (Int.le_refl 0) l 0 [] 4097 h hp (by simpa using hn) (by omega)).trans (by simp)
/-- the slots that are there -/
def onW (ws : List Int) : List Int := ((List.range ws.length).filter fun i => match ws[i]? with | some x => inW ws i x | none => false).map Int.ofNat
theorem cnt_on (ws : List Int) : cntTo ws ws.length = (onW ws).length := by
  unfold onW
  rw [List.length_map]
  suffices h : ∀ k, k ≤ ws.length → cntTo ws k = ((List.range k).filter fun i => match ws[i]? with | some x => inW ws i x | none => false).length from h _ (Nat.le_refl _)
  intro k
  induction k with
  | zero => intro _; rfl
  | succ k ih =>
    intro hk
    have hx : ws[k]? = some (ws[k]'(by omega)) := List.getElem?_eq_getElem (by omega)
    rw [cntTo_succ hx, ih (by omega), List.range_succ, List.filter_append, List.length_append]
    congr 1
    generalize ws[k]'(by omega) = x at hx
    rw [List.filter_cons, hx]
    simp only []
    by_cases h : inW ws k x = true
    · rw [if_pos h, if_pos h]; simp
    · rw [if_neg h, if_neg h]; simp
theorem okTo_all {ws : List Int} {m : Nat} (h : okTo ws m = true) {k : Nat} (hk : k < m) {x : Int} (hx : ws[k]? = some x) : okW ws k x = true := by
  induction m with
  | zero => omega
  | succ m ih =>
    unfold okTo at h
    rw [Bool.and_eq_true] at h
    rcases Nat.lt_or_ge k m with h1 | h1
    · exact ih h.1 h1
    · obtain rfl : k = m := by omega
      rw [hx] at h
      exact h.2
theorem okTo_of {ws : List Int} {m : Nat} (h : ∀ k x, k < m → ws[k]? = some x → okW ws k x = true) : okTo ws m = true := by
  induction m with
  | zero => rfl
  | succ m ih =>
    unfold okTo
    rw [ih fun k x hk hx => h k x (by omega) hx, Bool.true_and]
    rcases hx : ws[m]? with _ | x
    · rfl
    · exact h m x (by omega) hx
theorem len_le {l m : List Int} (hn : l.Nodup) (h : ∀ x ∈ l, x ∈ m) : l.length ≤ m.length := by
  induction l generalizing m with
  | nil => simp
  | cons x l ih =>
    obtain ⟨a, b⟩ := List.nodup_cons.1 hn
    have hx := h x (by simp)
    have := ih (m := m.erase x) b fun y hy => (List.mem_erase_of_ne (by rintro rfl; exact a hy)).2 (h y (List.mem_cons_of_mem _ hy))
    rw [List.length_erase_of_mem hx] at this
    have := List.length_pos_of_mem hx
    simp only [List.length_cons]
    omega
/-- a ring: the path closes, what is off the path points nowhere -/
structure Ring (ws l : List Int) : Prop where
  lk : Lk (atW ws) 0 l 0
  nd : l.Nodup
  pos : ∀ x ∈ l, 0 < x ∧ x < ws.length
  off : ∀ x, x ≠ 0 → x ∉ l → (atW ws x).1 < 0 ∧ (atW ws x).2 < 0
  word : ∀ x ∈ ws, (ringW x).2.2 = 0
  lo : 1 ≤ ws.length
  hi : ws.length ≤ 4097
theorem atW_in {ws : List Int} {k : Nat} {x : Int} (hx : ws[k]? = some x) (h0 : (ringW x).2.2 = 0) : atW ws k = ((ringW x).1, (ringW x).2.1) := by
  unfold atW
  rw [if_pos (by omega), show (k : Int).toNat = k by omega, hx]
  simp only []
  rw [if_pos h0]
theorem atW_out {ws : List Int} {s : Int} (h : s < 0 ∨ (ws.length : Int) ≤ s) : atW ws s = (-1, -1) := by
  unfold atW
  split
  · rw [List.getElem?_eq_none (by omega)]
  · rfl
theorem Ring.list {ws l : List Int} (h : Ring ws l) : listW ws = l := list_np h.lk.np (fun x hx => (h.pos x hx).1) h.nd fun x hx => by have := h.pos x hx; have := h.hi; omega
theorem Ring.on {ws l : List Int} (h : Ring ws l) (x : Int) : x ∈ onW ws ↔ x ∈ 0 :: l := by
  unfold onW
  rw [List.mem_map]
  constructor
  · rintro ⟨k, hk, rfl⟩
    rw [List.mem_filter, List.mem_range] at hk
    obtain ⟨hk, hi⟩ := hk
    have hx : ws[k]? = some (ws[k]'hk) := List.getElem?_eq_getElem hk
    rw [hx] at hi
    have e := atW_in hx (h.word _ (List.getElem_mem hk))
    rcases Nat.eq_zero_or_pos k with rfl | h0
    · simp
    · refine List.mem_cons_of_mem _ (Classical.byContradiction fun hn => ?_)
      have := (h.off (k : Int) (by omega) hn).1
      rw [e] at this
      simp only [inW] at hi
      rw [decide_eq_true h0, decide_eq_true this] at hi
      simp at hi
  · intro hx
    have hr : 0 ≤ x ∧ x < ws.length := by
      rcases List.mem_cons.1 hx with rfl | hx
      · have := h.lo; omega
      · have := h.pos x hx; omega
    obtain ⟨k, rfl⟩ : ∃ k : Nat, x = k := ⟨x.toNat, by omega⟩
    have hk : k < ws.length := by omega
    refine ⟨k, List.mem_filter.2 ⟨List.mem_range.2 hk, ?_⟩, rfl⟩
    have he : ws[k]? = some (ws[k]'hk) := List.getElem?_eq_getElem hk
    rw [he]
    have e := atW_in he (h.word _ (List.getElem_mem hk))
    have hn := (h.lk.next k hx).1
    rw [e] at hn
    have : ¬ (ringW (ws[k]'hk)).1 < 0 := by
      rcases List.mem_append.1 hn with hn | hn
      · have := h.pos _ hn; simp only at this; omega
      · have := List.mem_singleton.1 hn; simp only at this; omega
    simp only [inW]
    rw [decide_eq_false this]
    simp
theorem onW_nodup (ws : List Int) : (onW ws).Nodup := by
  unfold onW
  refine List.Pairwise.map _ (R := fun a b : Nat => a ≠ b) (fun a b h e => h (by have e : (a : Int) = b := e; omega)) ?_
  exact (List.nodup_range).sublist List.filter_sublist
theorem Ring.nd0 {ws l : List Int} (h : Ring ws l) : (0 :: l).Nodup := List.nodup_cons.2 ⟨fun h0 => by have := h.pos 0 h0; omega, h.nd⟩
theorem Ring.place {ws l : List Int} (h : Ring ws l) {x : Int} (hx : x ∈ 0 :: l) : placeW ws x = true := by
  unfold placeW
  rcases List.mem_cons.1 hx with rfl | hm
  · rfl
  · have h1 := (h.pos x hm).1
    have hn := (h.lk.next x hx).1
    have : 0 ≤ (atW ws x).1 := by
      rcases List.mem_append.1 hn with hn | hn
      · have := h.pos _ hn; omega
      · have := List.mem_singleton.1 hn; omega
    rw [decide_eq_true h1, decide_eq_true this]
    simp
theorem Ring.check {ws l : List Int} (h : Ring ws l) : checkW ws = 0 := by
  unfold checkW
  rw [if_neg (by have := h.lo; have := h.hi; omega)]
  have ho : okTo ws ws.length = true := okTo_of fun k x hk hx => by
    have hw := h.word x (List.mem_of_getElem? hx)
    have e := atW_in hx hw
    unfold okW
    rw [hw]
    by_cases hm : (k : Int) ∈ 0 :: l
    · have hn := (h.lk.next k hm)
      have hp := h.lk.prev k (by rcases List.mem_cons.1 hm with h | h <;> simp [h])
      rw [e] at hn hp
      simp only at hn hp
      have hn1 : (ringW x).1 ∈ 0 :: l := by rcases List.mem_append.1 hn.1 with h | h <;> simp_all
      have hi : inW ws k x = true := by
        have : ¬ (ringW x).1 < 0 := by
          rcases List.mem_cons.1 hn1 with h1 | h1
          · omega
          · have := h.pos _ h1; omega
        simp only [inW]
        rw [decide_eq_false this]
        simp
      rw [hi, if_pos rfl, h.place hn1, h.place hp, hn.2]
      simp
    · have hk0 : (k : Int) ≠ 0 := fun h => hm (by simp [h])
      have hoff := h.off k hk0 (fun h => hm (List.mem_cons_of_mem _ h))
      rw [e] at hoff
      have hi : inW ws k x = false := by
        simp only [inW]
        rw [decide_eq_true hoff.1, decide_eq_true (show 0 < k by omega)]
        rfl
      rw [hi, if_neg (by simp), decide_eq_true hoff.2]
      rfl
  rw [if_pos ho, h.list, cnt_on]
  have h1 := len_le h.nd0 fun x hx => (h.on x).2 hx
  have h2 := len_le (onW_nodup ws) fun x hx => (h.on x).1 hx
  simp only [List.length_cons] at h1 h2
  rw [if_pos (by omega)]
/-- a right ring is one -/
theorem ring_of {ws : List Int} (h : checkW ws = 0) : Ring ws (listW ws) := by
  unfold checkW at h
  split at h
  · cases h
  rename_i hlen
  split at h
  · rename_i hok
    split at h
    · rename_i hcnt
      have word : ∀ x ∈ ws, (ringW x).2.2 = 0 := fun x hx => by
        obtain ⟨k, hk, rfl⟩ := List.mem_iff_getElem.1 hx
        have := okTo_all hok hk (List.getElem?_eq_getElem hk)
        unfold okW at this
        rw [Bool.and_eq_true] at this
        simpa using this.1
      -- a slot that is there
      have on : ∀ x : Int, 0 ≤ x → x < ws.length → (x = 0 ∨ 0 ≤ (atW ws x).1) → placeW ws (atW ws x).1 = true ∧ placeW ws (atW ws x).2 = true ∧ (atW ws (atW ws x).1).2 = x := fun x h0 h1 hx => by
        obtain ⟨k, rfl⟩ : ∃ k : Nat, x = k := ⟨x.toNat, by omega⟩
        have hk : k < ws.length := by omega
        have he : ws[k]? = some (ws[k]'hk) := List.getElem?_eq_getElem hk
        have e := atW_in he (word _ (List.getElem_mem hk))
        have := okTo_all hok hk he
        unfold okW at this
        rw [Bool.and_eq_true] at this
        have hi : inW ws k (ws[k]'hk) = true := by
          rw [e] at hx
          simp only at hx
          simp only [inW]
          rcases hx with hx | hx
          · rw [decide_eq_false (show ¬ 0 < k by omega)]; rfl
          · rw [decide_eq_false (show ¬ (ringW (ws[k]'hk)).1 < 0 by omega)]; simp
        rw [hi, if_pos rfl, Bool.and_eq_true, Bool.and_eq_true] at this
        rw [e]
        exact ⟨this.2.1.1, this.2.1.2, by simpa using this.2.2⟩
      have offw : ∀ x : Int, ¬ (x = 0 ∨ 0 ≤ (atW ws x).1) → (atW ws x).1 < 0 ∧ (atW ws x).2 < 0 := fun x hx => by
        refine ⟨by omega, ?_⟩
        by_cases hr : 0 ≤ x ∧ x < ws.length
        · obtain ⟨k, rfl⟩ : ∃ k : Nat, x = k := ⟨x.toNat, by omega⟩
          have hk : k < ws.length := by omega
          have he : ws[k]? = some (ws[k]'hk) := List.getElem?_eq_getElem hk
          have e := atW_in he (word _ (List.getElem_mem hk))
          have := okTo_all hok hk he
          unfold okW at this
          rw [Bool.and_eq_true] at this
          have hi : inW ws k (ws[k]'hk) = false := by
            rw [e] at hx
            simp only at hx
            simp only [inW]
            rw [decide_eq_true (show 0 < k by omega), decide_eq_true (show (ringW (ws[k]'hk)).1 < 0 by omega)]
            rfl
          rw [hi, if_neg (by simp)] at this
          rw [e]
          simpa using this.2
        · rw [atW_out (by omega)]; decide
      have plin : ∀ x : Int, placeW ws x = true → 0 ≤ x ∧ x < ws.length ∧ (x = 0 ∨ 0 ≤ (atW ws x).1) := fun x hx => by
        unfold placeW at hx
        rw [Bool.or_eq_true] at hx
        rcases hx with hx | hx
        · have : x = 0 := by simpa using hx
          omega
        · rw [Bool.and_eq_true] at hx
          have h1 : 0 < x := by simpa using hx.1
          have h2 : 0 ≤ (atW ws x).1 := by simpa using hx.2
          refine ⟨by omega, ?_, .inr h2⟩
          rcases Int.lt_or_le x ws.length with h3 | h3
          · exact h3
          · rw [atW_out (.inr h3)] at h2; exact absurd h2 (by decide)
      -- the walk by Next
      have run : ∀ (k : Nat) (out : List Int) (a : Int), Lk (atW ws) 0 out a → out.Nodup → (∀ x ∈ out, placeW ws x = true ∧ 0 < x) → placeW ws a = true → out.length + k = 4097 →
          ∃ l, runW ws k out a = l ∧ Lk (atW ws) 0 l 0 ∧ l.Nodup ∧ ∀ x ∈ l, placeW ws x = true ∧ 0 < x := by
        intro k
        induction k with
        | zero =>
          intro out a _ hn hp _ hl
          have := nodup_bound 4096 out hn fun x hx => by have := hp x hx; have := plin x this.1; omega
          omega
        | succ k ih =>
          intro out a hlk hn hp ha hl
          have ha' := plin a ha
          by_cases hg : 0 < a ∧ a ∉ out
          · rw [runW_go hg]
            have ho := on a ha'.1 ha'.2.1 ha'.2.2
            refine ih (out ++ [a]) _ (lk_app.2 ⟨hlk, rfl, ho.2.2⟩) ?_ ?_ ho.1 (by simp; omega)
            · refine List.nodup_append.2 ⟨hn, by simp, fun x hx y hy e => hg.2 ?_⟩
              rw [List.mem_singleton.1 hy] at e
              exact e ▸ hx
            · intro x hx
              rcases List.mem_append.1 hx with hx | hx
              · exact hp x hx
              · rw [List.mem_singleton.1 hx]; exact ⟨ha, hg.1⟩
          · rw [runW_stop hg]
            have h0 : a = 0 := by
              refine Classical.byContradiction fun h0 => ?_
              have hm : a ∈ out := Classical.byContradiction fun hm => hg ⟨by omega, hm⟩
              obtain ⟨l1, l2, rfl⟩ := List.append_of_mem hm
              have e1 := hlk.last
              have e2 := (lk_app.1 hlk).1.last
              rw [e1, lastA_app] at e2
              have m1 := lastA_mem a l2
              have m2 := lastA_mem 0 l1
              rw [← e2] at m2
              obtain ⟨_, _, h3⟩ := List.nodup_append.1 hn
              rcases List.mem_cons.1 m2 with m2 | m2
              · have := (hp _ (List.mem_append_right _ m1)).2; omega
              · exact h3 _ m2 _ m1 rfl
            subst h0
            exact ⟨out, rfl, hlk, hn, hp⟩
      have h00 := on 0 (by omega) (by omega) (.inl rfl)
      obtain ⟨l, he, hlk, hnd, hp⟩ := run 4097 [] (atW ws 0).1 ⟨rfl, h00.2.2⟩ (by simp) (by simp) h00.1 (by simp)
      have he : listW ws = l := he
      rw [he] at hcnt ⊢
      refine ⟨hlk, hnd, fun x hx => ⟨(hp x hx).2, (plin x (hp x hx).1).2.1⟩, fun x h0 hx => ?_, word, by omega, by omega⟩
      refine Classical.byContradiction fun hc => ?_
      have hin : x = 0 ∨ 0 ≤ (atW ws x).1 := Classical.byContradiction fun h => hc (offw x h)
      have memon : ∀ y : Int, 0 ≤ y → y < ws.length → (y = 0 ∨ 0 ≤ (atW ws y).1) → y ∈ onW ws := fun y h0 h1 hy => by
        obtain ⟨k, rfl⟩ : ∃ k : Nat, y = k := ⟨y.toNat, by omega⟩
        have hk : k < ws.length := by omega
        have hek : ws[k]? = some (ws[k]'hk) := List.getElem?_eq_getElem hk
        have e := atW_in hek (word _ (List.getElem_mem hk))
        unfold onW
        refine List.mem_map.2 ⟨k, List.mem_filter.2 ⟨List.mem_range.2 hk, ?_⟩, rfl⟩
        rw [hek]
        rw [e] at hy
        simp only at hy
        simp only [inW]
        rcases hy with hy | hy
        · rw [decide_eq_false (show ¬ 0 < k by omega)]; rfl
        · rw [decide_eq_false (show ¬ (ringW (ws[k]'hk)).1 < 0 by omega)]; simp
      have hxr : 0 ≤ x ∧ x < ws.length := Classical.byContradiction fun h => by
        have := atW_out (ws := ws) (s := x) (by omega)
        rcases hin with h | h
        · exact h0 h
        · rw [this] at h; exact absurd h (by decide)
      have hle := len_le (l := x :: 0 :: l) (m := onW ws) (List.nodup_cons.2 ⟨by
        intro hm
        rcases List.mem_cons.1 hm with hm | hm
        · exact h0 hm
        · exact hx hm, List.nodup_cons.2 ⟨fun h => by have := (hp 0 h).2; omega, hnd⟩⟩) (fun y hy => by
          rcases List.mem_cons.1 hy with rfl | hy
          · exact memon _ hxr.1 hxr.2 hin
          · rcases List.mem_cons.1 hy with rfl | hy
            · exact memon 0 (by omega) (by omega) (.inl rfl)
            · have := plin y (hp y hy).1
              exact memon y this.1 this.2.1 this.2.2)
      rw [← cnt_on] at hle
      simp only [List.length_cons] at hle
      omega
    · cases h
  · cases h
end Go.Proofs.Ytoadcfjkommlkac
