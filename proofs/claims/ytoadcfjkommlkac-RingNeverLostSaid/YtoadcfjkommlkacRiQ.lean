/-
  A ring of words: what Joins and Cuts leave, step by step. No condition.
-/
import Derived.Test.YtoadcfjkommlkacRiP
namespace Go.Proofs.Ytoadcfjkommlkac
set_option linter.unusedSimpArgs false
set_option linter.unusedVariables false
open Go.RowKit

def R13 (n : Int) : Prop := -1 ≤ n ∧ n ≤ 4096
theorem putW_ok {n p : Int} (hn : R13 n) (hp : R13 p) : putW n p = ((n + 1) + (p + 1) * 8192, 0) := by
  unfold R13 at hn hp
  unfold putW
  rw [if_pos ⟨hn.1, hn.2, hp.1, hp.2⟩]
theorem ringW_put {n p : Int} (hn : R13 n) (hp : R13 p) : ringW ((n + 1) + (p + 1) * 8192) = (n, p, 0) := by
  unfold R13 at hn hp
  unfold ringW
  have e1 : ((n + 1) + (p + 1) * 8192) % 8192 = n + 1 := by omega
  have e2 : ((n + 1) + (p + 1) * 8192) / 8192 = p + 1 := by omega
  rw [e1, e2, if_pos ⟨by omega, by omega, by omega⟩]
  rw [show (p + 1) % 8192 = p + 1 by omega]
  simp only [Prod.mk.injEq]
  exact ⟨by omega, by omega, trivial⟩
theorem step_eq {ws : List Int} {a n p : Int} (h0 : 0 ≤ a) (h1 : a < ws.length) (hn : R13 n) (hp : R13 p) : doStep ws (opT (a, n, p)) = ws.set a.toNat ((n + 1) + (p + 1) * 8192) := by
  unfold doStep opT
  simp only []
  rw [putW_ok hn hp, if_pos ⟨by trivial, by trivial, h0, h1⟩]
theorem at_do {ws : List Int} {a n p : Int} (h0 : 0 ≤ a) (h1 : a < ws.length) (hn : R13 n) (hp : R13 p) (b : Int) : atW (doStep ws (opT (a, n, p))) b = if b = a then (n, p) else atW ws b := by
  rw [step_eq h0 h1 hn hp]
  by_cases e : b = a
  · subst e
    rw [if_pos rfl]
    unfold atW
    rw [if_pos h0, List.getElem?_set_self (by omega)]
    simp only []
    rw [ringW_put hn hp]
    rfl
  · rw [if_neg e]
    unfold atW
    by_cases hb : 0 ≤ b
    · rw [if_pos hb, if_pos hb, List.getElem?_set_ne (by omega)]
    · rw [if_neg hb, if_neg hb]
theorem word_do {ws : List Int} {a n p : Int} (h0 : 0 ≤ a) (h1 : a < ws.length) (hn : R13 n) (hp : R13 p) (h : ∀ x ∈ ws, (ringW x).2.2 = 0) : ∀ x ∈ doStep ws (opT (a, n, p)), (ringW x).2.2 = 0 := by
  rw [step_eq h0 h1 hn hp]
  intro x hx
  rcases List.mem_or_eq_of_mem_set hx with hx | rfl
  · exact h x hx
  · rw [ringW_put hn hp]
theorem at13 (ws : List Int) (s : Int) : R13 (atW ws s).1 ∧ R13 (atW ws s).2 := by
  obtain ⟨a, b, c, d⟩ := atW_range ws s
  exact ⟨⟨a, b⟩, ⟨c, d⟩⟩
theorem lock_mem {ws : List Int} {s x : Int} (h1 : 1 ≤ s) (h2 : s < ws.length) : x ∈ lockW ws s ↔ 0 ≤ x ∧ (x = 0 ∨ x = s ∨ x = (nearW ws s).1 ∨ x = (nearW ws s).2) := by
  unfold lockW
  rw [if_neg (by omega), ddI_mem, (srtI_perm _).mem_iff]
  unfold nnF
  simp only [List.mem_filter, List.mem_cons, List.not_mem_nil, or_false, decide_eq_true_eq]
  exact ⟨fun h => ⟨h.2, h.1⟩, fun h => ⟨h.2, h.1⟩⟩
/-- no step loses a slot; the end is right -/
structure Lost (ws : List Int) (s : Int) (ops : List Opr) (rest fin : List Int) : Prop where
  each : ∀ k, k < ops.length → (listW (doW ws ((ops.map opT).take (k + 1)))).filter (fun x => decide (x ≠ s)) = rest
  list : listW (doW ws (ops.map opT)) = fin
  check : checkW (doW ws (ops.map opT)) = 0
  held : ∀ o ∈ ops, o.1 ∈ lockW ws s
theorem filter_out {l : List Int} {s : Int} (h : s ∉ l) : l.filter (fun x => decide (x ≠ s)) = l :=
  List.filter_eq_self.2 fun x hx => by
    have : x ≠ s := fun e => h (e ▸ hx)
    simpa using this
theorem Ring.hi4 {ws l : List Int} (h : Ring ws l) : ∀ x ∈ l, x ≤ 4096 := fun x hx => by have := h.pos x hx; have := h.hi; omega
set_option maxHeartbeats 1000000 in
theorem Ring.join {ws l : List Int} {s : Int} (h : Ring ws l) (h1 : 1 ≤ s) (h2 : s < ws.length) (hs : s ∉ l) : Lost ws s (joinW ws s) l (s :: l) := by
  have hs0 : s ≠ 0 := by omega
  have hoff := h.off s hs0 hs
  have hsr : R13 s := by unfold R13; have := h.hi; omega
  have r0 : R13 0 := by unfold R13; omega
  have hnear : nearW ws s = ((atW ws 0).1, -1) := by unfold nearW; rw [if_pos hoff.1]
  have p0 : ∀ x ∈ s :: l, 0 < x := fun x hx => by
    rcases List.mem_cons.1 hx with rfl | hx
    · omega
    · exact (h.pos x hx).1
  have hnd : (s :: l).Nodup := List.nodup_cons.2 ⟨hs, h.nd⟩
  rcases l with _ | ⟨x, l⟩
  · have e0 : (atW ws 0).1 = 0 := h.lk.1
    have ej : joinW ws s = [(s, 0, 0), (0, s, s)] := by unfold joinW; rw [if_neg (by omega), if_pos e0]
    rw [ej]
    have a1 := fun b => at_do (ws := ws) (by omega) h2 r0 r0 (a := s) b
    have w1 := word_do (ws := ws) (by omega) h2 r0 r0 (a := s) h.word
    have l1 := doStep_len ws (opT (s, 0, 0))
    have a2 := fun b => at_do (ws := doStep ws (opT (s, 0, 0))) (a := 0) (by omega) (by rw [l1]; omega) hsr hsr b
    have w2 := word_do (ws := doStep ws (opT (s, 0, 0))) (a := 0) (by omega) (by rw [l1]; omega) hsr hsr w1
    have l2 := doStep_len (doStep ws (opT (s, 0, 0))) (opT (0, s, s))
    have hr : Ring (doStep (doStep ws (opT (s, 0, 0))) (opT (0, s, s))) [s] := by
      refine ⟨⟨?_, ?_, ?_, ?_⟩, by simp, ?_, ?_, w2, by rw [l2, l1]; exact h.lo, by rw [l2, l1]; exact h.hi⟩
      · rw [a2, if_pos rfl]
      · rw [a2, if_neg hs0, a1, if_pos rfl]
      · rw [a2, if_neg hs0, a1, if_pos rfl]
      · rw [a2, if_pos rfl]
      · intro y hy; rw [List.mem_singleton.1 hy, l2, l1]; omega
      · intro y h0 hy
        have hy : y ≠ s := by simpa using hy
        rw [a2, if_neg h0, a1, if_neg hy]
        exact h.off y h0 (by simp)
    refine ⟨fun k hk => ?_, hr.list, hr.check, fun o ho => ?_⟩
    · have hk : k = 0 ∨ k = 1 := by simp at hk; omega
      rcases hk with rfl | rfl
      · have : listW (doStep ws (opT (s, 0, 0))) = [] := list_np (l := []) (by show (atW _ 0).1 = 0; rw [a1, if_neg (by omega)]; exact e0) (by simp) (by simp) (by simp)
        show (listW (doStep ws (opT (s, 0, 0)))).filter _ = []
        rw [this]
        rfl
      · show (listW (doStep (doStep ws (opT (s, 0, 0))) (opT (0, s, s)))).filter _ = []
        rw [hr.list]
        simp
    · rw [lock_mem h1 h2]
      simp only [List.mem_cons, List.not_mem_nil, or_false] at ho
      rcases ho with rfl | rfl <;> refine ⟨by dsimp only; omega, by simp⟩
  · have e0 : (atW ws 0).1 = x := h.lk.1
    obtain ⟨hx0, hxn⟩ := h.pos x (by simp)
    have hxs : x ≠ s := fun e => hs (by simp [e])
    have hxr : R13 x := by unfold R13; have := h.hi; omega
    have ej : joinW ws s = [(s, x, 0), (x, (atW ws x).1, s), (0, s, (atW ws 0).2)] := by unfold joinW; rw [if_neg (by omega), if_neg (by omega), e0]
    rw [ej]
    have a1 := fun b => at_do (ws := ws) (by omega) h2 hxr r0 (a := s) b
    have w1 := word_do (ws := ws) (by omega) h2 hxr r0 (a := s) h.word
    have l1 := doStep_len ws (opT (s, x, 0))
    generalize hW1 : doStep ws (opT (s, x, 0)) = W1 at *
    have a2 := fun b => at_do (ws := W1) (a := x) (by omega) (by rw [l1]; omega) (at13 ws x).1 hsr b
    have w2 := word_do (ws := W1) (a := x) (by omega) (by rw [l1]; omega) (at13 ws x).1 hsr w1
    have l2 := doStep_len W1 (opT (x, (atW ws x).1, s))
    generalize hW2 : doStep W1 (opT (x, (atW ws x).1, s)) = W2 at *
    have a3 := fun b => at_do (ws := W2) (a := 0) (by omega) (by rw [l2, l1]; omega) hsr (at13 ws 0).2 b
    have w3 := word_do (ws := W2) (a := 0) (by omega) (by rw [l2, l1]; omega) hsr (at13 ws 0).2 w2
    have l3 := doStep_len W2 (opT (0, s, (atW ws 0).2))
    generalize hW3 : doStep W2 (opT (0, s, (atW ws 0).2)) = W3 at *
    have xs : ∀ y ∈ 0 :: x :: l, y ≠ s := fun y hy e => by
      subst e
      rcases List.mem_cons.1 hy with h | h
      · omega
      · exact hs h
    have n1 : ∀ y ∈ 0 :: x :: l, (atW W1 y).1 = (atW ws y).1 := fun y hy => by rw [a1, if_neg (xs y hy)]
    have n2 : ∀ y ∈ 0 :: x :: l, (atW W2 y).1 = (atW ws y).1 := fun y hy => by
      rw [a2]
      split
      · next e => rw [e]
      · exact n1 y hy
    have hxl := (List.nodup_cons.1 h.nd).1
    have hr : Ring W3 (s :: x :: l) := by
      refine ⟨⟨?_, ?_, ?_, ?_, h.lk.2.2.congr (fun y hy => ?_) fun y hy => ?_⟩, hnd, ?_, ?_, w3, by rw [l3, l2, l1]; exact h.lo, by rw [l3, l2, l1]; exact h.hi⟩
      · rw [a3, if_pos rfl]
      · rw [a3, if_neg hs0, a2, if_neg (Ne.symm hxs), a1, if_pos rfl]
      · rw [a3, if_neg hs0, a2, if_neg (Ne.symm hxs), a1, if_pos rfl]
      · rw [a3, if_neg (by omega), a2, if_pos rfl]
      · have hy0 : y ≠ 0 := fun e => by have := (h.pos y hy).1; omega
        rw [a3, if_neg hy0]
        exact n2 y (List.mem_cons_of_mem _ hy)
      · rcases List.mem_append.1 hy with hy | hy
        · have hy0 : y ≠ 0 := fun e => by have := (h.pos y (List.mem_cons_of_mem _ hy)).1; omega
          have hyx : y ≠ x := fun e => hxl (e ▸ hy)
          have hys : y ≠ s := fun e => hs (List.mem_cons_of_mem _ (e ▸ hy))
          rw [a3, if_neg hy0, a2, if_neg hyx, a1, if_neg hys]
        · rw [List.mem_singleton.1 hy, a3, if_pos rfl]
      · intro y hy
        rw [l3, l2, l1]
        rcases List.mem_cons.1 hy with rfl | hy
        · omega
        · exact h.pos y hy
      · intro y h0 hy
        have hys : y ≠ s := fun e => hy (by simp [e])
        have hyx : y ≠ x := fun e => hy (by simp [e])
        rw [a3, if_neg h0, a2, if_neg hyx, a1, if_neg hys]
        exact h.off y h0 fun hm => hy (List.mem_cons_of_mem _ hm)
    have hd : doW ws ([(s, x, 0), (x, (atW ws x).1, s), (0, s, (atW ws 0).2)].map opT) = W3 := by
      show doStep (doStep (doStep ws _) _) _ = W3
      rw [hW1, hW2, hW3]
    refine ⟨fun k hk => ?_, by rw [hd]; exact hr.list, by rw [hd]; exact hr.check, fun o ho => ?_⟩
    · have hk : k = 0 ∨ k = 1 ∨ k = 2 := by simp at hk; omega
      rcases hk with rfl | rfl | rfl
      · show (listW (doStep ws _)).filter _ = _
        rw [hW1, list_np (h.lk.np.congr n1) (fun x hx => (h.pos x hx).1) h.nd h.hi4]
        exact filter_out hs
      · show (listW (doStep (doStep ws _) _)).filter _ = _
        rw [hW1, hW2, list_np (h.lk.np.congr n2) (fun x hx => (h.pos x hx).1) h.nd h.hi4]
        exact filter_out hs
      · show (listW (doStep (doStep (doStep ws _) _) _)).filter _ = _
        rw [hW1, hW2, hW3, hr.list, List.filter_cons, if_neg (by simp)]
        exact filter_out hs
    · rw [lock_mem h1 h2, hnear, e0]
      simp only [List.mem_cons, List.not_mem_nil, or_false] at ho
      rcases ho with rfl | rfl | rfl <;> refine ⟨by dsimp only; omega, by simp⟩
set_option maxHeartbeats 1000000 in
theorem Ring.cut {ws l1 l2 : List Int} {s : Int} (h : Ring ws (l1 ++ s :: l2)) : Lost ws s (cutW ws s) (l1 ++ l2) (l1 ++ l2) := by
  obtain ⟨h1, h2⟩ := h.pos s (by simp)
  have hs0 : s ≠ 0 := by omega
  have hnd0 := h.nd0
  have hndl := h.nd
  have hs : s ∉ l1 ++ l2 := fun hm => by
    have := (List.perm_middle.nodup_iff.1 hndl)
    exact (List.nodup_cons.1 this).1 hm
  have hnd : (l1 ++ l2).Nodup := (List.nodup_cons.1 (List.perm_middle.nodup_iff.1 hndl)).2
  have hpos : ∀ x ∈ l1 ++ l2, 0 < x ∧ x < ws.length := fun x hx => h.pos x (by rcases List.mem_append.1 hx with h | h <;> simp [h])
  have hz : (0 : Int) ∉ l1 ++ l2 := fun hm => by have := (hpos 0 hm).1; omega
  have hndz : (0 :: (l1 ++ l2)).Nodup := List.nodup_cons.2 ⟨hz, hnd⟩
  have hndb : (l1 ++ l2 ++ [0]).Nodup := List.nodup_append.2 ⟨hnd, by simp, fun x hx y hy e => by
    rw [List.mem_singleton.1 hy] at e
    exact hz (e ▸ hx)⟩
  obtain ⟨k1, k2⟩ := lk_app.1 h.lk
  have ep : (atW ws s).2 = lastA 0 l1 := k1.last
  have eq : (atW ws s).1 = headA l2 0 := k2.head
  have mp : lastA 0 l1 ∈ 0 :: l1 := lastA_mem 0 l1
  have mq : headA l2 0 ∈ l2 ++ [0] := headA_mem l2 0
  have bp : 0 ≤ lastA 0 l1 ∧ lastA 0 l1 < ws.length := by
    rcases List.mem_cons.1 mp with e | e
    · have := h.lo; omega
    · have := hpos _ (List.mem_append_left _ e); omega
  have bq : 0 ≤ headA l2 0 ∧ headA l2 0 < ws.length := by
    rcases List.mem_append.1 mq with e | e
    · have := hpos _ (List.mem_append_right _ e); omega
    · have := List.mem_singleton.1 e; have := h.lo; omega
  have sp : lastA 0 l1 ≠ s := fun e => by
    rw [e] at mp
    rcases List.mem_cons.1 mp with e | e
    · exact hs0 e
    · exact hs (List.mem_append_left _ e)
  have sq : headA l2 0 ≠ s := fun e => by
    rw [e] at mq
    rcases List.mem_append.1 mq with e | e
    · exact hs (List.mem_append_right _ e)
    · exact hs0 (List.mem_singleton.1 e)
  have hhi := h.hi
  have hlo := h.lo
  have rp : R13 (lastA 0 l1) := by unfold R13; omega
  have rq : R13 (headA l2 0) := by unfold R13; omega
  have rm : R13 (-1) := by unfold R13; omega
  have hnear : nearW ws s = (headA l2 0, lastA 0 l1) := by
    unfold nearW
    rw [if_neg (by omega)]
    exact Prod.ext eq ep
  have h4 : ∀ x ∈ l1 ++ l2, x ≤ 4096 := fun x hx => by have := hpos x hx; omega
  by_cases hpq : headA l2 0 = lastA 0 l1
  · have hp0 : l1 = [] ∧ l2 = [] := by
      rcases l1 with _ | ⟨x, l1⟩
      · refine ⟨rfl, ?_⟩
        rcases l2 with _ | ⟨y, l2⟩
        · rfl
        · have e : y = 0 := hpq
          have := (hpos y (by simp)).1
          omega
      · exfalso
        have m : lastA 0 (x :: l1) ∈ x :: l1 := lastA_mem x l1
        have m2 := (hpos _ (List.mem_append_left _ m)).1
        rw [hpq] at mq
        rcases List.mem_append.1 mq with e | e
        · obtain ⟨_, _, h3⟩ := List.nodup_append.1 hnd
          exact h3 _ m _ e rfl
        · have := List.mem_singleton.1 e; omega
    obtain ⟨rfl, rfl⟩ := hp0
    have ep : (atW ws s).2 = 0 := ep
    have eq : (atW ws s).1 = 0 := eq
    have r0 : R13 0 := by unfold R13; omega
    have ej : cutW ws s = [(0, 0, 0), (s, -1, -1)] := by unfold cutW; rw [ep, eq]; rw [if_neg (by omega), if_pos rfl]
    rw [ej]
    have a1 := fun b => at_do (ws := ws) (a := 0) (by omega) (by omega) r0 r0 b
    have w1 := word_do (ws := ws) (a := 0) (by omega) (by omega) r0 r0 h.word
    have l1 := doStep_len ws (opT (0, 0, 0))
    generalize hW1 : doStep ws (opT (0, 0, 0)) = W1 at *
    have a2 := fun b => at_do (ws := W1) (a := s) (by omega) (by rw [l1]; omega) rm rm b
    have w2 := word_do (ws := W1) (a := s) (by omega) (by rw [l1]; omega) rm rm w1
    have l2 := doStep_len W1 (opT (s, -1, -1))
    generalize hW2 : doStep W1 (opT (s, -1, -1)) = W2 at *
    have hr : Ring W2 [] := by
      refine ⟨⟨?_, ?_⟩, by simp, by simp, ?_, w2, by rw [l2, l1]; exact hlo, by rw [l2, l1]; exact hhi⟩
      · rw [a2, if_neg (Ne.symm hs0), a1, if_pos rfl]
      · rw [a2, if_neg (Ne.symm hs0), a1, if_pos rfl]
      · intro y h0 _
        rw [a2]
        split
        · decide
        · next e =>
          rw [a1, if_neg h0]
          exact h.off y h0 (by simpa using e)
    have hd : doW ws ([(0, 0, 0), (s, -1, -1)].map opT) = W2 := by
      show doStep (doStep ws _) _ = W2
      rw [hW1, hW2]
    refine ⟨fun k hk => ?_, by rw [hd]; exact hr.list, by rw [hd]; exact hr.check, fun o ho => ?_⟩
    · have hk : k = 0 ∨ k = 1 := by simp at hk; omega
      rcases hk with rfl | rfl
      · show (listW (doStep ws _)).filter _ = []
        rw [hW1, list_np (l := []) (by show (atW _ 0).1 = 0; rw [a1, if_pos rfl]) (by simp) (by simp) (by simp)]
        rfl
      · show (listW (doStep (doStep ws _) _)).filter _ = []
        rw [hW1, hW2, hr.list]
        rfl
    · rw [lock_mem h1 h2]
      simp only [List.mem_cons, List.not_mem_nil, or_false] at ho
      rcases ho with rfl | rfl <;> refine ⟨by dsimp only; omega, by simp⟩
  · have ej : cutW ws s = [(lastA 0 l1, headA l2 0, (atW ws (lastA 0 l1)).2), (headA l2 0, (atW ws (headA l2 0)).1, lastA 0 l1), (s, -1, -1)] := by
      unfold cutW
      rw [ep, eq]
      rw [if_neg (by omega), if_neg hpq]
    rw [ej]
    generalize hP : lastA 0 l1 = P at *
    generalize hQ : headA l2 0 = Q at *
    have a1 := fun b => at_do (ws := ws) (a := P) (by omega) (by omega) rq (at13 ws P).2 b
    have w1 := word_do (ws := ws) (a := P) (by omega) (by omega) rq (at13 ws P).2 h.word
    have e1 := doStep_len ws (opT (P, Q, (atW ws P).2))
    generalize hW1 : doStep ws (opT (P, Q, (atW ws P).2)) = W1 at *
    have a2 := fun b => at_do (ws := W1) (a := Q) (by omega) (by rw [e1]; omega) (at13 ws Q).1 rp b
    have w2 := word_do (ws := W1) (a := Q) (by omega) (by rw [e1]; omega) (at13 ws Q).1 rp w1
    have e2 := doStep_len W1 (opT (Q, (atW ws Q).1, P))
    generalize hW2 : doStep W1 (opT (Q, (atW ws Q).1, P)) = W2 at *
    have a3 := fun b => at_do (ws := W2) (a := s) (by omega) (by rw [e2, e1]; omega) rm rm b
    have w3 := word_do (ws := W2) (a := s) (by omega) (by rw [e2, e1]; omega) rm rm w2
    have e3 := doStep_len W2 (opT (s, -1, -1))
    generalize hW3 : doStep W2 (opT (s, -1, -1)) = W3 at *
    have xs : ∀ y ∈ 0 :: (l1 ++ l2), y ≠ s := fun y hy e => by
      rcases List.mem_cons.1 hy with h | h
      · omega
      · exact hs (e ▸ h)
    have g1 : ∀ y, y ≠ P → (atW W1 y).1 = (atW ws y).1 := fun y hy => by rw [a1, if_neg hy]
    have g2 : ∀ y, y ≠ P → (atW W2 y).1 = (atW ws y).1 := fun y hy => by
      rw [a2]
      split
      · next e => rw [e]
      · exact g1 y hy
    have P1 : (atW W1 P).1 = Q := by rw [a1, if_pos rfl]
    have P2 : (atW W2 P).1 = Q := by rw [a2, if_neg (Ne.symm hpq)]; exact P1
    have n1 : NP (atW W1) 0 (l1 ++ l2) 0 := h.lk.np.cut hndz (fun y _ hy => g1 y (by rw [← hP]; exact hy)) (by rw [hP, hQ]; exact P1)
    have n2 : NP (atW W2) 0 (l1 ++ l2) 0 := h.lk.np.cut hndz (fun y _ hy => g2 y (by rw [← hP]; exact hy)) (by rw [hP, hQ]; exact P2)
    have hr : Ring W3 (l1 ++ l2) := by
      refine ⟨h.lk.cut hndz hndb (fun y hm hy => ?_) ?_ (fun y hm hy => ?_) ?_, hnd, ?_, ?_, w3, by rw [e3, e2, e1]; exact hlo, by rw [e3, e2, e1]; exact hhi⟩
      · rw [a3, if_neg (xs y hm)]
        exact g2 y (by rw [← hP]; exact hy)
      · rw [hP, hQ, a3, if_neg sp]
        exact P2
      · have hys : y ≠ s := xs y (by rcases List.mem_append.1 hm with h | h <;> simp_all)
        rw [hQ] at hy
        rw [a3, if_neg hys, a2, if_neg hy, a1]
        split
        · next e => rw [e]
        · rfl
      · rw [hP, hQ, a3, if_neg sq, a2, if_pos rfl]
      · intro y hy
        rw [e3, e2, e1]
        exact hpos y hy
      · intro y h0 hy
        have hyP : y ≠ P := fun e => by
          subst e
          rcases List.mem_cons.1 mp with e | e
          · exact h0 e
          · exact hy (List.mem_append_left _ e)
        have hyQ : y ≠ Q := fun e => by
          subst e
          rcases List.mem_append.1 mq with e | e
          · exact hy (List.mem_append_right _ e)
          · exact h0 (List.mem_singleton.1 e)
        rw [a3]
        split
        · decide
        · next e =>
          rw [a2, if_neg hyQ, a1, if_neg hyP]
          refine h.off y h0 fun hm => ?_
          rcases List.mem_append.1 hm with hm | hm
          · exact hy (List.mem_append_left _ hm)
          · rcases List.mem_cons.1 hm with hm | hm
            · exact e hm
            · exact hy (List.mem_append_right _ hm)
    have hd : doW ws ([(P, Q, (atW ws P).2), (Q, (atW ws Q).1, P), (s, -1, -1)].map opT) = W3 := by
      show doStep (doStep (doStep ws _) _) _ = W3
      rw [hW1, hW2, hW3]
    refine ⟨fun k hk => ?_, by rw [hd]; exact hr.list, by rw [hd]; exact hr.check, fun o ho => ?_⟩
    · have hk : k = 0 ∨ k = 1 ∨ k = 2 := by simp at hk; omega
      rcases hk with rfl | rfl | rfl
      · show (listW (doStep ws _)).filter _ = _
        rw [hW1, list_np n1 (fun x hx => (hpos x hx).1) hnd h4]
        exact filter_out hs
      · show (listW (doStep (doStep ws _) _)).filter _ = _
        rw [hW1, hW2, list_np n2 (fun x hx => (hpos x hx).1) hnd h4]
        exact filter_out hs
      · show (listW (doStep (doStep (doStep ws _) _) _)).filter _ = _
        rw [hW1, hW2, hW3, hr.list]
        exact filter_out hs
    · rw [lock_mem h1 h2, hnear]
      simp only [List.mem_cons, List.not_mem_nil, or_false] at ho
      rcases ho with rfl | rfl | rfl <;> refine ⟨by dsimp only; omega, by simp⟩
end Go.Proofs.Ytoadcfjkommlkac
