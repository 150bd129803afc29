/-
  The law RecallAll, plainly: what a part has is never ahead of what all have; permille, missing, behind, score. No program in sight.
-/
import Derived.Test.YtgiplahhalgbdaaGreatMgL
import Derived.Test.YtgiplahhalgbdaaGreatMgd
namespace Go.Proofs.YtgiplahhalgbdaaGreat
open Go.RowKit

theorem cnt_sub {q : List Int} {mask : Int} {a b : List ItemP} (h : a.Sublist b) : (cntM q mask a).Sublist (cntM q mask b) := (h.filter _).map _
theorem hits_sub_le {q : List Int} {mask : Int} {a b : List ItemP} (h : a.Sublist b) : (hitsM q mask a).length ≤ (hitsM q mask b).length := by
  unfold hitsM; rw [srtH_len, srtH_len]; exact (cnt_sub h).length_le
theorem hits_order {q : List Int} {mask : Int} {a b : List ItemP} (h : a.Sublist b) {i : Nat} {x y : Hit} (hx : (hitsM q mask a)[i]? = some x) (hy : (hitsM q mask b)[i]? = some y) : hitLt x y = false := by
  cases e : hitLt x y with
  | false => rfl
  | true =>
    exfalso
    have hpa : (hitsM q mask a).Pairwise fun a b => hitLt b a = false := srt_pw swoH _
    have hpb : (hitsM q mask b).Pairwise fun a b => hitLt b a = false := srt_pw swoH _
    have hca : (hitsM q mask a).countP (fun z => hitLt z y) = (cntM q mask a).countP (fun z => hitLt z y) := List.Perm.countP_eq _ srt_perm
    have hcb : (hitsM q mask b).countP (fun z => hitLt z y) = (cntM q mask b).countP (fun z => hitLt z y) := List.Perm.countP_eq _ srt_perm
    have hle : (cntM q mask a).countP (fun z => hitLt z y) ≤ (cntM q mask b).countP (fun z => hitLt z y) := (cnt_sub h).countP_le
    generalize hitsM q mask a = P at *
    generalize hitsM q mask b = H at *
    obtain ⟨h1, h2⟩ := List.getElem?_eq_some_iff.1 hx
    obtain ⟨h3, h4⟩ := List.getElem?_eq_some_iff.1 hy
    have hb : H.countP (fun z => hitLt z y) ≤ i := by
      have hd : (H.drop i).countP (fun z => hitLt z y) = 0 := by
        rw [List.countP_eq_zero]
        intro z hz
        have hp := hpb
        rw [← List.take_append_drop i H, List.pairwise_append] at hp
        have hp2 := hp.2.1
        rw [List.drop_eq_getElem_cons h3, h4] at hz hp2
        rcases List.mem_cons.1 hz with rfl | hz
        · simp [swoH.irrefl]
        · have := (List.pairwise_cons.1 hp2).1 z hz
          simp [this]
      have ht : H.countP (fun z => hitLt z y) = (H.take i).countP (fun z => hitLt z y) + (H.drop i).countP (fun z => hitLt z y) := by
        rw [← List.countP_append, List.take_append_drop]
      have := List.countP_le_length (p := fun z => hitLt z y) (l := H.take i)
      rw [List.length_take] at this
      omega
    have ha : i + 1 ≤ P.countP (fun z => hitLt z y) := by
      have ht : P.countP (fun z => hitLt z y) = (P.take (i + 1)).countP (fun z => hitLt z y) + (P.drop (i + 1)).countP (fun z => hitLt z y) := by
        rw [← List.countP_append, List.take_append_drop]
      have hall : (P.take (i + 1)).countP (fun z => hitLt z y) = (P.take (i + 1)).length := by
        rw [List.countP_eq_length]
        intro z hz
        have hxz : hitLt x z = false := by
          rw [take_snoc hx, List.mem_append] at hz
          rcases hz with hz | hz
          · have hp := hpa
            rw [← List.take_append_drop i P, List.pairwise_append] at hp
            exact hp.2.2 z hz x (by rw [List.drop_eq_getElem_cons h1, h2]; exact List.mem_cons_self)
          · rw [List.mem_singleton] at hz; subst hz; exact swoH.irrefl z
        cases k : hitLt z y with
        | true => rfl
        | false =>
          have := swoH.ntrans x z y hxz k
          rw [e] at this; cases this
      rw [List.length_take] at hall
      omega
    omega
theorem per_iff {n o : Nat} (h : n ≤ o) (ho : o ≤ 1000) : (0 ≤ perF (hA n o) (hB o) ∧ perF (hA n o) (hB o) ≤ 1000) ∧ (perF (hA n o) (hB o) = 1000 ↔ n = o) := by
  have e1 : hB (o : Int) = o := by unfold hB; omega
  have e2 : hA (n : Int) o = n := by unfold hA hB; omega
  rw [e1, e2]
  unfold perF
  by_cases h0 : (o : Int) < 1
  · rw [if_pos h0]
    constructor
    · omega
    · constructor
      · intro _; omega
      · intro _; rfl
  · rw [if_neg h0, Int.tdiv_eq_ediv_of_nonneg (by omega)]
    have p0 : (0 : Int) < o := by omega
    have a1 : 0 ≤ (1000 * (n : Int)) / o := Int.ediv_nonneg (by omega) (by omega)
    have a2 : (1000 * (n : Int)) / o ≤ 1000 := Int.ediv_le_of_le_mul p0 (by omega)
    refine ⟨⟨a1, a2⟩, fun e => ?_, fun e => ?_⟩
    · rcases Nat.lt_or_ge n o with hlt | hge
      · have : (1000 * (n : Int)) / o < 1000 := Int.ediv_lt_of_lt_mul p0 (by omega)
        omega
      · omega
    · subst e
      exact Int.mul_ediv_cancel _ (by omega)
theorem miss_cnt (f t : List Hit) : cntR f t + (missR f t).length = t.length := by
  unfold cntR missR
  induction t with
  | nil => rfl
  | cons x t ih =>
    by_cases e : x ∈ f
    · rw [List.filter_cons_of_pos (by simpa using e), List.filter_cons_of_neg (by simpa using e)]; simp only [List.length_cons]; omega
    · rw [List.filter_cons_of_neg (by simpa using e), List.filter_cons_of_pos (by simpa using e)]; simp only [List.length_cons]; omega
theorem beh_zero {f t : List Hit} (h : ∀ (i : Nat) (x y : Hit), f[i]? = some x → t[i]? = some y → x.1 ≤ y.1) (n : Nat) (hn : n ≤ f.length) (hm : n ≤ t.length) : behK f t n = 0 := by
  induction n with
  | zero => rfl
  | succ n ih =>
    have hx : f[n]? = some f[n] := List.getElem?_eq_getElem (by omega)
    have hy : t[n]? = some t[n] := List.getElem?_eq_getElem (by omega)
    rw [behK_snoc hx hy, ih (by omega) (by omega)]
    have := h n _ _ hx hy
    omega
theorem score_one {n o : Nat} (h : n ≤ o) (ho : o ≤ 1000) : scoF [((n : Int), (o : Int))] = perF (hA n o) (hB o) := by
  have e1 : hB (o : Int) = o := by unfold hB; omega
  have e2 : hA (n : Int) o = n := by unfold hA hB; omega
  have ek : scoK [((n : Int), (o : Int))] 1 = scoS (0, 0) (n, o) := rfl
  unfold scoF
  rw [show [((n : Int), (o : Int))].length = 1 from rfl, ek]
  unfold scoS
  simp only [e1, e2]
  by_cases h0 : (o : Int) < 1
  · rw [if_pos h0]
    have : (o : Int) = 0 := by omega
    unfold perF
    rw [if_pos h0, if_pos (by unfold hB; omega)]
  · rw [if_neg h0]
    have m1 : min ((0 : Int) + n) 2147483647 = n := by omega
    have m2 : min ((0 : Int) + o) 2147483647 = o := by omega
    rw [m1, m2, e1, e2]
theorem fst_all {k : Int} {n : Nat} (h : n ≤ k.toNat) : fstN k n = n := by unfold fstN; omega
end Go.Proofs.YtgiplahhalgbdaaGreat
