/-
  Arenas as plain lists: every call keeps what fits. No condition beside those named.
-/
import Derived.Test.YtoodcfldnojkjabArnM
namespace Go.Proofs.Ytoodcfldnojkjab
open Go.RowKit

theorem downTo_mem {n m : Nat} (hm : m ≤ n) {k : Int} (h : k ∈ downTo n m) : ∃ i, i < m ∧ k = ((n - i : Nat) : Int) := by
  unfold downTo at h
  rw [List.mem_map] at h
  obtain ⟨i, hi, rfl⟩ := h
  exact ⟨i, by simpa using hi, rfl⟩
theorem downTo_nodup (n m : Nat) (hm : m ≤ n) : (downTo n m).Nodup := by
  induction m with
  | zero => simp [downTo]
  | succ m ih =>
    rw [downTo_succ, List.nodup_append]
    refine ⟨ih (by omega), by simp, fun a ha b hb => ?_⟩
    obtain ⟨i, hi, rfl⟩ := downTo_mem (by omega) ha
    simp at hb
    omega
theorem init_ok {n : Nat} (h1 : 1 ≤ n) (h4 : n ≤ 4096) : (Arn.init n).Ok n 0 := by
  refine ⟨by simp [Arn.init], by simp [Arn.init], h1, h4, fun i x h => ?_, fun i x h => ?_, fun k hk => ?_, downTo_nodup n n (Nat.le_refl _), ?_⟩
  · simp [Arn.init, List.getElem?_replicate] at h; omega
  · simp [Arn.init, List.getElem?_replicate] at h; omega
  · obtain ⟨i, hi, rfl⟩ := downTo_mem (Nat.le_refl _) hk
    refine ⟨by omega, by omega, ?_⟩
    simp [Arn.init, List.getElem?_replicate]
    omega
  · show cnt (List.replicate (n + 1) 0) 0 = (downTo n n).length
    rw [cnt_rep, downTo_len]; simp
theorem set_st {S : List Int} {i : Nat} {v : Int} (h : ∀ (i : Nat) (x : Int), S[i]? = some x → 0 ≤ x ∧ x ≤ 4) (hv : 0 ≤ v ∧ v ≤ 4) : ∀ (j : Nat) (x : Int), (S.set i v)[j]? = some x → 0 ≤ x ∧ x ≤ 4 := by
  intro j x hx
  rw [List.getElem?_set] at hx
  split at hx
  · split at hx
    · injection hx with hx; subst hx; exact hv
    · cases hx
  · exact h j x hx
theorem alloc_ok {s : Arn} {n m : Nat} (ok : s.Ok n m) {K' : List Int} {k : Nat} (hK : s.K = K' ++ [(k : Int)]) : (s.alloc k).Ok n m := by
  obtain ⟨k1, k2, k3⟩ := ok.fr k (by rw [hK]; simp)
  rw [Int.toNat_natCast] at k3
  have hd : s.K.dropLast = K' := by rw [hK]; simp
  have hnd := ok.nd
  rw [hK, List.nodup_append] at hnd
  refine ⟨by rw [show (s.alloc k).S = s.S.set k 1 from rfl, List.length_set]; exact ok.hS, ok.hG, ok.n1, ok.n4, set_st ok.st (by omega), ok.gn, fun j hj => ?_, ?_, ?_⟩
  · have hj' : j ∈ K' := by rw [← hd]; exact hj
    obtain ⟨j1, j2, j3⟩ := ok.fr j (by rw [hK]; exact List.mem_append_left _ hj')
    refine ⟨j1, j2, ?_⟩
    have hne : j ≠ (k : Int) := hnd.2.2 j hj' k (by simp)
    show (s.S.set k 1)[j.toNat]? = _
    rw [List.getElem?_set_ne (by omega)]; exact j3
  · show s.K.dropLast.Nodup; rw [hd]; exact hnd.1
  · have h := cnt_set (by omega) k3 1 0
    have hc := ok.ct
    have hl : s.K.length = K'.length + 1 := by rw [hK]; simp
    show cnt (s.S.set k 1) 0 = s.K.dropLast.length
    rw [hd]
    simp at h
    omega
theorem move_ok {s : Arn} {n m : Nat} (ok : s.Ok n m) {k x : Nat} (h1 : 1 ≤ k) (hx : s.S[k]? = some (x : Int)) (x1 : 1 ≤ x) (x3 : x ≤ 3) : (s.set k ((x + 1 : Nat) : Int)).Ok n m := by
  refine ⟨by rw [show (s.set k ((x + 1 : Nat) : Int)).S = s.S.set k ((x + 1 : Nat) : Int) from rfl, List.length_set]; exact ok.hS, ok.hG, ok.n1, ok.n4, set_st ok.st (by omega), ok.gn, fun j hj => ?_, ok.nd, ?_⟩
  · obtain ⟨j1, j2, j3⟩ := ok.fr j hj
    refine ⟨j1, j2, ?_⟩
    have hne : k ≠ j.toNat := by rintro rfl; rw [hx] at j3; injection j3 with j3; omega
    show (s.S.set k _)[j.toNat]? = _
    rw [List.getElem?_set_ne hne]; exact j3
  · have h := cnt_set h1 hx ((x + 1 : Nat) : Int) 0
    rw [if_neg (by omega), if_neg (by omega)] at h
    show cnt (s.S.set k _) 0 = s.K.length
    have := ok.ct
    omega
theorem free_ok {s : Arn} {n m : Nat} (ok : s.Ok n m) {k x : Nat} (h1 : 1 ≤ k) (hx : s.S[k]? = some (x : Int)) (hx14 : x = 1 ∨ x = 4) {g : Int} (hg : s.G[k]? = some g) : (s.free k g).Ok n (m + 1) := by
  have hk := (List.getElem?_eq_some_iff.1 hx).1
  have hS := ok.hS
  have hnot : (k : Int) ∉ s.K := fun h => by
    obtain ⟨_, _, e⟩ := ok.fr k h
    rw [Int.toNat_natCast, hx] at e; injection e with e; omega
  refine ⟨by rw [show (s.free k g).S = s.S.set k 0 from rfl, List.length_set]; exact ok.hS, by rw [show (s.free k g).G = s.G.set k (g + 1) from rfl, List.length_set]; exact ok.hG, ok.n1, ok.n4, set_st ok.st (by omega), fun i y hy => ?_, fun j hj => ?_, ?_, ?_⟩
  · have hy' : (s.G.set k (g + 1))[i]? = some y := hy
    obtain ⟨g0, gm⟩ := ok.gn k g hg
    rw [List.getElem?_set] at hy'
    split at hy'
    · split at hy'
      · injection hy' with hy'; omega
      · cases hy'
    · have := ok.gn i y hy'; omega
  · have hj' : j ∈ s.K ++ [(k : Int)] := hj
    rw [List.mem_append] at hj'
    show 1 ≤ j ∧ j ≤ n ∧ (s.S.set k 0)[j.toNat]? = some 0
    rcases hj' with hj' | hj'
    · obtain ⟨j1, j2, j3⟩ := ok.fr j hj'
      have hne : k ≠ j.toNat := by rintro rfl; exact hnot (by rw [Int.toNat_of_nonneg (by omega)]; exact hj')
      exact ⟨j1, j2, by rw [List.getElem?_set_ne hne]; exact j3⟩
    · simp at hj'; subst hj'
      exact ⟨by omega, by omega, by rw [Int.toNat_natCast]; simp [hk]⟩
  · show (s.K ++ [(k : Int)]).Nodup
    rw [List.nodup_append]
    exact ⟨ok.nd, by simp, fun a ha b hb => by simp at hb; subst hb; rintro rfl; exact hnot ha⟩
  · have h := cnt_set h1 hx 0 0
    rw [if_neg (by omega)] at h
    have := ok.ct
    show cnt (s.S.set k 0) 0 = (s.K ++ [(k : Int)]).length
    simp at h ⊢
    omega
/-- what is counted of a state that there is none of -/
theorem cnt_out {s : Arn} {n m : Nat} (ok : s.Ok n m) {v : Int} (h : v < 0 ∨ 5 ≤ v) : cnt s.S v = 0 := by
  unfold cnt
  rw [List.count_eq_zero]
  intro hm
  obtain ⟨i, hi, e⟩ := List.mem_iff_getElem.1 hm
  have : s.S.tail[i]? = some v := by rw [List.getElem?_eq_getElem hi, e]
  rw [List.getElem?_tail] at this
  have := ok.st _ _ this
  omega
theorem count_same {s : Arn} {n m : Nat} (ok : s.Ok n m) (v : Int) : countOf s.S v = cnt s.S v := by
  unfold countOf
  split
  · rw [cnt_out ok (by assumption)]; rfl
  · rfl
theorem last_of {s : Arn} {n m : Nat} (ok : s.Ok n m) (h : s.K ≠ []) : ∃ (K' : List Int) (k : Nat) (g : Int), s.K = K' ++ [(k : Int)] ∧ 1 ≤ k ∧ k < s.S.length ∧ s.S[k]? = some 0 ∧ s.G[k]? = some g := by
  obtain ⟨K', x, hK⟩ := (List.eq_nil_or_concat s.K).resolve_left h
  rw [List.concat_eq_append] at hK
  obtain ⟨x1, x2, x3⟩ := ok.fr x (by rw [hK]; simp)
  obtain ⟨k, rfl⟩ := Int.eq_ofNat_of_zero_le (show 0 ≤ x by omega)
  have hS := ok.hS
  have hG := ok.hG
  refine ⟨K', k, _, hK, by omega, by omega, by simpa using x3, List.getElem?_eq_getElem (by omega)⟩
end Go.Proofs.Ytoodcfldnojkjab
