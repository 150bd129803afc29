/-
  The plain law of tables: a code's distance is that to what it stands for; none is nearer than the own code's; what was decoded has a code that decodes to it. No program in sight.
-/
import Derived.Test.YtojanklgjdjniacQuaH
namespace Go.Proofs.Ytojanklgjdjniac
open Go.RowKit

theorem cmpAt_drop (xs : List Int) (a i : Nat) : cmpAt (xs.drop a) i = cmpAt xs (a + i) := by simp [cmpAt, List.getD_eq_getElem?_getD]
theorem sqTo_add (xs ys : List Int) (a d : Nat) : sqTo xs ys (a + d) = sqTo xs ys a + sqTo (xs.drop a) (ys.drop a) d := by
  induction d with
  | zero => simp [sqTo]
  | succ d ih =>
    rw [← Nat.add_assoc]
    simp only [sqTo, ih, cmpAt_drop]
    omega
theorem sqTo_congr {xs ys us vs : List Int} {d : Nat} (h : ∀ i, i < d → cmpAt xs i = cmpAt us i ∧ cmpAt ys i = cmpAt vs i) : sqTo xs ys d = sqTo us vs d := by
  induction d with
  | zero => rfl
  | succ d ih =>
    simp only [sqTo]
    rw [ih fun i hi => h i (by omega), (h d (by omega)).1, (h d (by omega)).2]
theorem cmpAt_take {xs : List Int} {d i : Nat} (h : i < d) : cmpAt (xs.take d) i = cmpAt xs i := by
  simp [cmpAt, List.getD_eq_getElem?_getD, List.getElem?_take, h]
theorem held_add {u v a : Int} (h : held u = held v) (hu : 0 ≤ u) (hv : 0 ≤ v) (ha : 0 ≤ a) : held (u + held a) = held (v + a) := by
  unfold held at *
  split at h <;> split at h <;> (repeat' split) <;> omega
theorem held_mono {u v : Int} (h : u ≤ v) : held u ≤ held v := by unfold held; split <;> split <;> omega
section
variable {b : Book} {code : List Int} {q : List Int}
theorem okC_at (hk : chkB b = true) (hc : okC b code) {i : Nat} (hi : i < b.length) : ∃ (p : Part) (n : Nat) (c : List Int), b[i]? = some p ∧ code[i]? = some (n : Int) ∧ p[n]? = some c ∧ ctr b code i = c ∧ c.length = dim0 p ∧ rightB p = true := by
  obtain ⟨_, hr, _⟩ := chk_right hk
  have hp : b[i]? = some (b[i]'hi) := List.getElem?_eq_getElem _
  have hn : code[i]? = some (code[i]'(by rw [hc.1]; exact hi)) := List.getElem?_eq_getElem _
  generalize b[i]'hi = p at *
  generalize code[i]'(by rw [hc.1]; exact hi) = n at *
  have hin := hc.2 i p n hp hn
  obtain ⟨j, rfl⟩ : ∃ j : Nat, n = j := ⟨n.toNat, by have := hin.1; omega⟩
  have hj : j < p.length := by have := hin.2; omega
  have hcc : p[j]? = some (p[j]'hj) := List.getElem?_eq_getElem _
  have hrp := hr p (List.mem_of_getElem? hp)
  exact ⟨p, j, _, hp, hn, hcc, ctr_of hp hn hcc, right_len hrp (List.mem_of_getElem? hcc), hrp⟩
theorem decK_len (hk : chkB b = true) (hc : okC b code) {k : Nat} (h : k ≤ b.length) : (decK b code k).length = sumK b k := by
  induction k with
  | zero => rfl
  | succ k ih =>
    obtain ⟨p, n, c, hp, _, _, hct, hl, _⟩ := okC_at hk hc (i := k) (by omega)
    rw [sumK_snoc hp]
    simp only [decK, List.length_append]
    rw [ih (by omega), hct, hl]
/-- the parts of what a code stands for -/
theorem decK_part (hk : chkB b = true) (hc : okC b code) {k : Nat} (h : k < b.length) {n : Nat} (hn : k < n) (hnb : n ≤ b.length) : ((decK b code n).drop (sumK b k)).take (dim0 (b.getD k [])) = ctr b code k := by
  induction n with
  | zero => omega
  | succ n ih =>
    obtain ⟨p, j, c, hp, _, _, hct, hl, _⟩ := okC_at hk hc h
    have hgd : b.getD k [] = p := by simp [List.getD_eq_getElem?_getD, hp]
    rcases Nat.lt_or_ge k n with h' | h'
    · have e := ih h' (by omega)
      simp only [decK]
      have hl1 := decK_len hk hc (k := n) (by omega)
      have hsm := sumK_mono b (show k + 1 ≤ n by omega)
      rw [sumK_snoc hp] at hsm
      rw [List.drop_append_of_le_length (by omega), List.take_append_of_le_length (by rw [List.length_drop, hgd]; omega)]
      exact e
    · obtain rfl : n = k := by omega
      simp only [decK]
      have hl1 := decK_len hk hc (k := n) (by omega)
      rw [List.drop_append_of_le_length (by omega), List.drop_of_length_le (by omega), List.nil_append, hgd, hct, List.take_of_length_le (by omega)]
theorem entT_tbl (hk : chkB b = true) (hc : okC b code) {i : Nat} (hi : i < b.length) : entT (tblK b q b.length) code i = distOf (partOf b q i) (ctr b code i) ∧ entT (tblK b q b.length) code i ∈ rowOf b q i := by
  obtain ⟨p, n, c, hp, hn, hcc, hct, _, _⟩ := okC_at hk hc hi
  have hgd : b.getD i [] = p := by simp [List.getD_eq_getElem?_getD, hp]
  have hrow : (rowOf b q i)[n]? = some (distOf (partOf b q i) c) := by unfold rowOf distL; rw [hgd, List.getElem?_map, hcc]; rfl
  have e := entT_of (tblK_at hi) hn hrow
  exact ⟨by rw [e, hct], by rw [e]; exact List.mem_of_getElem? hrow⟩
theorem okT_tbl (hk : chkB b = true) (hc : okC b code) : okT (tblK b q b.length) code := by
  refine ⟨by rw [tblK_len]; exact hc.1, fun i r n hr hn => ?_⟩
  have hi : i < b.length := by have := (List.getElem?_eq_some_iff.1 hr).1; rwa [tblK_len] at this
  rw [tblK_at hi] at hr
  injection hr with hr
  subst hr
  obtain ⟨p, j, c, hp, hn', hcc, _, _, _⟩ := okC_at hk hc hi
  have hgd : b.getD i [] = p := by simp [List.getD_eq_getElem?_getD, hp]
  have := hc.2 i p n hp hn
  unfold rowOf
  rw [hgd, distL_len]; exact this
theorem U64_tbl (n : Nat) : U64L (tblK b q n) := by
  intro r hr x hx
  simp only [tblK, List.mem_map] at hr
  obtain ⟨i, _, rfl⟩ := hr
  simp only [rowOf, distL, List.mem_map] at hx
  obtain ⟨c, _, rfl⟩ := hx
  have := distOf_le (partOf b q i) c
  omega
theorem farK_nonneg (k : Nat) (n : Nat) : 0 ≤ farK (tblK b q n) code k := by
  induction k with
  | zero => exact Int.le_refl _
  | succ k ih =>
    simp only [farK]
    have : 0 ≤ entT (tblK b q n) code k := by
      unfold entT
      simp only [List.getD_eq_getElem?_getD]
      cases h1 : (tblK b q n)[k]? with
      | none => simp
      | some r =>
        simp only [Option.getD_some]
        cases h2 : r[((code[k]?).getD 0).toNat]? with
        | none => simp
        | some x => exact (U64_tbl n r (List.mem_of_getElem? h1) x (List.mem_of_getElem? h2)).1
    omega
/-- a code's distance is that to what it stands for -/
theorem far_dist (hk : chkB b = true) (hc : okC b code) (hq : q.length = sumK b b.length) : held (farK (tblK b q b.length) code b.length) = distOf q (decK b code b.length) := by
  have key : ∀ k, k ≤ b.length → held (farK (tblK b q b.length) code k) = held (sqTo q (decK b code b.length) (sumK b k)) := by
    intro k
    induction k with
    | zero => intro _; rfl
    | succ k ih =>
      intro hk'
      obtain ⟨p, n, c, hp, _, _, hct, hl, _⟩ := okC_at hk hc (i := k) (by omega)
      have hgd : b.getD k [] = p := by simp [List.getD_eq_getElem?_getD, hp]
      simp only [farK]
      rw [(entT_tbl (q := q) hk hc (by omega)).1, sumK_snoc hp, sqTo_add]
      have hpl : (partOf b q k).length = dim0 p := by
        have := sumK_mono b hk'
        rw [sumK_snoc hp] at this
        unfold partOf; rw [hgd, List.length_take, List.length_drop]; omega
      have e : sqTo (q.drop (sumK b k)) ((decK b code b.length).drop (sumK b k)) (dim0 p) = sqTo (partOf b q k) (ctr b code k) (dim0 p) := by
        refine sqTo_congr fun i hi => ?_
        rw [← decK_part hk hc (k := k) (by omega) (by omega) (Nat.le_refl _), hgd]
        unfold partOf
        rw [hgd, cmpAt_take hi, cmpAt_take hi]
        exact ⟨rfl, rfl⟩
      rw [e]
      have hd : distOf (partOf b q k) (ctr b code k) = held (sqTo (partOf b q k) (ctr b code k) (dim0 p)) := by
        unfold distOf
        rw [hpl, hct, hl, Nat.max_self]
      rw [hd]
      exact held_add (ih (by omega)) (farK_nonneg _ _) (sqTo_nonneg _ _ _) (sqTo_nonneg _ _ _)
  have h := key b.length (Nat.le_refl _)
  unfold distOf
  rw [decK_len hk hc (Nat.le_refl _), hq, Nat.max_self]
  exact h
theorem dec_vecOk (hk : chkB b = true) (hc : okC b code) : vecOk (decK b code b.length) (dimOf b) = true := by
  obtain ⟨h64, hr, hs⟩ := chk_right hk
  have hd : dimOf b = sumK b b.length := by unfold dimOf; rw [if_pos hk]
  have h1 : 1 ≤ sumK b b.length := by
    obtain ⟨p, _, _, hp, _, _, _, _, hrp⟩ := okC_at hk hc (i := 0) (by omega)
    have := sumK_mono b (show 0 + 1 ≤ b.length by omega)
    rw [sumK_snoc hp] at this
    have := right_dim1 hrp
    omega
  have hall : ∀ k, k ≤ b.length → ∀ x ∈ decK b code k, -16777216 ≤ x ∧ x ≤ 16777216 := by
    intro k
    induction k with
    | zero => intro _ x hx; simp [decK] at hx
    | succ k ih =>
      intro hk' x hx
      simp only [decK, List.mem_append] at hx
      rcases hx with hx | hx
      · exact ih (by omega) x hx
      · obtain ⟨p, n, c, hp, _, hcc, hct, hl, hrp⟩ := okC_at hk hc (i := k) (by omega)
        rw [hct] at hx
        unfold rightB at hrp
        rw [Bool.and_eq_true, List.all_eq_true] at hrp
        have hv := hrp.2 c (List.mem_of_getElem? hcc)
        unfold vecOk at hv
        rw [Bool.and_eq_true, List.all_eq_true] at hv
        exact of_decide_eq_true (hv.2 x hx)
  unfold vecOk
  rw [Bool.and_eq_true, List.all_eq_true]
  refine ⟨decide_eq_true ⟨by omega, by omega, by rw [decK_len hk hc (Nat.le_refl _), hd]⟩, fun x hx => decide_eq_true (hall _ (Nat.le_refl _) x hx)⟩
theorem row_len (hk : chkB b = true) {i : Nat} (hi : i < b.length) : 1 ≤ (rowOf b q i).length ∧ (rowOf b q i).length = (b.getD i []).length := by
  obtain ⟨_, hr, _⟩ := chk_right hk
  have hp : b[i]? = some (b[i]'hi) := List.getElem?_eq_getElem _
  have hgd : b.getD i [] = b[i]'hi := by simp [List.getD_eq_getElem?_getD, hp]
  obtain ⟨_, _, _, h⟩ := right_dim (hr _ (List.mem_of_getElem? hp))
  unfold rowOf; rw [distL_len, hgd]; exact ⟨h, rfl⟩
/-- the own code's numbers are places -/
theorem enc_ok (hk : chkB b = true) : okC b ((List.range b.length).map (encL b q)) := by
  refine ⟨by simp, fun i p n hp hn => ?_⟩
  have hi : i < b.length := (List.getElem?_eq_some_iff.1 hp).1
  simp [hi] at hn
  subst hn
  have h1 := row_len (q := q) hk hi
  have hgd : b.getD i [] = p := by simp [List.getD_eq_getElem?_getD, hp]
  have h2 := (List.getElem?_eq_some_iff.1 (bestI_at h1.1)).1
  rw [h1.2, hgd] at h2
  exact ⟨by unfold encL; omega, by unfold encL; omega⟩
theorem ent_own (hk : chkB b = true) {i : Nat} (hi : i < b.length) : entT (tblK b q b.length) ((List.range b.length).map (encL b q)) i = minL (rowOf b q i) := by
  refine entT_of (n := bestI (rowOf b q i)) (tblK_at hi) (by simp [hi, encL]) (bestI_at (row_len hk hi).1)
/-- no code is nearer than the own one -/
theorem own_least (hk : chkB b = true) (hc : okC b code) : ∀ k, k ≤ b.length → farK (tblK b q b.length) ((List.range b.length).map (encL b q)) k ≤ farK (tblK b q b.length) code k := by
  intro k
  induction k with
  | zero => intro _; exact Int.le_refl _
  | succ k ih =>
    intro hk'
    have h1 := ih (by omega)
    have h2 := minL_le (entT_tbl (q := q) hk hc (i := k) (by omega)).2
    simp only [farK]
    rw [ent_own hk (by omega)]
    omega
theorem sqTo_zero {xs ys : List Int} {d : Nat} (h : sqTo xs ys d = 0) : ∀ i, i < d → cmpAt xs i = cmpAt ys i := by
  induction d with
  | zero => intro i hi; omega
  | succ d ih =>
    simp only [sqTo] at h
    have h1 := sqTo_nonneg xs ys d
    have h2 := sq_nonneg (cmpAt xs d) (cmpAt ys d)
    intro i hi
    rcases Nat.lt_or_ge i d with h' | h'
    · exact ih (by omega) i h'
    · obtain rfl : i = d := by omega
      have h3 : sq (cmpAt xs i) (cmpAt ys i) = 0 := by omega
      unfold sq at h3
      rcases Int.mul_eq_zero.1 h3 with e | e <;> omega
theorem distOf_zero {xs ys : List Int} (hl : xs.length = ys.length) (h : distOf xs ys = 0) : xs = ys := by
  unfold distOf at h
  have h0 := sqTo_nonneg xs ys (max xs.length ys.length)
  have h1 : sqTo xs ys (max xs.length ys.length) = 0 := by unfold held at h; split at h <;> omega
  rw [hl, Nat.max_self] at h1
  apply List.ext_getElem hl
  intro i hi hi'
  have := sqTo_zero h1 i hi'
  simpa [cmpAt, List.getD_eq_getElem?_getD, List.getElem?_eq_getElem hi, List.getElem?_eq_getElem hi'] using this
/-- what was decoded has a code that decodes to it -/
theorem again_same (hk : chkB b = true) (hc : okC b code) : decK b ((List.range b.length).map (encL b (decK b code b.length))) b.length = decK b code b.length := by
  have key : ∀ i, i < b.length → ctr b ((List.range b.length).map (encL b (decK b code b.length))) i = ctr b code i := by
    intro i hi
    obtain ⟨p, n, c, hp, hn, hcc, hct, hl, hrp⟩ := okC_at hk hc hi
    obtain ⟨p', n', c', hp', hn', hcc', hct', hl', _⟩ := okC_at hk (enc_ok (q := decK b code b.length) hk) hi
    have ep : p' = p := by rw [hp] at hp'; injection hp' with e; exact e.symm
    subst ep
    rw [hct, hct']
    have hgd : b.getD i [] = p' := by simp [List.getD_eq_getElem?_getD, hp]
    have hpart : partOf b (decK b code b.length) i = c := by
      have := decK_part hk hc hi hi (Nat.le_refl _)
      rw [hct] at this; exact this
    have hrow : rowOf b (decK b code b.length) i = distL c p' := by unfold rowOf; rw [hpart, hgd]
    have hz : (0 : Int) ∈ distL c p' := by
      unfold distL
      exact List.mem_map.2 ⟨c, List.mem_of_getElem? hcc, distOf_same c⟩
    have hm : minL (distL c p') = 0 := by
      have h1 := minL_le hz
      have h2 := minL_mem (show 1 ≤ (distL c p').length by rw [distL_len]; have := (List.getElem?_eq_some_iff.1 hcc).1; omega)
      unfold distL at h2
      obtain ⟨c2, _, e⟩ := List.mem_map.1 h2
      have := distOf_le c c2
      unfold distL at h1 ⊢
      omega
    have hb := bestI_at (show 1 ≤ (distL c p').length by rw [distL_len]; have := (List.getElem?_eq_some_iff.1 hcc).1; omega)
    rw [hm] at hb
    have en : n' = bestI (distL c p') := by
      simp [hi, encL, hrow] at hn'
      omega
    rw [← en] at hb
    unfold distL at hb
    rw [List.getElem?_map, hcc'] at hb
    have hd : distOf c c' = 0 := by simpa using hb
    exact (distOf_zero (by omega) hd).symm
  have : ∀ k, k ≤ b.length → decK b ((List.range b.length).map (encL b (decK b code b.length))) k = decK b code k := by
    intro k
    induction k with
    | zero => intro _; rfl
    | succ k ih =>
      intro h
      simp only [decK]
      rw [ih (by omega), key k (by omega)]
  exact this _ (Nat.le_refl _)
end
end Go.Proofs.Ytojanklgjdjniac
