/-
  The package recall: what was not found: the document's. Conditions: the slices read as lists of hits.
-/
import Derived.Test.YtojanklgjdjniaaRecD
namespace Go.Proofs.Ytojanklgjdjniaa
open Go.RowKit

/-- the cells of hits -/
def hcs (l : List Hit) : List Value := l.flatMap fun h => [.int .u64 h.1, .int .u64 h.2]
theorem hcs_len (l : List Hit) : (hcs l).length = l.length * 2 := by
  induction l with
  | nil => rfl
  | cons a l ih => simp only [hcs, List.flatMap_cons, List.length_append, List.length_cons] at ih ⊢; rw [ih]; simp; omega
theorem hcs_snoc (l : List Hit) (x : Hit) : hcs (l ++ [x]) = hcs l ++ [.int .u64 x.1, .int .u64 x.2] := by simp [hcs]
theorem hcs_at {l : List Hit} {k : Nat} {x : Hit} (h : l[k]? = some x) : (hcs l)[k * 2]? = some (.int .u64 x.1) ∧ (hcs l)[k * 2 + 1]? = some (.int .u64 x.2) := by
  induction l generalizing k with
  | nil => simp at h
  | cons a l ih =>
    have e : hcs (a :: l) = .int .u64 a.1 :: .int .u64 a.2 :: hcs l := rfl
    rw [e]
    cases k with
    | zero => simp at h; subst h; simp
    | succ k =>
      simp at h
      have := ih h
      rw [show (k + 1) * 2 = k * 2 + 1 + 1 by omega]
      simpa using this
theorem hcs_one (l : List Hit) : ∀ u ∈ hcs l, u.oneCell' = true := by
  intro u hu
  simp only [hcs, List.mem_flatMap] at hu
  obtain ⟨x, _, hx⟩ := hu
  simp at hx
  rcases hx with rfl | rfl <;> rfl
theorem hitsR_mk {w : World} {R : Nat → Prop} {ad : Addr} {l : List Hit} (hR : R ad.block) (h : ∀ (j : Nat) (u : Value), (hcs l)[j]? = some u → w.cell? (ad.add j) = some u) : RdR SH w R (some ad) l := fun _ =>
  ⟨ad, rfl, hR, fun k x hx => ⟨[.int .u64 x.1] ++ [.int .u64 x.2], ⟨[.int .u64 x.1], [.int .u64 x.2], rfl, rfl, rfl⟩, fun j u hu => by
    obtain ⟨h1, h2⟩ := hcs_at hx
    rw [show SH.size = 2 from rfl]
    rcases j with _ | _ | j
    · simp at hu; subst hu; exact h _ _ h1
    · simp at hu; subst hu; exact h _ _ h2
    · simp at hu⟩⟩
theorem hitsR_own {w : World} {base : Nat} {e : TypeId} {A : Option Addr} {n c : Nat} {l : List Hit} (h : w.ownsRow base e 2 (.slice A n c) n (hcs l)) : RdR SH w (Btw base w.heap.size) A l := fun hne => by
  have hl : l.length = n := by have := h.1; rw [hcs_len] at this; omega
  obtain ⟨g, cap, hv, hg, hlt⟩ := h.form (by have := List.length_pos_iff.2 hne; omega)
  have hA : A = some ⟨g, 0, none⟩ := by injection hv
  subst hA
  exact hitsR_mk (R := Btw base w.heap.size) (ad := ⟨g, 0, none⟩) ⟨hg, hlt⟩ (fun j u hu => h.cells (g := g) rfl j _ hu) hne
def NewHits (w : World) (l : List Hit) (v : Value) (w' : World) : Prop :=
  ∃ A n c, v = .slice A n c ∧ l.length = n ∧ n ≤ c ∧ c ≤ 9223372036854775807 ∧ RdR SH w' (Btw w.heap.size w'.heap.size) A l ∧ Below w.heap.size w w'
theorem NewHits.of_own {w w' : World} {e : TypeId} {v : Value} {n : Nat} {l : List Hit} (h : w'.ownsRow w.heap.size e 2 v n (hcs l)) (hb : Below w.heap.size w w') : NewHits w l v w' := by
  obtain ⟨A, c, rfl, h1, h2⟩ := own_form h
  exact ⟨A, n, c, rfl, by have := h.1; rw [hcs_len] at this; omega, h1, h2, hitsR_own h, hb⟩
/-- what was not found -/
def missR (f t : List Hit) : List Hit := t.filter fun h => decide (h ∉ f)
theorem missR_snoc {f t : List Hit} {k : Nat} {x : Hit} (h : t[k]? = some x) : missR f (t.take (k + 1)) = missR f (t.take k) ++ if x ∈ f then [] else [x] := by
  unfold missR
  rw [take_snoc h, List.filter_append]
  by_cases e : x ∈ f
  · rw [if_pos e, List.filter_cons_of_neg (by simpa using e)]; simp
  · rw [if_neg e, List.filter_cons_of_pos (by simpa using e)]; simp
theorem missR_le (f t : List Hit) : (missR f t).length ≤ t.length := List.length_filter_le _ _
theorem info_hit : (Try.prog.info? 35).map (fun i => (i.zero, i.size, i.bytes)) = some (some (.agg #[.int .u64 0, .int .u64 0]), 2, 16) := by kernel_rfl

set_option maxHeartbeats 2000000 in
theorem refMissing_any (A B : Option Addr) (n c m d : Nat) (f t : List Hit) (w : World) (hx : Rd SH w w.heap.size A f) (hn : f.length = n) (hc : n ≤ c) (hm : c ≤ 9223372036854775807)
    (hy : Rd SH w w.heap.size B t) (hn' : t.length = m) (hd : m ≤ d) (hm' : d ≤ 9223372036854775807) (h6 : m ≤ 1000) :
    Calls Try.prog 11 #[.slice A n c, .slice B m d] w fun e w' => ∃ v, e = .returned v ∧ NewHits w (missR f t) v w' := by
  have HX := hide hx
  have HY := hide hy
  have Hn := hide hn
  have Hm := hide hn'
  clear hx hy hn hn'
  go_enter Try.func11, Try.ntmps11
  go_upto_region 3 with fail
  go_loopw [5, 7, 10] (fun v _ i wr => ∃ j : Nat, j ≤ m ∧ i = .int .i64 j ∧ Hid (wr.ownsRow w.heap.size 35 2 v (missR f (t.take j)).length (hcs (missR f (t.take j)))) ∧ Hid (Below w.heap.size w wr)) (fun _ _ i _ => m - (intOf i).toNat)
  case atStart => exact ⟨0, by omega, rfl, hide ⟨rfl, .inl ⟨rfl, rfl⟩⟩, hide (Below.refl _ _)⟩
  case round =>
    obtain ⟨j, hj, rfl, hO, hB⟩ := hrel
    by_cases hlt : j < m
    · obtain ⟨ad, ⟨x1, x2⟩, rfl, _, hv, q0, q1⟩ := (HY.out.below hB.out (Nat.le_refl _)).hcell (k := j) (by have := Hm.out; omega)
      simp only at q0 q1
      have g0 : (0 : Int) ≤ j := by omega
      have g1 : (j : Int) < m := by omega
      have HB1 := hide (hB.out.trans ((below1 wr (.cells #[.int .u64 x1, .int .u64 x2] 35)).mono hB.out.size))
      have HN := hide (Blk.new wr 35 #[.int .u64 x1, .int .u64 x2])
      have HO1 := hide (own_keep (w' := wr.alloc (.cells #[.int .u64 x1, .int .u64 x2] 35)) hO.out fun g hg => (below1 wr _).block g (hO.out.lt g hg).2)
      have HSn := hide (missR_snoc (f := f) hv)
      have Hle := hide (show (missR f (t.take j)).length ≤ j by have := missR_le f (t.take j); rw [List.length_take] at this; omega)
      clear hv
      go_upto_region 5 with fail
      generalize wr.alloc (.cells #[.int .u64 x1, .int .u64 x2] 35) = w2 at *
      have HP := hide ((HX.out.below HB1.out (Nat.le_refl _)).more HB1.out.size)
      have z0 : w2.cell? ⟨wr.heap.size, 0, none⟩ = some (.int .u64 x1) := HN.out.cell 0
      have z1 : w2.cell? ⟨wr.heap.size, 1, none⟩ = some (.int .u64 x2) := HN.out.cell 1
      generalize wr.heap.size = bx at *
      have HC := hide (has_any A n c f x1 x2 w2 HP.out Hn.out hc hm)
      by_cases e : (x1, x2) ∈ f
      · rw [if_pos e, List.append_nil] at HSn
        rw [decide_eq_true e] at HC
        clear e
        go_wp2_with (go_at_call 19; refine HC.out.mono ?_; rintro e w6 ⟨rfl, hb⟩; have HB6 := hide (HB1.out.trans (hb.mono HB1.out.size)); have HO6 := hide (own_keep HO1.out fun g hg => hb.block g (HO1.out.lt g hg).2); clear hb)
        go_roundw
        case rel => exact ⟨j + 1, by omega, by go_num, by rw [HSn.out]; exact HO6, HB6⟩
        case measure => simp [intOf]; omega
      · rw [if_neg e] at HSn
        rw [decide_eq_false e] at HC
        clear e
        generalize hM : missR f (t.take j) = u at *
        have HM := hide hM
        clear hM
        have hlen := Hle.out
        go_wp2_with (first
          | (go_at_call 19; refine HC.out.mono ?_; rintro e w6 ⟨rfl, hb⟩; have HB6 := hide (HB1.out.trans (hb.mono HB1.out.size)); have HO6 := hide (own_keep HO1.out fun g hg => hb.block g (HO1.out.lt g hg).2); have y0 : w6.cell? ⟨bx, 0, none⟩ = some (.int .u64 x1) := (HN.out.below hb HN.out.lt).cell 0; have y1 : w6.cell? ⟨bx, 1, none⟩ = some (.int .u64 x2) := (HN.out.below hb HN.out.lt).cell 1; clear hb z0 z1)
          | (at_builtin; refine wpList_append_elem rfl _ _ 22 rfl w.heap.size Try.underlying22 info_hit rfl (by decide) _ u.length _ rfl HO6.out _ _ rfl rfl (by simp [Value.oneCell']) (by simp only [maxLen]; omega) (by omega) HB6.out.size ?_; intro v' w9 hown9 hgr9 _; have HO9 := hide hown9; have HB9 := hide (below_own HB6.out HO6.out HB6.out.size hgr9); clear hown9 hgr9))
        go_roundw
        case rel => exact ⟨j + 1, by omega, by go_num, hide (by rw [HSn.out, hcs_snoc, List.length_append]; exact HO9.out), HB9⟩
        case measure => simp [intOf]; omega
    · obtain rfl : j = m := by omega
      go_wp2
      go_ret
      exact ⟨_, rfl, NewHits.of_own (by have h := hO.out; rwa [List.take_of_length_le (by have := Hm.out; omega)] at h) hB.out⟩
end Go.Proofs.Ytojanklgjdjniaa
