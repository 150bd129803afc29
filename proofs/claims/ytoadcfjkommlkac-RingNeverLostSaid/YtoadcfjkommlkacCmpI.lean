/-
  slices.Compact at ints. Conditions: the row is the call's own.
-/
import Derived.Test.YtoadcfjkommlkacRowN
import Derived.Test.YtoadcfjkommlkacSmall
import Derived.RegionTactic
import Derived.BigRegion
import Derived.Deep.QuietTactic
import Derived.BigQuiet
namespace Go.Proofs.Ytoadcfjkommlkac
set_option linter.unusedSimpArgs false
set_option linter.unusedVariables false
open Go.RowKit

def ddI (l : List Int) : List Int := l.foldl (fun o x => if o.getLast? = some x then o else o ++ [x]) []
theorem snoc_indI {P : List Int → Prop} (h0 : P []) (hs : ∀ (l : List Int) (x : Int), P l → P (l ++ [x])) (l : List Int) : P l := by
  have h : ∀ m : List Int, P m.reverse := fun m => by
    induction m with
    | nil => exact h0
    | cons x m ih => rw [List.reverse_cons]; exact hs _ x ih
  have := h l.reverse
  rwa [List.reverse_reverse] at this
theorem ddI_snoc (l : List Int) (x : Int) : ddI (l ++ [x]) = if (ddI l).getLast? = some x then ddI l else ddI l ++ [x] := by
  unfold ddI; rw [List.foldl_append]; rfl
theorem ddI_last (l : List Int) : (ddI l).getLast? = l.getLast? := by
  refine snoc_indI (P := fun l => (ddI l).getLast? = l.getLast?) ?_ ?_ l
  · rfl
  · intro l x ih
    rw [ddI_snoc, List.getLast?_concat]
    split
    · assumption
    · simp
theorem ddI_mem (l : List Int) (y : Int) : y ∈ ddI l ↔ y ∈ l := by
  refine snoc_indI (P := fun l => y ∈ ddI l ↔ y ∈ l) ?_ ?_ l
  · simp [ddI]
  · intro l x ih
    rw [ddI_snoc]
    split
    · rename_i h
      rw [ih, List.mem_append, List.mem_singleton]
      constructor
      · exact .inl
      · rintro (h' | rfl)
        · exact h'
        · rw [← ih]; exact List.mem_of_getLast? h
    · simp [ih]
theorem ddI_len (l : List Int) : (ddI l).length ≤ l.length := by
  refine snoc_indI (P := fun l => (ddI l).length ≤ l.length) ?_ ?_ l
  · simp [ddI]
  · intro l x ih
    rw [ddI_snoc]
    split <;> simp <;> omega
theorem take_last {l : List Int} {k : Nat} {x : Int} (h : l[k]? = some x) : (l.take (k + 1)).getLast? = some x := by
  rw [take_snoc h]; simp
theorem ddI_next {l : List Int} {k : Nat} {x y : Int} (hx : l[k]? = some x) (hy : l[k + 1]? = some y) : ddI (l.take (k + 2)) = if x = y then ddI (l.take (k + 1)) else ddI (l.take (k + 1)) ++ [y] := by
  rw [take_snoc hy, ddI_snoc, ddI_last, take_last hx]
  by_cases e : x = y <;> simp [e]
theorem ddI_one (l : List Int) : ddI (l.take 1) = l.take 1 := by
  rcases l with _ | ⟨x, l⟩
  · rfl
  · simp [ddI]
/-- what Compact's inner loop keeps: i are written, p are read -/
def CJ (t : List Int) (p i : Nat) (l : List Int) : Prop := l.length = t.length ∧ i < p ∧ p ≤ t.length ∧ l.take i = ddI (t.take p) ∧ ∀ k, p ≤ k + 1 → l[k]? = t[k]?
theorem CJ.start {t : List Int} {k : Nat} {x : Int} (hx : t[k]? = some x) (hy : t[k + 1]? = some x) (h : ddI (t.take (k + 1)) = t.take (k + 1)) : CJ t (k + 2) (k + 1) t := by
  have := (List.getElem?_eq_some_iff.1 hy).1
  exact ⟨rfl, by omega, by omega, by rw [ddI_next hx hy, if_pos rfl, h], fun _ _ => rfl⟩
theorem CJ.skip {t : List Int} {p i : Nat} {l : List Int} {x : Int} (h : CJ t (p + 1) i l) (hx : l[p]? = some x) (hy : l[p + 1]? = some x) : CJ t (p + 2) i l := by
  obtain ⟨h1, h2, h3, h4, h5⟩ := h
  rw [h5 _ (by omega)] at hx hy
  have := (List.getElem?_eq_some_iff.1 hy).1
  exact ⟨h1, by omega, by omega, by rw [ddI_next hx hy, if_pos rfl, h4], fun k hk => h5 k (by omega)⟩
theorem CJ.keep {t : List Int} {p i : Nat} {l : List Int} {x y : Int} (h : CJ t (p + 1) i l) (hx : l[p]? = some x) (hy : l[p + 1]? = some y) (e : x ≠ y) : CJ t (p + 2) (i + 1) (l.set i y) := by
  obtain ⟨h1, h2, h3, h4, h5⟩ := h
  rw [h5 _ (by omega)] at hx hy
  have := (List.getElem?_eq_some_iff.1 hy).1
  refine ⟨by simpa using h1, by omega, by omega, ?_, fun k hk => ?_⟩
  · rw [ddI_next hx hy, if_neg e, ← h4, take_snoc (x := y) (by rw [List.getElem?_set, if_pos rfl, if_pos (by omega)])]
    rw [List.take_set, List.set_eq_of_length_le (by rw [List.length_take]; omega)]
  · rw [List.getElem?_set, if_neg (by omega)]; exact h5 k (by omega)
set_option maxHeartbeats 4000000 in
theorem compactI2_any (base g n cap : Nat) (t : List Int) (w : World) (hR : RowN w base g n cap t) (h2 : 2 ≤ n) (h6 : n ≤ 1000000) (hm : cap ≤ 9223372036854775807) :
    Calls Try.prog 39 #[.slice (some ⟨g, 0, none⟩) n cap] w fun e w' =>
      e = .returned (.slice (some ⟨g, 0, none⟩) (ddI t).length cap) ∧ (∀ R : Nat → Prop, R g → RdR (Sh.int .i64) w' R (some ⟨g, 0, none⟩) (ddI t)) ∧ Below g w w' := by
  have hgl := hR.lt
  have hnc : n ≤ cap := by obtain ⟨_, _, _, _, _, h, _⟩ := hR.blk; exact h
  have HR := hide hR
  have Hn := hide hR.len
  have HD1 := hide (ddI_one t)
  clear hR
  go_enter Try.func39, Try.ntmps39
  go_wp2
  go_loopw [3] (fun s3 wr => ∃ k : Nat, k + 1 ≤ n ∧ s3 = .int .i64 (k + 1 : Nat) ∧ Hid (ddI (t.take (k + 1)) = t.take (k + 1)) ∧ Drew w wr) (fun s3 _ => n - (intOf s3).toNat)
  case atStart => exact ⟨0, by omega, rfl, HD1, Drew.refl _⟩
  case round =>
    obtain ⟨k, hk, rfl, HD, j, rfl⟩ := hrel
    by_cases hlt : k + 1 < n
    · obtain ⟨x1, hv⟩ : ∃ v, t[k]? = some v := ⟨_, List.getElem?_eq_getElem (by have := Hn.out; omega)⟩
      obtain ⟨y1, hu⟩ : ∃ v, t[k + 1]? = some v := ⟨_, List.getElem?_eq_getElem (by have := Hn.out; omega)⟩
      have q0 : w.cell? ⟨g, k, none⟩ = some (.int .i64 x1) := HR.out.cell hv
      have r0 : w.cell? ⟨g, k + 1, none⟩ = some (.int .i64 y1) := HR.out.cell hu
      have HV := hide hv
      have HU := hide hu
      have g0 : (0 : Int) ≤ k := by omega
      have g1 : (k : Int) < n := by omega
      have g2 : (k : Int) + 1 < n := by omega
      have g3 : ¬ ((k : Int) + 1 < 0) := by omega
      have g4 : (0 : Int) ≤ (k : Int) + 1 := by omega
      have gw : IntKind.i64.wrap (k : Int) = k := by simp [IntKind.wrap, IntKind.bits, IntKind.signed]; omega
      clear hv hu
      by_cases e : x1 = y1
      · have he := (show (y1 == x1) = true by simp [e])
        have HC := hide (CJ.start HV.out (e ▸ HU.out) HD.out)
        clear e HD
        go_upto_region 6 with fail
        go_quiet (fail)
        go_wp2
        go_loopw [3, 5] (fun s3 s5 wr => ∃ (i q : Nat) (l : List Int), s3 = .int .i64 i ∧ s5 = .int .i64 (q + 1 : Nat) ∧ k + 1 + (q + 1) ≤ n ∧ i < k + 1 + (q + 1) ∧ Hid (CJ t (k + 1 + q + 1) i l) ∧ Hid (RowN wr base g n cap l) ∧ Hid (Below g w wr)) (fun _ s5 _ => n - (intOf s5).toNat)
        case atStart => exact ⟨k + 1, 0, t, rfl, rfl, by omega, by omega, HC, hide (HR.out.below (below_drewN (Below.refl w.heap.size w) _) hgl), hide (below_drewN (Below.refl g w) _)⟩
        case round =>
          obtain ⟨i, q, l, rfl, rfl, hq, hi, HI, HRw, HBw⟩ := hrel
          have hll := HRw.out.len
          have HL := hide hll
          clear q0 r0 he
          by_cases hlq : k + 1 + (q + 1) < n
          · obtain ⟨u1, hu⟩ : ∃ v, l[k + 1 + q]? = some v := ⟨_, List.getElem?_eq_getElem (by omega)⟩
            obtain ⟨v1, hv⟩ : ∃ v, l[k + 1 + q + 1]? = some v := ⟨_, List.getElem?_eq_getElem (by omega)⟩
            obtain ⟨z1, hz⟩ : ∃ v, l[i]? = some v := ⟨_, List.getElem?_eq_getElem (by omega)⟩
            have q0 : wr.cell? ⟨g, k + 1 + q, none⟩ = some (.int .i64 u1) := HRw.out.cell hu
            have r0 : wr.cell? ⟨g, k + 1 + (q + 1), none⟩ = some (.int .i64 v1) := HRw.out.cell hv
            have d0 : wr.cell? ⟨g, i, none⟩ = some (.int .i64 z1) := HRw.out.cell hz
            have f0 := HRw.out.frozen i
            have HV := hide hv
            have HU := hide hu
            have p0 : (0 : Int) ≤ q := by omega
            have p1 : (q : Int) < (n - (k + 1) : Nat) := by omega
            have p2 : (q : Int) + 1 < (n - (k + 1) : Nat) := by omega
            have p3 : ¬ ((q : Int) + 1 < 0) := by omega
            have p4 : (0 : Int) ≤ (q : Int) + 1 := by omega
            have pw : IntKind.i64.wrap (q : Int) = q := by simp [IntKind.wrap, IntKind.bits, IntKind.signed]; omega
            clear hv hu hz
            by_cases e : u1 = v1
            · have he := (show (v1 != u1) = false by simp [e])
              have HE := hide (HI.out.skip HU.out (e ▸ HV.out))
              clear e
              go_upto_region 11 with fail
              go_quiet (fail)
              go_wp2
              go_roundw
              case rel => exact ⟨i, q + 1, l, rfl, by go_num, by omega, by omega, HE, hide (HRw.out.below (below_drewN (Below.refl wr.heap.size wr) _) HRw.out.lt), hide (below_drewN HBw.out _)⟩
              case measure => simp [intOf]; omega
            · have he := (show (v1 != u1) = true by simpa using Ne.symm e)
              have HE := hide (HI.out.keep HU.out HV.out e)
              have w0 : (0 : Int) ≤ i := by omega
              have w1 : (i : Int) < n := by omega
              clear e
              go_upto_region 11 with fail
              go_quiet (fail)
              go_wp2
              go_roundw
              case rel => exact ⟨i + 1, q + 1, l.set i v1, by go_num, by go_num, by omega, by omega, HE, hide ((HRw.out.below (below_drewN (Below.refl wr.heap.size wr) _) HRw.out.lt).set v1), hide ((below_drewN HBw.out _).setCell (Nat.le_refl _) _)⟩
              case measure => simp [intOf]; omega
          · have hq2 : k + 1 + (q + 1) = n := by omega
            have hin : i < n := by omega
            obtain ⟨w7, hw7, h7, hb7⟩ := HRw.out.clear hin 0 (cap - i)
            have HL := hide (show ddI t = l.take i by rw [HI.out.2.2.2.1, List.take_of_length_le (by have := Hn.out; omega)])
            have hi' : (i : Int) ≤ n := by omega
            have H7 := hide h7
            have HB7 := hide (HBw.out.trans hb7)
            have p2 : ¬ ((q : Int) + 1 < (n - (k + 1) : Nat)) := by omega
            clear h7 hb7
            go_wp2
            go_ret
            exact ⟨by rw [HL.out, List.length_take, hll, Nat.min_eq_left (Nat.le_of_lt hin)]; rfl, fun R hr => by rw [HL.out]; exact H7.out R hr, HB7.out⟩
      · have he := (show (y1 == x1) = false by simpa using Ne.symm e)
        have HE := hide (show ddI (t.take (k + 1 + 1)) = t.take (k + 1 + 1) by rw [ddI_next HV.out HU.out, if_neg e, HD.out, ← take_snoc HU.out])
        clear e HD
        go_upto_region 6 with fail
        go_quiet (fail)
        go_wp2
        go_roundw
        case rel => exact ⟨k + 1, by omega, by go_num, HE, by first | exact ⟨_, rfl⟩ | exact drewN_drewN' _ _ _⟩
        case measure => simp [intOf]; omega
    · obtain rfl : k + 1 = n := by omega
      have HE := hide (show ddI t = t by have h := HD.out; rwa [List.take_of_length_le (by have := Hn.out; omega)] at h)
      have hg1 : ¬ ((k : Int) + 1 < ((k + 1 : Nat) : Int)) := by omega
      go_wp2
      go_ret
      refine ⟨by rw [HE.out, Hn.out]; rfl, fun R hr => by rw [HE.out]; exact (HR.out.below (below_drewN (Below.refl w.heap.size w) j) hgl).rdr hr, below_drewN (Below.refl g w) j⟩
theorem compactI_any (base g cap n : Nat) (t : List Int) (w : World) (hR : RowN w base g n cap t) (h6 : n ≤ 1000000) (hm : cap ≤ 9223372036854775807) :
    Calls Try.prog 39 #[.slice (some ⟨g, 0, none⟩) n cap] w fun e w' =>
      e = .returned (.slice (some ⟨g, 0, none⟩) (ddI t).length cap) ∧ (∀ R : Nat → Prop, R g → RdR (Sh.int .i64) w' R (some ⟨g, 0, none⟩) (ddI t)) ∧ Below g w w' := by
  rcases Nat.lt_or_ge n 2 with h2 | h2
  · have hl := hR.len
    have hd : ddI t = t := by
      have := ddI_one t
      rwa [List.take_of_length_le (by omega)] at this
    have HR := hide hR
    have Hl := hide hl
    rw [hd]
    clear hd hR hl
    have b1 : decide ((n : Int) < 2) = true := decide_eq_true (by omega)
    have b2 : decide (n < 2) = true := decide_eq_true h2
    go_enter Try.func39, Try.ntmps39
    go_wp2
    go_ret
    exact ⟨by rw [Hl.out]; rfl, fun R hr => HR.out.rdr hr, Below.refl _ _⟩
  · exact compactI2_any base g n cap t w hR h2 h6 hm
end Go.Proofs.Ytoadcfjkommlkac
