/-
  The package recall: slices.DeleteFunc at hits, and Missing. Conditions: the slices read as lists of hits.
-/
import Derived.Test.YtggbokgacffamabRecL
namespace Go.Proofs.Ytggbokgacffamab
open Go.RowKit ChangeMaps

theorem RowG.rdr {w : World} {g cap : Nat} {l : List Hit} (h : RowG w g cap l) {R : Nat → Prop} (hR : R g) : RdR SH w R (some ⟨g, 0, none⟩) l :=
  hitsR_mk (R := R) (ad := ⟨g, 0, none⟩) hR fun j u hu => by rw [add_mk, Nat.zero_add]; exact h.cell hu
/-- what DeleteFunc's loop keeps -/
def KI (f t : List Hit) (j i : Nat) (l : List Hit) : Prop := l.length = t.length ∧ i < j ∧ j ≤ t.length ∧ l.take i = missR f (t.take j) ∧ ∀ k, j ≤ k → l[k]? = t[k]?
theorem KI.start {f t : List Hit} {k : Nat} {x : Hit} (hx : t[k]? = some x) (hf : x ∈ f) (ha : ∀ (j : Nat) (y : Hit), j < k → t[j]? = some y → y ∉ f) : KI f t (k + 1) k t := by
  have hk := (List.getElem?_eq_some_iff.1 hx).1
  refine ⟨rfl, by omega, by omega, ?_, fun _ _ => rfl⟩
  rw [missR_snoc hx, if_pos hf, List.append_nil]
  unfold missR
  refine (List.filter_eq_self.2 fun y hy => ?_).symm
  obtain ⟨j, hj⟩ := List.getElem?_of_mem hy
  rw [List.getElem?_take] at hj
  split at hj
  · simpa using ha j y (by assumption) hj
  · cases hj
theorem KI.skip {f t : List Hit} {j i : Nat} {l : List Hit} {x : Hit} (h : KI f t j i l) (hx : t[j]? = some x) (hf : x ∈ f) : KI f t (j + 1) i l := by
  have hk := (List.getElem?_eq_some_iff.1 hx).1
  obtain ⟨h1, h2, h3, h4, h5⟩ := h
  exact ⟨h1, by omega, by omega, by rw [missR_snoc hx, if_pos hf, List.append_nil]; exact h4, fun k hk => h5 k (by omega)⟩
theorem KI.keep {f t : List Hit} {j i : Nat} {l : List Hit} {x : Hit} (h : KI f t j i l) (hx : t[j]? = some x) (hf : x ∉ f) : KI f t (j + 1) (i + 1) (l.set i x) := by
  have hk := (List.getElem?_eq_some_iff.1 hx).1
  obtain ⟨h1, h2, h3, h4, h5⟩ := h
  refine ⟨by simpa using h1, by omega, by omega, ?_, fun k hk => ?_⟩
  · rw [missR_snoc hx, if_neg hf, ← h4, take_snoc (x := x) (by rw [List.getElem?_set, if_pos rfl, if_pos (by omega)])]
    rw [List.take_set, List.set_eq_of_length_le (by rw [List.length_take]; omega)]
  · rw [List.getElem?_set, if_neg (by omega)]; exact h5 k (by omega)
theorem KI.all {f t : List Hit} (h : ∀ (j : Nat) (x : Hit), t[j]? = some x → x ∉ f) : missR f t = t := List.filter_eq_self.2 fun y hy => by
  obtain ⟨j, hj⟩ := List.getElem?_of_mem hy
  simpa using h j y hj
theorem first_or (f l : List Hit) : (∀ (j : Nat) (x : Hit), l[j]? = some x → x ∉ f) ∨ ∃ (k : Nat) (x : Hit), l[k]? = some x ∧ x ∈ f ∧ ∀ (j : Nat) (y : Hit), j < k → l[j]? = some y → y ∉ f := by
  induction l with
  | nil => exact .inl fun j x h => by simp at h
  | cons y l ih =>
    by_cases e : y ∈ f
    · exact .inr ⟨0, y, rfl, e, fun j _ h => absurd h (by omega)⟩
    · rcases ih with h | ⟨k, x, h1, h2, h3⟩
      · refine .inl fun j x hj => ?_
        rcases j with _ | j
        · simp at hj; subst hj; exact e
        · exact h j x (by simpa using hj)
      · refine .inr ⟨k + 1, x, by simpa using h1, h2, fun j z hj hz => ?_⟩
        rcases j with _ | j
        · simp at hz; subst hz; exact e
        · exact h3 j z (by omega) (by simpa using hz)

set_option maxHeartbeats 2000000 in
theorem deleteFunc_any (g cap n b b5 : Nat) (f t : List Hit) (w : World) (hR : RowG w g cap t) (hn : t.length = n) (hm : cap ≤ 9223372036854775807) (hM : MapAt w b f) (h5 : Blk w b5 45 #[.map (some b)]) (hb : b < g) (hb5 : b5 < g) (hf : ∀ h ∈ t, wfH h) :
    Calls Try.prog 18 #[.slice (some ⟨g, 0, none⟩) n cap, .func (.func 20) #[] #[.pointer (some ⟨b5, 0, none⟩)]] w fun e w' =>
      e = .returned (.slice (some ⟨g, 0, none⟩) (missR f t).length cap) ∧ (∀ R : Nat → Prop, R g → RdR SH w' R (some ⟨g, 0, none⟩) (missR f t)) ∧ Below g w w' := by
  have hgl := hR.lt
  have hnc : n ≤ cap := by obtain ⟨_, _, _, _, h⟩ := hR; omega
  have HC := indexFunc_any b b5 f (some ⟨g, 0, none⟩) n cap t w hM h5 (hR.rd hgl) hn hnc hm hf
  have HR := hide hR
  have Hn := hide hn
  have HM := hide hM
  have H5 := hide h5
  have HW := hide hf
  clear hR hn hM h5 hf
  rcases first_or f t with ha | ⟨k, x, hx, hxf, hk⟩
  · have HC1 := hide (Calls.mono HC (R' := fun e w' => e = .returned (.int .i64 (-1)) ∧ Below w.heap.size w w') (by
      rintro e w' ⟨h, hb⟩
      refine ⟨?_, hb⟩
      rcases h with ⟨h, _⟩ | ⟨k, x, _, h1, h2, _⟩
      · exact h
      · exact (ha k x h1 h2).elim))
    have HA := hide (KI.all ha)
    clear HC ha
    go_enter Try.func18, Try.ntmps18
    go_wp2_with (go_at_call 26; refine HC1.out.mono ?_; rintro e w1 ⟨rfl, hb1⟩; have HB1 := hide hb1; clear hb1)
    go_ret
    exact ⟨by rw [HA.out, Hn.out]; rfl, fun R hr => by rw [HA.out]; exact (HR.out.below HB1.out hgl).rdr hr, HB1.out.mono (Nat.le_of_lt hgl)⟩
  · have HC1 := hide (Calls.mono HC (R' := fun e w' => e = .returned (.int .i64 (k : Int)) ∧ Below w.heap.size w w') (by
      rintro e w' ⟨h, hb⟩
      refine ⟨?_, hb⟩
      rcases h with ⟨_, h⟩ | ⟨k', x', h, h1, h2, h3⟩
      · exact (h k x hx hxf).elim
      · rcases Nat.lt_trichotomy k k' with h' | rfl | h'
        · exact (h3 k x h' hx hxf).elim
        · exact h
        · exact (hk k' x' h' h1 h2).elim))
    have HK := hide (KI.start hx hxf hk)
    have hkn : k < n := by have := (List.getElem?_eq_some_iff.1 hx).1; have := Hn.out; omega
    have hne : ((k : Int) == -1) = false := beq_eq_false_iff_ne.2 (by omega)
    have e1 : IntKind.i64.wrap ((k : Int) + 1) = ((k + 1 : Nat) : Int) := by rw [IntKind.wrap_i64]; omega
    clear HC hx hxf hk
    go_enter Try.func18, Try.ntmps18
    go_upto_region 5 with (go_at_call 26; refine HC1.out.mono ?_; rintro e w1 ⟨rfl, hb1⟩; have HB1 := hide (hb1.mono (Nat.le_of_lt hgl)); have HR1 := hide (HR.out.below hb1 hgl); clear hb1)
    go_loopw [5, 6, 7] (fun s5 s6 _ wr => ∃ (i j : Nat) (l : List Hit), s5 = .int .i64 i ∧ s6 = .int .i64 j ∧ j ≤ n ∧ i < j ∧ Hid (KI f t j i l) ∧ Hid (RowG wr g cap l) ∧ Hid (Below g w wr)) (fun _ j _ _ => n - (intOf j).toNat)
    case atStart => exact ⟨k, k + 1, t, rfl, by first | rfl | exact i64_eq e1, by omega, by omega, HK, HR1, HB1⟩
    case round =>
      obtain ⟨i, j, l, rfl, rfl, hj, hij, HI, HRw, HBl⟩ := hrel
      have hgl' := HRw.out.lt
      have hln : l.length = n := by have := HI.out.1; have := Hn.out; omega
      by_cases hlt : j < n
      · obtain ⟨⟨x1, x2⟩, hv⟩ : ∃ v, l[j]? = some v := ⟨_, List.getElem?_eq_getElem (by omega)⟩
        obtain ⟨⟨y1, y2⟩, hu⟩ : ∃ v, l[i]? = some v := ⟨_, List.getElem?_eq_getElem (by omega)⟩
        have q0 : wr.cell? ⟨g, j * 2, none⟩ = some (.int .u64 x1) := HRw.out.cell (hcs_at hv).1
        have q1 : wr.cell? ⟨g, j * 2 + 1, none⟩ = some (.int .u64 x2) := HRw.out.cell (hcs_at hv).2
        have HV := hide (show t[j]? = some (x1, x2) by rw [← HI.out.2.2.2.2 j (Nat.le_refl _)]; exact hv)
        have HU := hide hu
        have g0 : (0 : Int) ≤ j := by omega
        have g1 : (j : Int) < n := by omega
        have g2 : (0 : Int) ≤ i := by omega
        have g3 : (i : Int) < n := by omega
        have HB1' := hide (HBl.out.trans ((below1 wr (.cells #[.int .u64 x1, .int .u64 x2] 36)).mono (Nat.le_of_lt hgl')))
        have HN := hide (Blk.new wr 36 #[.int .u64 x1, .int .u64 x2])
        have HR2 := hide (HRw.out.below (below1 wr (.cells #[.int .u64 x1, .int .u64 x2] 36)) hgl')
        clear hv hu
        go_upto_region 8 with fail
        generalize wr.alloc (.cells #[.int .u64 x1, .int .u64 x2] 36) = w2 at *
        have hgl2 := HR2.out.lt
        have z0 : w2.cell? ⟨wr.heap.size, 0, none⟩ = some (.int .u64 x1) := HN.out.cell 0
        have z1 : w2.cell? ⟨wr.heap.size, 1, none⟩ = some (.int .u64 x2) := HN.out.cell 1
        generalize wr.heap.size = bx at *
        have HC := hide (missing1_any x1 x2 b b5 f w2 (HM.out.below HB1'.out hb) (H5.out.below HB1'.out hb5) (HW.out _ (List.mem_of_getElem? HV.out)))
        by_cases e : (x1, x2) ∈ f
        · have HE := hide (HI.out.skip HV.out e)
          rw [decide_eq_true e] at HC
          clear e
          go_wp2_with (go_at_call 20; refine HC.out.mono ?_; rintro e w6 ⟨rfl, hb6⟩; have HB6 := hide (HB1'.out.trans (hb6.mono (Nat.le_of_lt hgl2))); have HR6 := hide (HR2.out.below hb6 hgl2); clear hb6)
          go_roundw
          case rel => exact ⟨i, j + 1, l, rfl, by go_num, by omega, by omega, HE, HR6, HB6⟩
          case measure => simp [intOf]; omega
        · have HE := hide (HI.out.keep HV.out e)
          rw [decide_eq_false e] at HC
          clear e
          go_wp2_with (go_at_call 20; refine HC.out.mono ?_; rintro e w6 ⟨rfl, hb6⟩; have HB6 := hide (HB1'.out.trans (hb6.mono (Nat.le_of_lt hgl2))); have HR6 := hide (HR2.out.below hb6 hgl2); have c0 : w6.cell? ⟨bx, 0, none⟩ = some (.int .u64 x1) := (HN.out.below hb6 HN.out.lt).cell 0; have c1 : w6.cell? ⟨bx, 1, none⟩ = some (.int .u64 x2) := (HN.out.below hb6 HN.out.lt).cell 1; have d0 : w6.cell? ⟨g, i * 2, none⟩ = some (.int .u64 y1) := HR6.out.cell (hcs_at HU.out).1; have d1 : w6.cell? ⟨g, i * 2 + 1, none⟩ = some (.int .u64 y2) := HR6.out.cell (hcs_at HU.out).2; have f0 : w6.frozen? ⟨g, i * 2, none⟩ = false := HR6.out.frozen _; have f1 : w6.frozen? ⟨g, i * 2 + 1, none⟩ = false := HR6.out.frozen _; clear hb6 z0 z1 q0 q1)
          go_roundw
          case rel => exact ⟨i + 1, j + 1, l.set i (x1, x2), by go_num, by go_num, by omega, by omega, HE, hide (HR6.out.set (x1, x2) (by omega)), hide ((HB6.out.setCell (Nat.le_refl _) _).setCell (Nat.le_refl _) _)⟩
          case measure => simp [intOf]; omega
      · obtain rfl : j = n := by omega
        have hil : i < l.length := by omega
        obtain ⟨w7, hw7, h7, hb7⟩ := HRw.out.clear hil 0 (cap - i)
        have HL := hide (show missR f t = l.take i by rw [HI.out.2.2.2.1, List.take_of_length_le (by have := Hn.out; omega)])
        have hi' : (i : Int) ≤ j := by omega
        rw [hln] at hw7
        have H7 := hide h7
        have HB7 := hide (HBl.out.trans hb7)
        clear h7 hb7
        go_wp2
        go_ret
        exact ⟨by rw [HL.out, List.length_take, Nat.min_eq_left (Nat.le_of_lt hil)]; rfl, fun R hr => by rw [HL.out]; exact H7.out R hr, HB7.out⟩
end Go.Proofs.Ytggbokgacffamab
