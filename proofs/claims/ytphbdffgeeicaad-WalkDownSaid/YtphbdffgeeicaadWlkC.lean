/-
  The package plane: slices.IndexFunc, slices.DeleteFunc with Near's closure. Conditions: the row is the call's own.
-/
import Derived.Test.YtphbdffgeeicaadWlkB
namespace Go.Proofs.Ytphbdffgeeicaad
set_option linter.unusedSimpArgs false
set_option linter.unusedVariables false
open Go.RowKit

/-- what DeleteFunc's loop keeps -/
def KW (ns : List NodeP) (t : List Int) (j i : Nat) (l : List Int) : Prop := l.length = t.length ∧ i < j ∧ j ≤ t.length ∧ l.take i = kept ns t j ∧ ∀ k, j ≤ k → l[k]? = t[k]?
theorem KW.start {ns : List NodeP} {x : Int} {t : List Int} {k : Nat} (hx : t[k]? = some x) (hz : stayF ns t k x = false) (ha : kept ns t k = t.take k) : KW ns t (k + 1) k t := by
  have hk := (List.getElem?_eq_some_iff.1 hx).1
  exact ⟨rfl, by omega, by omega, by rw [kept_succ hx, if_neg (by rw [hz]; simp), List.append_nil, ha], fun _ _ => rfl⟩
theorem KW.skip {ns : List NodeP} {x : Int} {t : List Int} {j i : Nat} {l : List Int} (h : KW ns t j i l) (hx : t[j]? = some x) (hz : stayF ns t j x = false) : KW ns t (j + 1) i l := by
  have hk := (List.getElem?_eq_some_iff.1 hx).1
  obtain ⟨h1, h2, h3, h4, h5⟩ := h
  exact ⟨h1, by omega, by omega, by rw [kept_succ hx, if_neg (by rw [hz]; simp), List.append_nil]; exact h4, fun k hk => h5 k (by omega)⟩
theorem KW.keep {ns : List NodeP} {y : Int} {t : List Int} {j i : Nat} {l : List Int} (h : KW ns t j i l) (hy : t[j]? = some y) (e : stayF ns t j y = true) : KW ns t (j + 1) (i + 1) (l.set i y) := by
  have hk := (List.getElem?_eq_some_iff.1 hy).1
  obtain ⟨h1, h2, h3, h4, h5⟩ := h
  refine ⟨by simpa using h1, by omega, by omega, ?_, fun k hk => ?_⟩
  · rw [kept_succ hy, if_pos e, ← h4, take_snocW (x := y) (by rw [List.getElem?_set, if_pos rfl, if_pos (by omega)])]
    rw [List.take_set, List.set_eq_of_length_le (by rw [List.length_take]; omega)]
  · rw [List.getElem?_set, if_neg (by omega)]; exact h5 k (by omega)
section
variable {w W : World} {b3 b9 M g : Nat} {cs : Array Value} {N : Option Addr} {ns : List NodeP} {nn cN n cap : Nat} {en top : Int} {t : List Int}
/-- while IndexFunc looks: all so far stay -/
structure IxW (w : World) (b3 b9 M : Nat) (cs : Array Value) (N : Option Addr) (ns : List NodeP) (g n cap : Nat) (t : List Int) (j : Nat) (W : World) : Prop where
  nr : ∃ m, NrW w b3 b9 M cs N ns m W ∧ CntM m (t.take j)
  row : RowN W w.heap.size g n cap t
  all : kept ns t j = t.take j
/-- the closure at the j-th -/
theorem near1_at (h : ∃ m, NrW w b3 b9 M cs N ns m W ∧ CntM m (t.take n)) (hcs : cs = #[.slice N nn cN, .int .i64 en, .int .i64 top]) (hn : ns.length = nn) {x : Int} (hx : t[n]? = some x) (hw : (Lit.int .i64 x).wf = true) (ht : t.length ≤ 1000) {b : Bool} (hb : stayF ns t n x = b) :
    Calls Try.prog 17 #[.int .i64 x, .pointer (some ⟨b9, 0, none⟩), .pointer (some ⟨b3, 0, none⟩)] W fun e w' => e = .returned (.bool (!b)) ∧ (∃ m, NrW w b3 b9 M cs N ns m w' ∧ CntM m (t.take (n + 1))) ∧ ∃ M', (∃ m, MapA .i64 (Value.int .i64) W M' m) ∧ TurnMp W w' M' := by
  obtain ⟨m, h1, h2⟩ := h
  refine (near1_any h1 hcs hn hw h2 (by rw [List.length_take]; omega)).mono ?_
  rintro e w' ⟨rfl, h3, h4⟩
  exact ⟨by rw [← hb]; rfl, ⟨_, h3, by rw [take_snocW hx]; exact h2.next x⟩, M, ⟨m, h1.mp⟩, h4⟩
theorem RowN.turnE {W' : World} {base : Nat} {l : List Int} (hR : RowN W base g n cap l) (h : ∃ M', (∃ m, MapA .i64 (Value.int .i64) W M' m) ∧ TurnMp W W' M') : RowN W' base g n cap l := by
  obtain ⟨M', ⟨m, hm⟩, ht⟩ := h
  exact hR.turn ht hm
set_option maxHeartbeats 4000000 in
theorem indexNear_any (hI : IxW w b3 b9 M cs N ns g n cap t 0 W) (hcs : cs = #[.slice N nn cN, .int .i64 en, .int .i64 top]) (hn : ns.length = nn) (hw : ∀ x ∈ t, (Lit.int .i64 x).wf = true) (ht : t.length ≤ 1000) (hm : cap ≤ 9223372036854775807) (hc : n ≤ cap) :
    Calls Try.prog 22 #[.slice (some ⟨g, 0, none⟩) n cap, .func (.func 17) #[] #[.pointer (some ⟨b9, 0, none⟩), .pointer (some ⟨b3, 0, none⟩)]] W fun e w' =>
      (e = .returned (.int .i64 (-1)) ∧ kept ns t n = t ∧ RowN w' w.heap.size g n cap t ∧ Below w.heap.size w w') ∨ ∃ (k : Nat) (x : Int), e = .returned (.int .i64 (k : Int)) ∧ t[k]? = some x ∧ stayF ns t k x = false ∧ kept ns t k = t.take k ∧ RowN w' w.heap.size g n cap t ∧ ∃ m, NrW w b3 b9 M cs N ns m w' ∧ CntM m (t.take (k + 1)) := by
  have HI := hide hI
  have HW := hide hw
  have Hl := hide hI.row.len
  have CC := hide (fun (W' : World) (j : Nat) (x : Int) (b : Bool) h hx hw hb => near1_at (W := W') (w := w) (b3 := b3) (b9 := b9) (M := M) (cs := cs) (N := N) (ns := ns) (nn := nn) (cN := cN) (en := en) (top := top) (t := t) (n := j) h hcs hn (x := x) hx hw ht (b := b) hb)
  clear hI hw hcs
  go_enter Try.func22, Try.ntmps22
  go_wp2
  go_loopw [5, 8] (fun _ i wr => ∃ j : Nat, j ≤ n ∧ i = .int .i64 j ∧ Hid (IxW w b3 b9 M cs N ns g n cap t j wr)) (fun _ i _ => n - (intOf i).toNat)
  case atStart => exact ⟨0, by omega, rfl, HI⟩
  case round =>
    obtain ⟨j, hj, rfl, HJ⟩ := hrel
    clear HI
    by_cases hlt : j < n
    · obtain ⟨y, hv⟩ : ∃ v, t[j]? = some v := ⟨_, List.getElem?_eq_getElem (by have := Hl.out; omega)⟩
      have q0 : wr.cell? ⟨g, j, none⟩ = some (.int .i64 y) := HJ.out.row.cell hv
      have g0 : (0 : Int) ≤ j := by omega
      have g1 : (j : Int) < n := by omega
      have HV := hide hv
      have HWy := hide (HW.out y (List.mem_of_getElem? hv))
      clear hv
      rcases e : stayF ns t j y with _ | _
      · have C1 := hide (CC.out wr j y false HJ.out.nr HV.out HWy.out e)
        have HE := hide e
        clear e
        go_wp2_with (go_at_call 17; refine C1.out.mono ?_; rintro e w2 ⟨rfl, hnr, htu⟩; have HN := hide hnr; have HR := hide (HJ.out.row.turnE htu); clear hnr htu)
        go_ret
        exact .inr ⟨j, y, rfl, HV.out, HE.out, HJ.out.all, HR.out, HN.out⟩
      · have C1 := hide (CC.out wr j y true HJ.out.nr HV.out HWy.out e)
        have HE := hide e
        clear e
        go_wp2_with (go_at_call 17; refine C1.out.mono ?_; rintro e w2 ⟨rfl, hnr, htu⟩; have HN := hide (show IxW w b3 b9 M cs N ns g n cap t (j + 1) w2 from ⟨hnr, HJ.out.row.turnE htu, by rw [kept_succ HV.out, if_pos HE.out, HJ.out.all, take_snocW HV.out]⟩); clear hnr htu)
        go_roundw
        case rel => exact ⟨j + 1, by omega, by go_num, HN⟩
        case measure => simp [intOf]; omega
    · obtain rfl : n = j := by omega
      go_wp2
      go_ret
      exact .inl ⟨rfl, by have h := HJ.out.all; rwa [List.take_of_length_le (by have := Hl.out; omega)] at h, HJ.out.row, by obtain ⟨m, h1, _⟩ := HJ.out.nr; exact h1.bel⟩
set_option maxHeartbeats 8000000 in
theorem deleteNear_any (hI : IxW w b3 b9 M cs N ns g n cap t 0 W) (hcs : cs = #[.slice N nn cN, .int .i64 en, .int .i64 top]) (hn : ns.length = nn) (hw : ∀ x ∈ t, (Lit.int .i64 x).wf = true) (ht : t.length ≤ 1000) (hm : cap ≤ 9223372036854775807) (hc : n ≤ cap) :
    Calls Try.prog 16 #[.slice (some ⟨g, 0, none⟩) n cap, .func (.func 17) #[] #[.pointer (some ⟨b9, 0, none⟩), .pointer (some ⟨b3, 0, none⟩)]] W fun e w' =>
      e = .returned (.slice (some ⟨g, 0, none⟩) (kept ns t n).length cap) ∧ RowN w' w.heap.size g (kept ns t n).length cap (kept ns t n) ∧ Below w.heap.size w w' := by
  have HC := hide (indexNear_any hI hcs hn hw ht hm hc)
  have Hl := hide hI.row.len
  have HW := hide hw
  have CC := hide (fun (W' : World) (j : Nat) (x : Int) (b : Bool) h hx hw hb => near1_at (W := W') (w := w) (b3 := b3) (b9 := b9) (M := M) (cs := cs) (N := N) (ns := ns) (nn := nn) (cN := cN) (en := en) (top := top) (t := t) (n := j) h hcs hn (x := x) hx hw ht (b := b) hb)
  clear hI hw hcs
  go_enter Try.func16, Try.ntmps16
  go_wp2_with fail
  refine HC.out.mono ?_
  rintro e w1 (⟨rfl, hk, hR, hb⟩ | ⟨k, x, rfl, hx, hz, hk, hR, hnr⟩)
  · have HK := hide hk
    have HR := hide hR
    have HB := hide hb
    clear hk hR hb HC CC
    go_wp2
    go_ret
    have hle : t.length = n := Hl.out
    exact ⟨by rw [HK.out, hle]; rfl, by rw [HK.out, hle]; exact HR.out, HB.out⟩
  · have HK := hide (KW.start hx hz hk)
    have hkn : k < n := by have := (List.getElem?_eq_some_iff.1 hx).1; have := Hl.out; omega
    have hne : ((k : Int) == -1) = false := beq_eq_false_iff_ne.2 (by omega)
    have HR := hide hR
    have HN := hide hnr
    clear hx hz hk hR hnr HC
    go_upto_region 5 with fail
    go_loopw [5, 6, 7] (fun s5 s6 _ wr => ∃ (i j : Nat) (l : List Int), s5 = .int .i64 i ∧ s6 = .int .i64 j ∧ j ≤ n ∧ i < j ∧ Hid (KW ns t j i l) ∧ Hid (RowN wr w.heap.size g n cap l) ∧ Hid (∃ m, NrW w b3 b9 M cs N ns m wr ∧ CntM m (t.take j))) (fun _ j _ _ => n - (intOf j).toNat)
    case atStart => exact ⟨k, k + 1, t, rfl, by first | rfl | go_num, by omega, by omega, HK, HR, HN⟩
    case round =>
      obtain ⟨i, j, l, rfl, rfl, hj, hij, HI, HRw, HNw⟩ := hrel
      clear HR HN HK
      have hln : l.length = n := HRw.out.len
      by_cases hlt : j < n
      · obtain ⟨y, hv⟩ : ∃ v, l[j]? = some v := ⟨_, List.getElem?_eq_getElem (by omega)⟩
        obtain ⟨z, hu⟩ : ∃ v, l[i]? = some v := ⟨_, List.getElem?_eq_getElem (by omega)⟩
        have q0 : wr.cell? ⟨g, j, none⟩ = some (.int .i64 y) := HRw.out.cell hv
        have HV := hide (show t[j]? = some y by rw [← HI.out.2.2.2.2 j (Nat.le_refl _)]; exact hv)
        have HU := hide hu
        have HWy := hide (HW.out y (List.mem_of_getElem? HV.out))
        have g0 : (0 : Int) ≤ j := by omega
        have g1 : (j : Int) < n := by omega
        have g2 : (0 : Int) ≤ i := by omega
        have g3 : (i : Int) < n := by omega
        clear hv hu hln
        rcases e : stayF ns t j y with _ | _
        · have C1 := hide (CC.out wr j y false HNw.out HV.out HWy.out e)
          have HE := hide (HI.out.skip HV.out e)
          clear e
          go_wp2_with (go_at_call 17; refine C1.out.mono ?_; rintro e w2 ⟨rfl, hnr, htu⟩; have HN := hide hnr; have HR := hide (HRw.out.turnE htu); clear hnr htu)
          go_roundw
          case rel => exact ⟨i, j + 1, l, rfl, by go_num, by omega, by omega, HE, HR, HN⟩
          case measure => simp [intOf]; omega
        · have C1 := hide (CC.out wr j y true HNw.out HV.out HWy.out e)
          have HE := hide (HI.out.keep HV.out e)
          clear e
          go_wp2_with (go_at_call 17; refine C1.out.mono ?_; rintro e w2 ⟨rfl, hnr, htu⟩; have HN := hide hnr; have HR := hide (HRw.out.turnE htu); have d0 : w2.cell? ⟨g, i, none⟩ = some (.int .i64 z) := HR.out.cell HU.out; have f0 := HR.out.frozen i; clear hnr htu)
          go_roundw
          case rel => exact ⟨i + 1, j + 1, l.set i y, by go_num, by go_num, by omega, by omega, HE, hide (HR.out.set y), hide (by obtain ⟨m, h1, h2⟩ := HN.out; exact ⟨m, h1.set HR.out i _, h2⟩)⟩
          case measure => simp [intOf]; omega
      · obtain rfl : n = j := by omega
        obtain ⟨w7, hw7, h7, hb7⟩ := HRw.out.clearN hij 0 (cap - i)
        have HL := hide (show kept ns t n = l.take i from HI.out.2.2.2.1.symm)
        have hi' : (i : Int) ≤ n := by omega
        have H7 := hide h7
        have HB7 := hide (show Below w.heap.size w w7 from by
          obtain ⟨m, h1, h2⟩ := HNw.out
          obtain ⟨h0, _⟩ := HRw.out.blk
          exact h1.bel.trans (hb7.mono h0))
        have Hln := hide hln
        clear h7 hb7 hln
        go_wp2
        go_ret
        have hli : (kept ns t n).length = i := by rw [HL.out, List.length_take, Hln.out, Nat.min_eq_left (Nat.le_of_lt hij)]
        exact ⟨by rw [hli]; rfl, by rw [hli, HL.out]; exact H7.out, HB7.out⟩
end
end Go.Proofs.Ytphbdffgeeicaad
