/-
  The reference's tables: Take, where it is tried. Conditions: the lists read as said.
-/
import Derived.Test.YtknljldmjicfgaaLckJ
namespace Go.Proofs.Ytknljldmjicfgaa
open Go.RowKit

/-- the loop over what a worker holds is under way -/
structure TL (w wr : World) (R : Nat → Prop) (AH AW : Option Addr) (cH cW : Nat) (s : Tab) (b : Bool) (A : Option Addr) (L : List Int) : Prop where
  kt : KT w wr R (.slice AH s.h.length cH) (.slice AW s.ws.length cW) (.bool b) (.slice none 0 0) (.slice none 0 0) (.bool false) ⟨s.h, s.ws, b⟩
  rd : RdR (Sh.int .i64) wr (fun d => w.heap.size + 2 ≤ d ∧ d < wr.heap.size) A L
theorem TL.set {w wr : World} {R : Nat → Prop} {AH AW : Option Addr} {cH cW : Nat} {s : Tab} {b : Bool} {A : Option Addr} {L : List Int} (h : TL w wr R AH AW cH cW s b A L) (b' : Bool) : TL w (wr.setCell ⟨w.heap.size, 2, none⟩ (.bool b')) R AH AW cH cW s b' A L :=
  ⟨h.kt.set2 (s' := ⟨s.h, s.ws, b'⟩) (h.kt.ref.br b') h.kt.hD, (h.rd.keepBlocks fun k hk => Below.heap_setCell _ _ _ _ (by have := hk.1; simp only; omega)).more fun d hd => by simpa using hd⟩
set_option maxHeartbeats 4000000 in
theorem refTake_yes {w : World} {s : Tab} {v : Value} {R : Nat → Prop} (h : RefT w R s v) (hR : ∀ d, R d → d < w.heap.size) (hsz : s.h.length ≤ 100000 ∧ s.ws.length ≤ 100000) (x n : Int) (hi : ¬ outL x n) (hne : lookF s.h n ≠ some x) :
    Calls Try.prog 9 #[v, .int .i64 x, .int .i64 n] w (RefGivesT w R (takeR s x n)) := by
  obtain ⟨AH, cH, AW, cW, rfl⟩ := h.parts
  obtain ⟨⟨g1, g2, g3⟩, g4, g5, g6⟩ := h.both
  obtain ⟨s1, s2⟩ := hsz
  have HK := hide (KT.start h hR)
  have HR := hide hR
  have HH := hide (fun W (hW : KT w W R (.slice AH s.h.length cH) (.slice AW s.ws.length cW) (.bool s.br) (.slice none 0 0) (.slice none 0 0) (.bool false) s) => refHolder_any hW.call n)
  have HHd := hide (fun W (hW : KT w W R (.slice AH s.h.length cH) (.slice AW s.ws.length cW) (.bool s.br) (.slice none 0 0) (.slice none 0 0) (.bool false) s) => refHeld_any hW.call x)
  obtain ⟨r, hr⟩ : ∃ r, takeR s x n = r := ⟨_, rfl⟩
  rw [hr]
  have hbr : brR s x n = (s.br || (heldF s.h x).any fun m => decide (n ≤ m)) := rfl
  unfold takeR at hr
  rw [if_neg (by rintro (h | h); exact hi h; exact hne h)] at hr
  have HB := hide hbr
  have hin : 0 ≤ x ∧ x ≤ 64 ∧ 0 ≤ n ∧ n ≤ 4096 := by unfold outL at hi; omega
  obtain ⟨i1, i2, i3, i4⟩ := hin
  generalize heldF s.h x = L at HHd HB
  clear h hR g3 g6 hbr hi
  rcases ho : lookF s.h n with _ | y
  · simp only [ho, Option.isSome_none, Bool.false_eq_true, if_false] at hr
    simp only [ho, Option.isSome_none, Option.getD_none] at HH
    have HRS := hide hr
    clear hr ho hne
    go_enter Try.func9, Try.ntmps9
    go_wp2_with (first
      | (go_at_call 12; refine (HH.out _ HK.out).mono ?_; rintro e w1 ⟨rfl, hb⟩; have HK1 := hide (HK.out.step hb); obtain ⟨z0, z1, z2⟩ := HK1.out.cells; clear hb)
      | (go_at_call 20; refine (HHd.out _ HK1.out).mono ?_; rintro e w2 ⟨vL, rfl, hN⟩; obtain ⟨A, q, c, rfl, hl, hc, hm, hr, hb⟩ := hN; have HT := hide (show TL w w2 R AH AW cH cW s s.br A L from ⟨HK1.out.step hb, hr.more fun d hd => ⟨by have := HK1.out.q.lt; have := hd.1; omega, hd.2⟩⟩); have Hl := hide hl; clear hl hr hb z0 z1 z2))
    go_loopw [45, 11] (fun i _ wr => ∃ j : Nat, j ≤ q ∧ i = .int .i64 j ∧ Hid (TL w wr R AH AW cH cW s (s.br || (L.take j).any fun m => decide (n ≤ m)) A L)) (fun i _ _ => q - (intOf i).toNat)
    case atStart => exact ⟨0, by omega, rfl, by simpa using HT⟩
    case round =>
      obtain ⟨j, hj, rfl, HL⟩ := hrel
      by_cases hlt : j < q
      · obtain ⟨ad, m, rfl, hbk, hv, q0⟩ := HL.out.rd.cell (k := j) (by have := Hl.out; omega)
        have g0 : (0 : Int) ≤ j := by omega
        have g1 : (j : Int) < q := by omega
        have ht : L.take (j + 1) = L.take j ++ [m] := by rw [List.take_add_one, hv]; rfl
        have hany : (s.br || (L.take (j + 1)).any fun m => decide (n ≤ m)) = ((s.br || (L.take j).any fun m => decide (n ≤ m)) || decide (n ≤ m)) := by rw [ht, List.any_append, Bool.or_assoc]; simp
        have HA := hide hany
        obtain ⟨z0, z1, z2⟩ := HL.out.kt.cells
        have f2 := HL.out.kt.frozen 2
        clear hany ht hv hbk
        obtain ⟨bj, hbj⟩ : ∃ bj, (s.br || (L.take j).any fun m => decide (n ≤ m)) = bj := ⟨_, rfl⟩
        rw [hbj] at HL HA z2
        clear hbj
        rcases bj with _ | _
        · by_cases hlm : n ≤ m
          · have HS := hide (HL.out.set true)
            have HA2 : Hid ((s.br || (L.take (j + 1)).any fun m => decide (n ≤ m)) = true) := hide (by rw [HA.out, decide_eq_true hlm]; rfl)
            go_wp2
            go_roundw
            case rel => exact ⟨j + 1, by omega, by go_num, by rw [HA2.out]; exact HS⟩
            case measure => simp [intOf]; omega
          · have HS := hide (HL.out.set false)
            have HA2 : Hid ((s.br || (L.take (j + 1)).any fun m => decide (n ≤ m)) = false) := hide (by rw [HA.out, decide_eq_false hlm]; rfl)
            have hlm2 : m < n := by omega
            have b1 : decide (n ≤ m) = false := decide_eq_false hlm
            clear hlm
            go_wp2
            go_roundw
            case rel => exact ⟨j + 1, by omega, by go_num, by rw [HA2.out]; exact HS⟩
            case measure => simp [intOf]; omega
        · have HS := hide (HL.out.set true)
          have HA2 : Hid ((s.br || (L.take (j + 1)).any fun m => decide (n ≤ m)) = true) := hide (by rw [HA.out, Bool.true_or])
          go_wp2
          go_roundw
          case rel => exact ⟨j + 1, by omega, by go_num, by rw [HA2.out]; exact HS⟩
          case measure => simp [intOf]; omega
      · rw [List.take_of_length_le (by have := Hl.out; omega), ← HB.out] at HL
        obtain rfl : j = q := by omega
        have HKT := hide HL.out.kt
        clear HL HT
        obtain ⟨z0, z1, z2⟩ := HKT.out.cells
        go_upto_region 10 with (go_at_call 21; refine (rest_own AW s.ws.length cW s.ws x HKT.out.call.both.2.2.2 rfl g4 g5 (by omega)).mono ?_; rintro e w4 ⟨v4, rfl, ho4, hb4⟩; have HW := hide (KW.start (s := ⟨s.h, s.ws, brR s x n⟩) (m := dropF s.ws x) HKT.out hb4 ho4); have f1 := (HKT.out.step hb4).frozen 1; obtain ⟨x0, x1, x2⟩ := (HKT.out.step hb4).cells; obtain ⟨A4, c4, rfl, k1, k2⟩ := own_form ho4; clear ho4 hb4)
        have Hdl := hide (show (dropF s.ws x).length ≤ 100000 from Nat.le_trans (List.length_filter_le _ _) s2)
        generalize World.setCell w4 ⟨w.heap.size, 1, none⟩ (.slice A4 (dropF s.ws x).length c4) = w5 at HW ⊢
        clear z0 z1 z2 x0 x1 x2 f1
        obtain ⟨z0, z1, z2⟩ := HW.out.cells
        have HK5 := hide (KW.table (s := ⟨s.h, s.ws, brR s x n⟩) (m := dropF s.ws x) (R := R) HW.out (fun d hd => .inl hd) (fun d hd => hd) rfl k1 k2)
        have hsz5 := HK5.out.q.lt
        have HO0 := hide (World.ownsRow_lit (base := w.heap.size + 2) (e := 48) (size := 2) w5 #[] 0 hsz5 (by decide) rfl)
        have HK6 := hide (HK5.out.step (below1 w5 (.cells #[] 48)))
        obtain ⟨i0, hi0, hz0, hz1, hz2⟩ := info_parts info_pair
        have Hi0 := hide hi0
        have Hz0 := hide hz0
        have Hz1 := hide hz1
        have Hz2 := hide hz2
        clear hi0 hz0 hz1 hz2
        have HRd := hide (flatP.reads (fun d hd => hd) HK6.out.call.both.1.2.2 rfl)
        have f0 := HK5.out.frozen 0
        have hl5 : w.heap.size < w5.heap.size := by omega
        go_upto_region 14 with (first
          | (at_builtin; refine wpList_append_any _ rfl _ _ 26 rfl (w.heap.size + 2) 48 i0 _ 2 16 Try.underlying26 Hi0.out Hz0.out Hz1.out Hz2.out rfl (by decide) (.slice (some ⟨w5.heap.size, 0, none⟩) 0 0) 0 _ rfl HO0.out _ AH s.h.length cH (fcs encP s.h) rfl HRd.out (flatP.ones s.h) (by simp only [maxLen]; omega) (by omega) (by simp; omega) ?_; intro v7 w7 hown7 hgr7 hat7; have HK7 := hide (HK6.out.grow HO0.out (fun d hd e => by have := (HK5.out.hD d hd).1; simp [Value.ownBlock] at e; omega) hgr7); have HA7 := hide (show ∀ d, GrowK R w w5 d → v7.ownBlock ≠ some d from fun d hd e => by have := (HK5.out.hD d hd).1; rcases hat7 with h | h <;> rw [h] at e <;> simp [Value.ownBlock] at e <;> omega); rw [Nat.zero_add, List.nil_append] at hown7; obtain ⟨A7, c7, rfl, k3, k4⟩ := own_form hown7; have HO7 := hide hown7; have HQ7 := hide HK7.out.q.lt; clear hown7 hgr7 hat7)
          | (at_builtin; refine wpList_append_elemG rfl _ _ 26 rfl (w.heap.size + 2) Try.underlying26 info_pair rfl (by decide) (.slice A7 s.h.length c7) s.h.length _ rfl HO7.out w7.heap.size rfl _ _ rfl rfl (by simp [Value.oneCell']) (by simp only [maxLen]; omega) (by omega) HQ7.out ?_; intro v8 w8 hown8 hgr8 hat8; have HK8 := hide (HK7.out.grow HO7.out HA7.out hgr8); have HO8 := hide hown8; obtain ⟨A8, c8, rfl, k5, k6⟩ := own_form hown8; have f8 := HK8.out.frozen 0; obtain ⟨x8, _, _⟩ := HK8.out.cells; clear hown8 hgr8 hat8))
        have HK9 := hide (HK8.out.set0 (D' := GrowK R w w8) (s' := ⟨s.h ++ [(n, x)], dropF s.ws x, brR s x n⟩) (HK8.out.ref.mkH (m := s.h ++ [(n, x)]) (fun d hd => by
            rcases hd with hd | hd
            · exact .inl hd
            · exact .inr ⟨hd.1, (HK8.out.hD d (.inr hd)).1⟩) ((flatP.own (l := s.h ++ [(n, x)]) (by rw [fcs_append]; exact HO8.out)).more fun d hd => .inr hd) (by simp) k5 k6) (fun d hd => by
          rcases hd with hd | hd
          · exact HK8.out.hD d (.inl hd)
          · exact ⟨hd.2, by have := hd.1; omega, by have := hd.1; omega⟩))
        generalize World.setCell w8 ⟨w.heap.size, 0, none⟩ (.slice A8 (s.h.length + 1) c8) = w9 at HK9 ⊢
        clear z0 z1 z2 f0 f8 x8
        obtain ⟨z0, z1, z2⟩ := HK9.out.cells
        obtain ⟨y0, y1, y2⟩ := HK9.out.cellsQ
        have f0 := HK9.out.frozenQ 0
        have f1 := HK9.out.frozenQ 1
        have f2 := HK9.out.frozenQ 2
        go_wp2
        obtain ⟨q, rr, hb⟩ := HK9.out.done
        have q0 := q.cell 0
        have q1 := q.cell 1
        have q2 := q.cell 2
        simp at q0 q1 q2
        refine bodyPost_ret (v := .tuple #[.agg #[.slice A8 (s.h.length + 1) c8, .slice A4 (dropF s.ws x).length c4, .bool (brR s x n)], .bool true]) (by simp [results, Try.results9, go_sem, q0, q1, q2]) rfl ?_
        have hr := HRS.out
        subst hr
        exact ⟨_, rfl, rr.more fun d hd => by
          rcases hd with hd | hd
          · exact .inl hd
          · exact .inr ⟨by have := hd.1; omega, by have := (HK9.out.hD d (.inr ⟨hd.1, by have := hd.2; first | exact this | (have h2 := (HK9.out.hD d (.inr hd)).1; omega)⟩)).1; simpa using this⟩, hb⟩
  · simp only [ho, Option.isSome_some, if_true] at hr
    simp only [ho, Option.isSome_some, Option.getD_some] at HH
    have e1 : (y == x) = false := by
      rw [ho] at hne
      simpa using hne
    have HRS := hide hr
    clear hr ho hne
    go_enter Try.func9, Try.ntmps9
    go_wp2_with (first
      | (go_at_call 12; refine (HH.out _ HK.out).mono ?_; rintro e w1 ⟨rfl, hb⟩; have HK1 := hide (HK.out.step hb); obtain ⟨z0, z1, z2⟩ := HK1.out.cells; clear hb)
      | (go_at_call 20; refine (HHd.out _ HK1.out).mono ?_; rintro e w2 ⟨vL, rfl, hN⟩; obtain ⟨A, q, c, rfl, hl, hc, hm, hr, hb⟩ := hN; have HT := hide (show TL w w2 R AH AW cH cW s s.br A L from ⟨HK1.out.step hb, hr.more fun d hd => ⟨by have := HK1.out.q.lt; have := hd.1; omega, hd.2⟩⟩); have Hl := hide hl; clear hl hr hb z0 z1 z2))
    go_loopw [45, 11] (fun i _ wr => ∃ j : Nat, j ≤ q ∧ i = .int .i64 j ∧ Hid (TL w wr R AH AW cH cW s (s.br || (L.take j).any fun m => decide (n ≤ m)) A L)) (fun i _ _ => q - (intOf i).toNat)
    case atStart => exact ⟨0, by omega, rfl, by simpa using HT⟩
    case round =>
      obtain ⟨j, hj, rfl, HL⟩ := hrel
      by_cases hlt : j < q
      · obtain ⟨ad, m, rfl, hbk, hv, q0⟩ := HL.out.rd.cell (k := j) (by have := Hl.out; omega)
        have g0 : (0 : Int) ≤ j := by omega
        have g1 : (j : Int) < q := by omega
        have ht : L.take (j + 1) = L.take j ++ [m] := by rw [List.take_add_one, hv]; rfl
        have hany : (s.br || (L.take (j + 1)).any fun m => decide (n ≤ m)) = ((s.br || (L.take j).any fun m => decide (n ≤ m)) || decide (n ≤ m)) := by rw [ht, List.any_append, Bool.or_assoc]; simp
        have HA := hide hany
        obtain ⟨z0, z1, z2⟩ := HL.out.kt.cells
        have f2 := HL.out.kt.frozen 2
        clear hany ht hv hbk
        obtain ⟨bj, hbj⟩ : ∃ bj, (s.br || (L.take j).any fun m => decide (n ≤ m)) = bj := ⟨_, rfl⟩
        rw [hbj] at HL HA z2
        clear hbj
        rcases bj with _ | _
        · by_cases hlm : n ≤ m
          · have HS := hide (HL.out.set true)
            have HA2 : Hid ((s.br || (L.take (j + 1)).any fun m => decide (n ≤ m)) = true) := hide (by rw [HA.out, decide_eq_true hlm]; rfl)
            go_wp2
            go_roundw
            case rel => exact ⟨j + 1, by omega, by go_num, by rw [HA2.out]; exact HS⟩
            case measure => simp [intOf]; omega
          · have HS := hide (HL.out.set false)
            have HA2 : Hid ((s.br || (L.take (j + 1)).any fun m => decide (n ≤ m)) = false) := hide (by rw [HA.out, decide_eq_false hlm]; rfl)
            have hlm2 : m < n := by omega
            have b1 : decide (n ≤ m) = false := decide_eq_false hlm
            clear hlm
            go_wp2
            go_roundw
            case rel => exact ⟨j + 1, by omega, by go_num, by rw [HA2.out]; exact HS⟩
            case measure => simp [intOf]; omega
        · have HS := hide (HL.out.set true)
          have HA2 : Hid ((s.br || (L.take (j + 1)).any fun m => decide (n ≤ m)) = true) := hide (by rw [HA.out, Bool.true_or])
          go_wp2
          go_roundw
          case rel => exact ⟨j + 1, by omega, by go_num, by rw [HA2.out]; exact HS⟩
          case measure => simp [intOf]; omega
      · rw [List.take_of_length_le (by have := Hl.out; omega), ← HB.out] at HL
        obtain rfl : j = q := by omega
        have HKT := hide HL.out.kt
        clear HL HT
        obtain ⟨z0, z1, z2⟩ := HKT.out.cells
        go_upto_region 10 with (go_at_call 21; refine (rest_own AW s.ws.length cW s.ws x HKT.out.call.both.2.2.2 rfl g4 g5 (by omega)).mono ?_; rintro e w4 ⟨v4, rfl, ho4, hb4⟩; have HW := hide (KW.start (s := ⟨s.h, s.ws, brR s x n⟩) (m := dropF s.ws x) HKT.out hb4 ho4); have f1 := (HKT.out.step hb4).frozen 1; obtain ⟨x0, x1, x2⟩ := (HKT.out.step hb4).cells; obtain ⟨A4, c4, rfl, k1, k2⟩ := own_form ho4; clear ho4 hb4)
        have Hdl := hide (show (dropF s.ws x).length ≤ 100000 from Nat.le_trans (List.length_filter_le _ _) s2)
        generalize World.setCell w4 ⟨w.heap.size, 1, none⟩ (.slice A4 (dropF s.ws x).length c4) = w5 at HW ⊢
        clear z0 z1 z2 x0 x1 x2 f1
        obtain ⟨z0, z1, z2⟩ := HW.out.cells
        have f1 := HW.out.p.frozen 1
        have HQ := hide HW.out.q.lt
        go_upto_region 12 with (at_builtin; refine wpList_append_elemG rfl _ _ 26 rfl (w.heap.size + 2) Try.underlying26 info_pair rfl (by decide) (.slice A4 (dropF s.ws x).length c4) (dropF s.ws x).length _ rfl HW.out.own w5.heap.size rfl _ _ rfl rfl (by simp [Value.oneCell']) (by have := Hdl.out; simp only [maxLen]; omega) (by have := Hdl.out; omega) HQ.out ?_; intro v' w6 hown6 hgr6 hat6; have HW6 := hide (HW.out.app (p := (x, n)) hown6 hgr6 hat6 (by omega)); have hp6 := HW.out.p.grown hgr6 (fun e1 => by have := (HW.out.own.lt _ e1.symm).1; omega); have f6 := hp6.frozen 1; have x6 : w6.cell? ⟨w.heap.size, 1, none⟩ = some (.slice A4 (dropF s.ws x).length c4) := (by rw [hp6.cell]; rfl); obtain ⟨A6, c6, rfl, k3, k4⟩ := own_form hown6; clear hown6 hgr6 hat6 hp6)
        generalize World.setCell w6 ⟨w.heap.size, 1, none⟩ (.slice A6 ((dropF s.ws x).length + 1) c6) = w7 at HW6 ⊢
        have HK7 := hide (KW.table (s := ⟨s.h, s.ws, brR s x n⟩) (m := dropF s.ws x ++ [(x, n)]) (R := R) HW6.out (fun d hd => .inl hd) (fun d hd => hd) (by rw [List.length_append]; rfl) k3 k4)
        clear z0 z1 z2 f1 f6 x6
        obtain ⟨z0, z1, z2⟩ := HK7.out.cells
        obtain ⟨y0, y1, y2⟩ := HK7.out.cellsQ
        have f0 := HK7.out.frozenQ 0
        have f1 := HK7.out.frozenQ 1
        have f2 := HK7.out.frozenQ 2
        go_wp2
        obtain ⟨q, rr, hb⟩ := HK7.out.done
        have q0 := q.cell 0
        have q1 := q.cell 1
        have q2 := q.cell 2
        simp at q0 q1 q2
        refine bodyPost_ret (v := .tuple #[.agg #[.slice AH s.h.length cH, .slice A6 ((dropF s.ws x).length + 1) c6, .bool (brR s x n)], .bool false]) (by simp [results, Try.results9, go_sem, q0, q1, q2]) rfl ?_
        have hr := HRS.out
        subst hr
        exact ⟨_, rfl, rr.more fun d hd => by
          rcases hd with hd | hd
          · exact .inl hd
          · exact .inr ⟨by have := hd.1; omega, by have := (HK7.out.hD d (.inr ⟨hd.1, by have := hd.2; first | exact this | (have h2 := (HK7.out.hD d (.inr hd)).1; omega)⟩)).1; simpa using this⟩, hb⟩
theorem refTake_any {w : World} {s : Tab} {v : Value} {R : Nat → Prop} (h : RefT w R s v) (hR : ∀ d, R d → d < w.heap.size) (hsz : s.h.length ≤ 100000 ∧ s.ws.length ≤ 100000) (x n : Int) :
    Calls Try.prog 9 #[v, .int .i64 x, .int .i64 n] w (RefGivesT w R (takeR s x n)) := by
  by_cases hno : outL x n ∨ lookF s.h n = some x
  · have e : takeR s x n = (s, false) := by unfold takeR; rw [if_pos hno]
    rw [e]
    exact refTake_no h hR x n hno
  · exact refTake_yes h hR hsz x n (fun hi => hno (.inl hi)) (fun hn => hno (.inr hn))
end Go.Proofs.Ytknljldmjicfgaa
