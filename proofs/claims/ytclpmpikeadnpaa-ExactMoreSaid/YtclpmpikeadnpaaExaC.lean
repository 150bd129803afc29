/-
  The package exact: Search, Within, Place, and the reference's. Conditions: the slices read as a list of items, and as a vector; at most some hundred thousand items.
-/
import Derived.Test.YtclpmpikeadnpaaExaB
import Derived.Test.YtclpmpikeadnpaaRnkG
namespace Go.Proofs.Ytclpmpikeadnpaa
open Go.RowKit

theorem near_step {most : Int} {h : List Hit} {i : Nat} {x : Hit} (hx : h[i]? = some x) (e : x.1 ≤ most) (hi : nearM most h = h.take i ++ nearM most (h.drop i)) : nearM most h = h.take (i + 1) ++ nearM most (h.drop (i + 1)) := by
  obtain ⟨h1, h2⟩ := List.getElem?_eq_some_iff.1 hx
  rw [hi, take_snoc hx, List.drop_eq_getElem_cons h1, h2]
  unfold nearM
  rw [List.takeWhile_cons_of_pos (by simpa using e), List.append_assoc]; rfl
theorem near_stop {most : Int} {h : List Hit} {i : Nat} {x : Hit} (hx : h[i]? = some x) (e : ¬ x.1 ≤ most) (hi : nearM most h = h.take i ++ nearM most (h.drop i)) : nearM most h = h.take i := by
  obtain ⟨h1, h2⟩ := List.getElem?_eq_some_iff.1 hx
  rw [hi, List.drop_eq_getElem_cons h1, h2]
  unfold nearM
  rw [List.takeWhile_cons_of_neg (by simpa using e), List.append_nil]
theorem near_end {most : Int} {h : List Hit} (hi : nearM most h = h.take h.length ++ nearM most (h.drop h.length)) : nearM most h = h := by
  rw [hi]; simp [nearM]
theorem filt_snoc {h : List Hit} {p : Hit → Bool} {i : Nat} {x : Hit} (hx : h[i]? = some x) : (h.take (i + 1)).filter p = (h.take i).filter p ++ if p x = true then [x] else [] := by
  rw [take_snoc hx, List.filter_append]
  by_cases e : p x = true
  · rw [if_pos e, List.filter_cons_of_pos e]; rfl
  · rw [if_neg e, List.filter_cons_of_neg e]; rfl
theorem place_snoc {h : List Hit} {g : Hit} {i : Nat} {x : Hit} (hx : h[i]? = some x) : placeM g (h.take (i + 1)) = placeM g (h.take i) + if hitLt x g = true then 1 else 0 := by
  unfold placeM
  rw [take_snoc hx, List.countP_append, List.countP_singleton]
set_option maxHeartbeats 2000000 in
theorem search_any (A B : Option Addr) (n c m d : Nat) (l : List ItemP) (q : List Int) (mask : Int) (k : Int) (w : World) (hx : Rd SItem w w.heap.size A l) (hn : l.length = n) (hxi : ItsI l) (hc : n ≤ c) (hm : c ≤ 9223372036854775807)
    (hy : Rd (Sh.int .i32) w w.heap.size B q) (hn' : q.length = m) (hyi : I32 q) (hd : m ≤ d) (hm' : d ≤ 9223372036854775807) (h6 : n ≤ 400000) :
    Calls Try.prog 8 #[.slice A n c, .slice B m d, .int .u64 mask, .int .i64 k] w fun e w' => ∃ v, e = .returned v ∧ NewL SH w ((hitsM q mask l).take (lstN k (hitsM q mask l).length)) v w' := by
  have H1 := hide (hits_any A B n c m d l q mask w hx hn hxi hc hm hy hn' hyi hd hm' h6)
  clear hx hy hn hn' hxi hyi
  go_enter Try.func8, Try.ntmps8
  go_wp2_with fail
  refine H1.out.mono ?_
  rintro e w1 ⟨v, rfl, hN⟩
  generalize hh : hitsM q mask l = h at *
  have HH := hide hh
  clear hh
  obtain ⟨A', n', c', rfl, q1, q2, q3, q4, q5⟩ := hN
  have Hl := hide q1
  have HN : ∀ m, m = lstN k n' → Hid (NewL SH w (h.take (lstN k n')) (.slice A' m c') w1) := fun m e => hide (by
    have := lstN_le k n'
    exact ⟨A', m, c', rfl, by rw [List.length_take, q1, e]; omega, by omega, q3, q4.take _, q5⟩)
  have HN' := hide HN
  clear q1 q4 q5 HN H1
  go_wp2
  all_goals go_ret
  all_goals rw [HH.out, Hl.out]
  all_goals exact ⟨_, rfl, (HN'.out _ (by unfold lstN; omega)).out⟩
set_option maxHeartbeats 2000000 in
theorem refSearch_any (A B : Option Addr) (n c m d : Nat) (l : List ItemP) (q : List Int) (mask : Int) (hk : 0 ≤ mask ∧ mask ≤ 18446744073709551615) (k : Int) (w : World) (hx : Rd SItem w w.heap.size A l) (hn : l.length = n) (hxi : ItsI l) (hc : n ≤ c) (hm : c ≤ 9223372036854775807)
    (hy : Rd (Sh.int .i32) w w.heap.size B q) (hn' : q.length = m) (hyi : I32 q) (hd : m ≤ d) (hm' : d ≤ 9223372036854775807) (h6 : n ≤ 400000) :
    Calls Try.prog 9 #[.slice A n c, .slice B m d, .int .u64 mask, .int .i64 k] w fun e w' => ∃ v, e = .returned v ∧ NewL SH w ((hitsM q mask l).take (lstN k (hitsM q mask l).length)) v w' := by
  have H1 := hide (refHits_any A B n c m d l q mask hk w hx hn hxi hc hm hy hn' hyi hd hm' h6)
  clear hx hy hn hn' hxi hyi
  go_enter Try.func9, Try.ntmps9
  go_wp2_with fail
  refine H1.out.mono ?_
  rintro e w1 ⟨v, rfl, hN⟩
  generalize hh : hitsM q mask l = h at *
  have HH := hide hh
  clear hh
  obtain ⟨A', n', c', rfl, q1, q2, q3, q4, q5⟩ := hN
  have Hl := hide q1
  have HN : ∀ m, m = lstN k n' → Hid (NewL SH w (h.take (lstN k n')) (.slice A' m c') w1) := fun m e => hide (by
    have := lstN_le k n'
    exact ⟨A', m, c', rfl, by rw [List.length_take, q1, e]; omega, by omega, q3, q4.take _, q5⟩)
  have HN' := hide HN
  clear q1 q4 q5 HN H1
  go_wp2
  all_goals go_ret
  all_goals rw [HH.out, Hl.out]
  all_goals exact ⟨_, rfl, (HN'.out _ (by unfold lstN; omega)).out⟩
set_option maxHeartbeats 2000000 in
theorem within_any (A B : Option Addr) (n c m d : Nat) (l : List ItemP) (q : List Int) (mask : Int) (most : Int) (w : World) (hx : Rd SItem w w.heap.size A l) (hn : l.length = n) (hxi : ItsI l) (hc : n ≤ c) (hm : c ≤ 9223372036854775807)
    (hy : Rd (Sh.int .i32) w w.heap.size B q) (hn' : q.length = m) (hyi : I32 q) (hd : m ≤ d) (hm' : d ≤ 9223372036854775807) (h6 : n ≤ 400000) :
    Calls Try.prog 10 #[.slice A n c, .slice B m d, .int .u64 mask, .int .u64 most] w fun e w' => ∃ v, e = .returned v ∧ NewL SH w (nearM most (hitsM q mask l)) v w' := by
  have H1 := hide (hits_any A B n c m d l q mask w hx hn hxi hc hm hy hn' hyi hd hm' h6)
  have hle := hitsM_le q mask l
  rw [hn] at hle
  clear hx hy hn hn' hxi hyi
  go_enter Try.func10, Try.ntmps10
  go_wp2_with fail
  refine H1.out.mono ?_
  rintro e w1 ⟨v, rfl, hN⟩
  generalize hh : hitsM q mask l = h at *
  have HH := hide hh
  clear hh
  obtain ⟨A', n', c', rfl, q1, q2, q3, q4, q5⟩ := hN
  have HR := hide q4
  have HB := hide q5
  have Hl := hide q1
  rw [q1] at hle
  clear q1 q4 q5 H1
  go_wp2
  go_loopw [10] (fun i wr => ∃ j : Nat, j ≤ n' ∧ i = .int .i64 j ∧ Hid (nearM most h = h.take j ++ nearM most (h.drop j)) ∧ wr = w1) (fun i _ => n' - (intOf i).toNat)
  case atStart => exact ⟨0, by omega, rfl, hide (by simp), rfl⟩
  case round =>
    obtain ⟨j, hj, rfl, HI, rfl⟩ := hrel
    have HF : ∀ v, nearM most h = h.take j → v = Value.slice A' j c' → Hid (NewL SH w (nearM most h) v wr) := fun v e1 e2 => hide ⟨A', j, c', e2, by rw [e1, List.length_take, Hl.out]; omega, by omega, q3, by rw [e1]; exact HR.out.take j, HB.out⟩
    by_cases hlt : j < n'
    · obtain ⟨ad, ⟨x1, x2⟩, rfl, _, hx, c0, c1⟩ := HR.out.hcell (k := j) (by have := Hl.out; omega)
      simp only at c0 c1
      have g0 : (0 : Int) ≤ j := by omega
      have g1 : (j : Int) < n' := by omega
      by_cases e : x1 ≤ most
      · have HS := hide (near_step hx e HI.out)
        have e' : decide (x1 ≤ most) = true := decide_eq_true e
        clear hx HF
        go_wp2
        go_roundw
        case rel => exact ⟨j + 1, by omega, by go_num, HS, by first | exact rfl | trivial⟩
        case measure => simp [intOf]; omega
      · have HS := hide (HF _ (near_stop hx e HI.out) rfl)
        have e' : decide (x1 ≤ most) = false := decide_eq_false e
        have e2 : most < x1 := by omega
        clear hx HF e
        go_wp2
        go_ret
        rw [HH.out]
        exact ⟨_, rfl, HS.out.out⟩
    · obtain rfl : j = n' := by omega
      have HS := hide (HF _ (by have h1 := HI.out; rw [← Hl.out] at h1; rw [near_end h1, List.take_of_length_le (by have := Hl.out; omega)]) rfl)
      clear HF
      go_wp2
      go_ret
      rw [HH.out]
      exact ⟨_, rfl, HS.out.out⟩
set_option maxHeartbeats 2000000 in
theorem refWithin_any (A B : Option Addr) (n c m d : Nat) (l : List ItemP) (q : List Int) (mask : Int) (hk : 0 ≤ mask ∧ mask ≤ 18446744073709551615) (most : Int) (w : World) (hx : Rd SItem w w.heap.size A l) (hn : l.length = n) (hxi : ItsI l) (hc : n ≤ c) (hm : c ≤ 9223372036854775807)
    (hy : Rd (Sh.int .i32) w w.heap.size B q) (hn' : q.length = m) (hyi : I32 q) (hd : m ≤ d) (hm' : d ≤ 9223372036854775807) (h6 : n ≤ 400000) :
    Calls Try.prog 11 #[.slice A n c, .slice B m d, .int .u64 mask, .int .u64 most] w fun e w' => ∃ v, e = .returned v ∧ NewL SH w (nearM most (hitsM q mask l)) v w' := by
  have H1 := hide (refHits_any A B n c m d l q mask hk w hx hn hxi hc hm hy hn' hyi hd hm' h6)
  have HF := hide (near_filter (most := most) (srt_pw swoH (cntM q mask l)))
  rw [show srt hitLt (cntM q mask l) = hitsM q mask l from rfl] at HF
  have hle := hitsM_le q mask l
  rw [hn] at hle
  clear hx hy hn hn' hxi hyi
  go_enter Try.func11, Try.ntmps11
  go_wp2_with fail
  refine H1.out.mono ?_
  rintro e w1 ⟨v, rfl, hN⟩
  generalize hh : hitsM q mask l = h at *
  have HH := hide hh
  clear hh
  obtain ⟨A', n', c', rfl, q1, q2, q3, q4, q5⟩ := hN
  have HR := hide q4
  have HB0 := hide q5
  have Hl := hide q1
  rw [q1] at hle
  clear q1 q4 q5 H1
  go_upto_region 3 with fail
  go_loopw [9, 11, 17] (fun v _ i wr => ∃ j : Nat, j ≤ n' ∧ i = .int .i64 j ∧ Hid (wr.ownsRow w1.heap.size 26 2 v ((h.take j).filter fun x => decide (x.1 ≤ most)).length (fcs encH ((h.take j).filter fun x => decide (x.1 ≤ most)))) ∧ Hid (Below w1.heap.size w1 wr)) (fun _ _ i _ => n' - (intOf i).toNat)
  case atStart => exact ⟨0, by omega, rfl, hide ⟨rfl, .inl ⟨rfl, rfl⟩⟩, hide (Below.refl _ _)⟩
  case round =>
    obtain ⟨j, hj, rfl, HO, HB⟩ := hrel
    by_cases hlt : j < n'
    · obtain ⟨ad, ⟨x1, x2⟩, rfl, _, hx, c0, c1⟩ := (RdR.below HR.out HB.out fun b hb => hb.2).hcell (k := j) (by have := Hl.out; omega)
      simp only at c0 c1
      have g0 : (0 : Int) ≤ j := by omega
      have g1 : (j : Int) < n' := by omega
      have HSn := hide (filt_snoc (p := fun x => decide (x.1 ≤ most)) hx)
      have Hle := hide (show ((h.take j).filter fun x => decide (x.1 ≤ most)).length ≤ j by have := List.length_filter_le (fun x => decide (x.1 ≤ most)) (h.take j); rw [List.length_take] at this; omega)
      have HN := hide (Blk.new wr 26 #[.int .u64 x1, .int .u64 x2])
      have HB1 := hide (HB.out.alloc HB.out.size (.cells #[.int .u64 x1, .int .u64 x2] 26))
      have HO1 := hide (own_keep (w' := wr.alloc (.cells #[.int .u64 x1, .int .u64 x2] 26)) HO.out fun g hg => (below1 wr _).block g (HO.out.lt g hg).2)
      clear hx
      go_upto_region 5 with fail
      clear c0 c1
      generalize wr.alloc (.cells #[.int .u64 x1, .int .u64 x2] 26) = w5 at *
      have z0 : w5.cell? ⟨wr.heap.size, 0, none⟩ = some (.int .u64 x1) := HN.out.cell 0
      have z1 : w5.cell? ⟨wr.heap.size, 1, none⟩ = some (.int .u64 x2) := HN.out.cell 1
      generalize wr.heap.size = bx at *
      by_cases e : x1 ≤ most
      · have e' : decide (x1 ≤ most) = true := decide_eq_true e
        rw [if_pos e'] at HSn
        generalize hfl : (h.take j).filter (fun x => decide (x.1 ≤ most)) = fl at *
        have Hfl := hide hfl
        clear hfl
        go_wp2_with (at_builtin; refine wpList_append_elem rfl _ _ 30 rfl w1.heap.size Try.underlying30 info_hitE rfl (by decide) _ fl.length _ rfl HO1.out _ _ rfl rfl (by simp [Value.oneCell']) (by simp only [maxLen]; have := Hle.out; omega) (by have := Hle.out; omega) HB1.out.size ?_; intro v' w9 hown9 hgr9 _; have HO9 := hide hown9; have HB9 := hide (below_own HB1.out HO1.out HB1.out.size hgr9); clear hown9 hgr9)
        go_roundw
        case rel => exact ⟨j + 1, by omega, by go_num, hide (by rw [HSn.out, fcs_snoc, List.length_append]; exact HO9.out), HB9⟩
        case measure => simp [intOf]; omega
      · have e' : decide (x1 ≤ most) = false := decide_eq_false e
        rw [if_neg (by simpa using e), List.append_nil] at HSn
        have e2 : most < x1 := by omega
        clear e
        go_wp2
        go_roundw
        case rel => exact ⟨j + 1, by omega, by go_num, hide (by rw [HSn.out]; exact HO1.out), HB1⟩
        case measure => simp [intOf]; omega
    · obtain rfl : j = n' := by omega
      have hO := HO.out
      rw [List.take_of_length_le (by have := Hl.out; omega), HF.out] at hO
      have HNw := hide (flatH.new hO HB.out)
      clear HO hO
      go_wp2
      go_ret
      rw [HH.out]
      obtain ⟨A9, n9, c9, e1, e2, e3, e4, e5, e6⟩ := HNw.out
      exact ⟨_, rfl, A9, n9, c9, e1, e2, e3, e4, RdR.more e5 fun b hb => ⟨Nat.le_trans HB0.out.size hb.1, hb.2⟩, HB0.out.trans (e6.mono HB0.out.size)⟩
set_option maxHeartbeats 2000000 in
theorem place13_any (A B : Option Addr) (n c m d : Nat) (l : List ItemP) (q : List Int) (mask : Int) (y1 y2 : Int) (w : World) (hx : Rd SItem w w.heap.size A l) (hn : l.length = n) (hxi : ItsI l) (hc : n ≤ c) (hm : c ≤ 9223372036854775807)
    (hy : Rd (Sh.int .i32) w w.heap.size B q) (hn' : q.length = m) (hyi : I32 q) (hd : m ≤ d) (hm' : d ≤ 9223372036854775807) (h6 : n ≤ 400000) :
    Calls Try.prog 12 #[.slice A n c, .slice B m d, .int .u64 mask, .agg #[.int .u64 y1, .int .u64 y2]] w fun e w' => e = .returned (.int .i64 (placeM (y1, y2) (hitsM q mask l) : Nat)) ∧ Below w.heap.size w w' := by
  have HG := hide (Blk.new w 26 #[.int .u64 y1, .int .u64 y2])
  have HBg := hide (below1 w (.cells #[.int .u64 y1, .int .u64 y2] 26))
  have HX := hide hx
  have HY := hide hy
  have Hn := hide hn
  have Hm := hide hn'
  have HXI := hide hxi
  have HYI := hide hyi
  have hle := hitsM_le q mask l
  rw [hn] at hle
  clear hx hy hn hn' hxi hyi
  go_enter Try.func12, Try.ntmps12
  go_upto_region 1 with fail
  generalize w.alloc (.cells #[.int .u64 y1, .int .u64 y2] 26) = w0 at *
  have H1 := hide (hits_any A B n c m d l q mask w0 (HX.out.step HBg.out) Hn.out HXI.out hc hm (HY.out.step HBg.out) Hm.out HYI.out hd hm' h6)
  go_wp2_with fail
  refine H1.out.mono ?_
  rintro e w1 ⟨v, rfl, hN⟩
  generalize hh : hitsM q mask l = h at *
  have HH := hide hh
  clear hh
  obtain ⟨A', n', c', rfl, q1, q2, q3, q4, q5⟩ := hN
  have HR := hide (q4.rd (B := w1.heap.size) fun b hb => hb.2)
  have HB0 := hide (Below.step HBg.out q5)
  have HG1 := hide (HG.out.below q5 HG.out.lt)
  have Hl := hide q1
  rw [q1] at hle
  clear q1 q4 q5 H1 HX HY
  go_upto_region 3 with fail
  go_loopw [9, 11, 17] (fun s _ i wr => ∃ j : Nat, j ≤ n' ∧ i = .int .i64 j ∧ s = .int .i64 (placeM (y1, y2) (h.take j) : Nat) ∧ Hid (Below w1.heap.size w1 wr)) (fun _ _ i _ => n' - (intOf i).toNat)
  case atStart => exact ⟨0, by omega, rfl, rfl, hide (Below.refl _ _)⟩
  case round =>
    obtain ⟨j, hj, rfl, rfl, HB⟩ := hrel
    by_cases hlt : j < n'
    · obtain ⟨ad, ⟨x1, x2⟩, rfl, _, hx, c0, c1⟩ := (HR.out.step HB.out).hcell (k := j) (by have := Hl.out; omega)
      simp only at c0 c1
      have g0 : (0 : Int) ≤ j := by omega
      have g1 : (j : Int) < n' := by omega
      have HSn := hide (place_snoc (g := (y1, y2)) hx)
      have hpl : placeM (y1, y2) (h.take j) ≤ j := by have := List.countP_le_length (p := fun x => hitLt x (y1, y2)) (l := h.take j); rw [List.length_take] at this; unfold placeM; omega
      have HN := hide (Blk.new wr 26 #[.int .u64 x1, .int .u64 x2])
      have HB1 := hide (Below.step HB.out (below1 wr (.cells #[.int .u64 x1, .int .u64 x2] 26)))
      clear hx
      go_upto_region 5 with fail
      clear c0 c1
      generalize wr.alloc (.cells #[.int .u64 x1, .int .u64 x2] 26) = w5 at *
      have z0 : w5.cell? ⟨wr.heap.size, 0, none⟩ = some (.int .u64 x1) := HN.out.cell 0
      have z1 : w5.cell? ⟨wr.heap.size, 1, none⟩ = some (.int .u64 x2) := HN.out.cell 1
      have y0 : w5.cell? ⟨w.heap.size, 0, none⟩ = some (.int .u64 y1) := (HG1.out.below HB1.out HG1.out.lt).cell 0
      have y1' : w5.cell? ⟨w.heap.size, 1, none⟩ = some (.int .u64 y2) := (HG1.out.below HB1.out HG1.out.lt).cell 1
      generalize wr.heap.size = bx at *
      generalize placeM (y1, y2) (h.take j) = pl at *
      have HC := hide (hit_any (x1, x2) (y1, y2) w5)
      cases e : hitLt (x1, x2) (y1, y2) with
      | true =>
        rw [e] at HC HSn
        rw [if_pos rfl] at HSn
        clear e
        go_wp2_with (go_at_call 15; refine HC.out.mono ?_; rintro e w6 ⟨rfl, hb⟩; have HB6 := hide (Below.step HB1.out hb); clear hb)
        go_roundw
        case rel => exact ⟨j + 1, by omega, by go_num, by rw [HSn.out]; go_num, HB6⟩
        case measure => simp [intOf]; omega
      | false =>
        rw [e] at HC HSn
        rw [if_neg (by simp), Nat.add_zero] at HSn
        clear e
        go_wp2_with (go_at_call 15; refine HC.out.mono ?_; rintro e w6 ⟨rfl, hb⟩; have HB6 := hide (Below.step HB1.out hb); clear hb)
        go_roundw
        case rel => exact ⟨j + 1, by omega, by go_num, by rw [HSn.out]; rfl, HB6⟩
        case measure => simp [intOf]; omega
    · obtain rfl : j = n' := by omega
      have HF := hide (show h.take j = h from List.take_of_length_le (by have := Hl.out; omega))
      rw [HF.out]
      go_wp2
      go_ret
      exact ⟨by rw [HH.out]; rfl, Below.step HB0.out HB.out⟩
set_option maxHeartbeats 2000000 in
theorem refPlace13_any (A B : Option Addr) (n c m d : Nat) (l : List ItemP) (q : List Int) (mask : Int) (hk : 0 ≤ mask ∧ mask ≤ 18446744073709551615) (y1 y2 : Int) (w : World) (hx : Rd SItem w w.heap.size A l) (hn : l.length = n) (hxi : ItsI l) (hc : n ≤ c) (hm : c ≤ 9223372036854775807)
    (hy : Rd (Sh.int .i32) w w.heap.size B q) (hn' : q.length = m) (hyi : I32 q) (hd : m ≤ d) (hm' : d ≤ 9223372036854775807) (h6 : n ≤ 400000) :
    Calls Try.prog 13 #[.slice A n c, .slice B m d, .int .u64 mask, .agg #[.int .u64 y1, .int .u64 y2]] w fun e w' => e = .returned (.int .i64 (placeM (y1, y2) (hitsM q mask l) : Nat)) ∧ Below w.heap.size w w' := by
  have HG := hide (Blk.new w 26 #[.int .u64 y1, .int .u64 y2])
  have HBg := hide (below1 w (.cells #[.int .u64 y1, .int .u64 y2] 26))
  have HX := hide hx
  have HY := hide hy
  have Hn := hide hn
  have Hm := hide hn'
  have HXI := hide hxi
  have HYI := hide hyi
  have hle := hitsM_le q mask l
  rw [hn] at hle
  clear hx hy hn hn' hxi hyi
  go_enter Try.func13, Try.ntmps13
  go_upto_region 1 with fail
  generalize w.alloc (.cells #[.int .u64 y1, .int .u64 y2] 26) = w0 at *
  have H1 := hide (refHits_any A B n c m d l q mask hk w0 (HX.out.step HBg.out) Hn.out HXI.out hc hm (HY.out.step HBg.out) Hm.out HYI.out hd hm' h6)
  go_wp2_with fail
  refine H1.out.mono ?_
  rintro e w1 ⟨v, rfl, hN⟩
  generalize hh : hitsM q mask l = h at *
  have HH := hide hh
  clear hh
  obtain ⟨A', n', c', rfl, q1, q2, q3, q4, q5⟩ := hN
  have HR := hide (q4.rd (B := w1.heap.size) fun b hb => hb.2)
  have HB0 := hide (Below.step HBg.out q5)
  have HG1 := hide (HG.out.below q5 HG.out.lt)
  have Hl := hide q1
  rw [q1] at hle
  clear q1 q4 q5 H1 HX HY
  go_upto_region 3 with fail
  go_loopw [9, 11, 17] (fun s _ i wr => ∃ j : Nat, j ≤ n' ∧ i = .int .i64 j ∧ s = .int .i64 (placeM (y1, y2) (h.take j) : Nat) ∧ Hid (Below w1.heap.size w1 wr)) (fun _ _ i _ => n' - (intOf i).toNat)
  case atStart => exact ⟨0, by omega, rfl, rfl, hide (Below.refl _ _)⟩
  case round =>
    obtain ⟨j, hj, rfl, rfl, HB⟩ := hrel
    by_cases hlt : j < n'
    · obtain ⟨ad, ⟨x1, x2⟩, rfl, _, hx, c0, c1⟩ := (HR.out.step HB.out).hcell (k := j) (by have := Hl.out; omega)
      simp only at c0 c1
      have g0 : (0 : Int) ≤ j := by omega
      have g1 : (j : Int) < n' := by omega
      have HSn := hide (place_snoc (g := (y1, y2)) hx)
      have hpl : placeM (y1, y2) (h.take j) ≤ j := by have := List.countP_le_length (p := fun x => hitLt x (y1, y2)) (l := h.take j); rw [List.length_take] at this; unfold placeM; omega
      have HN := hide (Blk.new wr 26 #[.int .u64 x1, .int .u64 x2])
      have HB1 := hide (Below.step HB.out (below1 wr (.cells #[.int .u64 x1, .int .u64 x2] 26)))
      clear hx
      go_upto_region 5 with fail
      clear c0 c1
      generalize wr.alloc (.cells #[.int .u64 x1, .int .u64 x2] 26) = w5 at *
      have z0 : w5.cell? ⟨wr.heap.size, 0, none⟩ = some (.int .u64 x1) := HN.out.cell 0
      have z1 : w5.cell? ⟨wr.heap.size, 1, none⟩ = some (.int .u64 x2) := HN.out.cell 1
      have y0 : w5.cell? ⟨w.heap.size, 0, none⟩ = some (.int .u64 y1) := (HG1.out.below HB1.out HG1.out.lt).cell 0
      have y1' : w5.cell? ⟨w.heap.size, 1, none⟩ = some (.int .u64 y2) := (HG1.out.below HB1.out HG1.out.lt).cell 1
      generalize wr.heap.size = bx at *
      generalize placeM (y1, y2) (h.take j) = pl at *
      have HC := hide (refHit_any (x1, x2) (y1, y2) w5)
      cases e : hitLt (x1, x2) (y1, y2) with
      | true =>
        rw [e] at HC HSn
        rw [if_pos rfl] at HSn
        clear e
        go_wp2_with (go_at_call 18; refine HC.out.mono ?_; rintro e w6 ⟨rfl, hb⟩; have HB6 := hide (Below.step HB1.out hb); clear hb)
        go_roundw
        case rel => exact ⟨j + 1, by omega, by go_num, by rw [HSn.out]; go_num, HB6⟩
        case measure => simp [intOf]; omega
      | false =>
        rw [e] at HC HSn
        rw [if_neg (by simp), Nat.add_zero] at HSn
        clear e
        go_wp2_with (go_at_call 18; refine HC.out.mono ?_; rintro e w6 ⟨rfl, hb⟩; have HB6 := hide (Below.step HB1.out hb); clear hb)
        go_roundw
        case rel => exact ⟨j + 1, by omega, by go_num, by rw [HSn.out]; rfl, HB6⟩
        case measure => simp [intOf]; omega
    · obtain rfl : j = n' := by omega
      have HF := hide (show h.take j = h from List.take_of_length_le (by have := Hl.out; omega))
      rw [HF.out]
      go_wp2
      go_ret
      exact ⟨by rw [HH.out]; rfl, Below.step HB0.out HB.out⟩
end Go.Proofs.Ytclpmpikeadnpaa
