/-
  RingNeverLost: the law's function. Condition: the words read as what came in.
-/
import Derived.Test.YtoadcfjkommlkacRiN
import Derived.Test.YtoadcfjkommlkacRiQ
namespace Go.Proofs.Ytoadcfjkommlkac
set_option linter.unusedSimpArgs false
set_option linter.unusedVariables false
open Go.RowKit

/-- what stands in memory -/
structure RN (w : World) (A : Option Addr) (ws : List Int) (A1 : Option Addr) (was : List Int) (A2 : Option Addr) (lo : List Int) (A3 : Option Addr) (ops : List OpV) (A4 : Option Addr) (rest : List Int) (W : World) : Prop where
  bel : Below w.heap.size w W
  x : Rd (Sh.int .u64) W W.heap.size A ws
  r1 : Rd (Sh.int .i64) W W.heap.size A1 was
  r2 : Rd (Sh.int .i64) W W.heap.size A2 lo
  o : Rd SOp W W.heap.size A3 ops
  r4 : Rd (Sh.int .i64) W W.heap.size A4 rest
theorem RN.step {w W W' : World} {A A1 A2 A3 A4 : Option Addr} {ws was lo rest : List Int} {ops : List OpV} (h : RN w A ws A1 was A2 lo A3 ops A4 rest W) (hb : Below W.heap.size W W') : RN w A ws A1 was A2 lo A3 ops A4 rest W' :=
  ⟨Below.step h.bel hb, h.x.at_world hb, h.r1.at_world hb, h.r2.at_world hb, h.o.at_world hb, h.r4.at_world hb⟩
theorem RN.from {w W1 W W' : World} {A A1 A2 A3 A4 : Option Addr} {ws was lo rest : List Int} {ops : List OpV} (h : RN w A ws A1 was A2 lo A3 ops A4 rest W) (hb : Below W.heap.size W W') : RN w A ws A1 was A2 lo A3 ops A4 rest W' := h.step hb
theorem out_lists {ws : List Int} {s : Int} (h : s < 1 ∨ (ws.length : Int) ≤ s) : joinW ws s = [] ∧ cutW ws s = [] ∧ lockW ws s = [] := by
  refine ⟨?_, ?_, ?_⟩
  · unfold joinW; rw [if_pos (by omega)]
  · unfold cutW
    rcases h with h | h
    · rw [if_pos (.inl h)]
    · rw [if_pos (.inr (.inl (by rw [atW_out (.inr h)]; decide)))]
  · unfold lockW; rw [if_pos h]
theorem mem_take_succ {l : List Int} {k : Nat} {x s : Int} (h : l[k]? = some x) : decide (s ∈ l.take (k + 1)) = (decide (s ∈ l.take k) || decide (x = s)) := by
  rw [take_snoc h]
  by_cases h1 : s ∈ l.take k
  · rw [decide_eq_true h1, decide_eq_true (List.mem_append_left _ h1)]; rfl
  · by_cases h2 : x = s
    · rw [decide_eq_true h2, decide_eq_true (by simp [h2])]; simp
    · rw [decide_eq_false h1, decide_eq_false h2, decide_eq_false (by simp [h1]; omega)]; rfl
def neF (s : Int) (l : List Int) : List Int := l.filter fun x => decide (x ≠ s)
theorem neF_succ {l : List Int} {k : Nat} {x s : Int} (h : l[k]? = some x) : neF s (l.take (k + 1)) = if x = s then neF s (l.take k) else neF s (l.take k) ++ [x] := by
  unfold neF
  rw [take_snoc h, List.filter_append]
  by_cases e : x = s
  · rw [if_pos e]; simp [e]
  · rw [if_neg e]; simp [e]
theorem neF_len (s : Int) (l : List Int) : (neF s l).length ≤ l.length := List.length_filter_le _ _
theorem lost_in {ws : List Int} {s : Int} (hc : checkW ws = 0) (hs : s ∈ listW ws) : Lost ws s (cutW ws s) (neF s (listW ws)) (neF s (listW ws)) := by
  have h := ring_of hc
  obtain ⟨l1, l2, e⟩ := List.append_of_mem hs
  rw [e] at h ⊢
  have hm : s ∉ l1 ++ l2 := (List.nodup_cons.1 (List.perm_middle.nodup_iff.1 h.nd)).1
  have hf : neF s (l1 ++ s :: l2) = l1 ++ l2 := by
    unfold neF
    rw [List.filter_append, List.filter_cons, if_neg (by simp), ← List.filter_append]
    exact filter_out hm
  rw [hf]
  exact h.cut
theorem lost_out {ws : List Int} {s : Int} (hc : checkW ws = 0) (hs : s ∉ listW ws) (h1 : 1 ≤ s) (h2 : s < ws.length) : Lost ws s (joinW ws s) (neF s (listW ws)) (s :: listW ws) := by
  rw [show neF s (listW ws) = listW ws from filter_out hs]
  exact (ring_of hc).join h1 h2 hs
theorem list_len (ws : List Int) (hc : checkW ws = 0) : (listW ws).length ≤ 4096 := by
  have h := ring_of hc
  exact nodup_bound 4096 _ h.nd fun x hx => by have := h.pos x hx; have := h.hi; omega
theorem runW_len (ws : List Int) : ∀ (k : Nat) (out : List Int) (a : Int), (runW ws k out a).length ≤ out.length + k := by
  intro k
  induction k with
  | zero => intro out a; unfold runW; omega
  | succ k ih =>
    intro out a
    by_cases h : 0 < a ∧ a ∉ out
    · rw [runW_go h]
      have := ih (out ++ [a]) (atW ws a).1
      simp at this
      omega
    · rw [runW_stop h]; omega
theorem listW_len (ws : List Int) : (listW ws).length ≤ 4097 := by have := runW_len ws 4097 [] (atW ws 0).1; simp at this; exact this
theorem rd_tail {w : World} {B : Nat} {A : Option Addr} {x : Int} {l : List Int} (h : Rd (Sh.int .i64) w B A (x :: l)) : ∃ ad, A = some ad ∧ w.cell? ad = some (.int .i64 x) ∧ Rd (Sh.int .i64) w B (some (ad.add 1)) l := by
  obtain ⟨ad, y, rfl, hb, hy, hc⟩ := h.icell (k := 0) (by simp)
  have e : y = x := by simpa using hy.symm
  subst e
  rw [add_zero'] at hc
  refine ⟨ad, rfl, hc, intR_mk hb fun k z hz => ?_⟩
  obtain ⟨ad2, y2, e2, _, hy2, hc2⟩ := h.icell (k := k + 1) (by have := (List.getElem?_eq_some_iff.1 hz).1; simp; omega)
  injection e2 with e2
  subst e2
  have e : y2 = z := by
    simp only [List.getElem?_cons_succ] at hy2
    rw [hz] at hy2
    injection hy2 with hy2
    exact hy2.symm
  subst e
  rw [← hc2]
  congr 1
  rw [Nat.add_comm k 1, ← add_of_add]

set_option maxHeartbeats 20000000 in
set_option maxRecDepth 100000 in
theorem never_any (A : Option Addr) (n c : Nat) (ws : List Int) (s : Int) (w : World) (hx : Rd (Sh.int .u64) w w.heap.size A ws) (hn : ws.length = n) (hu : ∀ x ∈ ws, U64 x) :
    Calls Try.prog 4 #[.slice A n c, .int .i64 s] w fun e w' => e = .returned (.bool true) ∧ Below w.heap.size w w' := by
  have HX0 := hide hx
  have Hn := hide hn
  have Hu := hide hu
  clear hx hn hu
  go_enter Try.func4, Try.ntmps4
  go_wp2_with fail
  refine (lives_any _).mono ?_
  rintro e w0 ⟨rfl, hb⟩
  have HB := hide hb
  have HX := hide (HX0.out.at_world hb)
  clear hb HX0
  by_cases hbig : (100 : Int) < n
  · have b0 : decide ((100 : Int) < n) = true := decide_eq_true hbig
    go_wp2
    go_ret
    exact ⟨rfl, HB.out⟩
  have b0 : decide ((100 : Int) < n) = false := decide_eq_false hbig
  have g0 : n ≤ 100 := by omega
  clear hbig
  go_wp2_with fail
  refine (check_any A n c ws _ HX.out Hn.out Hu.out).mono ?_
  rintro e w1 ⟨rfl, hb⟩
  have HB := hide (Below.step HB.out hb)
  have HX := hide (HX.out.at_world hb)
  clear hb
  by_cases hc : ¬ checkW ws = 0
  · have b1 : (checkW ws != 0) = true := by simp [hc]
    generalize checkW ws = z at *
    go_wp2
    go_ret
    exact ⟨rfl, HB.out⟩
  have hc := Classical.not_not.1 hc
  rw [hc]
  have Hc := hide hc
  clear hc
  go_wp2_with fail
  refine (qList HX.out Hn.out Hu.out).mono ?_
  rintro e w2 ⟨A1, n1, c1, rfl, p1, p2, p3, h1, hb⟩
  have HB := hide (Below.step HB.out hb)
  have HX := hide (HX.out.at_world hb)
  have H1 := hide h1
  have P1 := hide (And.intro p1 (And.intro p2 p3))
  clear hb h1 p1 p2 p3
  go_wp2_with fail
  refine (qLocks HX.out Hn.out Hu.out s rfl).mono ?_
  rintro e wl ⟨A2, n2, c2, rfl, p1, p2, p3, h2, hb⟩
  have HB := hide (Below.step HB.out hb)
  have HX := hide (HX.out.at_world hb)
  have H1 := hide (at_step H1.out hb)
  have H2 := hide h2
  have P2 := hide (And.intro p1 (And.intro p2 p3))
  clear hb h2 p1 p2 p3
  have g1 : n1 ≤ 4097 := by have := listW_len ws; have := P1.out.1; omega
  have g2 : n2 ≤ 9223372036854775807 := by have := P2.out; omega
  go_wp2
  go_loopw [41, 7] (fun i v wr => ∃ (j : Nat) (bq : Bool), j ≤ n1 ∧ i = .int .i64 j ∧ v = .bool bq ∧ Hid (bq = decide (s ∈ (listW ws).take j)) ∧ wr = wl) (fun i _ _ => n1 - (intOf i).toNat)
  case atStart => exact ⟨0, false, by omega, rfl, rfl, hide (by simp), rfl⟩
  case round =>
    obtain ⟨j, bq, hj, rfl, rfl, Hbq, rfl⟩ := hrel
    by_cases hjt : j < n1
    · obtain ⟨ad2, x, rfl, _, hx, hc⟩ := H1.out.icell (k := j) (by rw [P1.out.1]; exact hjt)
      have d8 : (0 : Int) ≤ j := by omega
      have d9 : (j : Int) < n1 := by omega
      have HS := hide (mem_take_succ (s := s) hx)
      rw [← Hbq.out] at HS
      clear hx Hbq
      cases bq
      · by_cases hq : x = s
        · have dq : (x == s) = true := by simp [hq]
          rw [decide_eq_true hq] at HS
          clear hq
          go_wp2
          go_roundw
          case rel => exact ⟨j + 1, true, by omega, by go_num, rfl, hide HS.out.symm, by trivial⟩
          case measure => simp [intOf]; omega
        · have dq : (x == s) = false := by simp [hq]
          rw [decide_eq_false hq] at HS
          clear hq
          go_wp2
          go_roundw
          case rel => exact ⟨j + 1, false, by omega, by go_num, rfl, hide HS.out.symm, by trivial⟩
          case measure => simp [intOf]; omega
      · go_wp2
        go_roundw
        case rel => exact ⟨j + 1, true, by omega, by go_num, rfl, hide HS.out.symm, by trivial⟩
        case measure => simp [intOf]; omega
    rw [List.take_of_length_le (by rw [P1.out.1]; omega)] at Hbq
    obtain rfl : n1 = j := by omega
    clear hj hjt
    cases bq
    · have Hin := hide (show s ∉ listW ws from fun h => by have := Hbq.out; rw [decide_eq_true h] at this; cases this)
      clear Hbq
      go_wp2_with fail
      refine (qJoins HX.out Hn.out Hu.out s rfl).mono ?_
      rintro e w3 ⟨A3, n3, c3, rfl, p1, p2, p3, h3, hb⟩
      have HR : Hid (RN w A ws A1 (listW ws) A2 (lockW ws s) A3 ((joinW ws s).map opT) none [] w3) := hide ⟨Below.step HB.out hb, HX.out.at_world hb, H1.out.at_world hb, H2.out.at_world hb, h3, RdR.nil⟩
      have P3 := hide (And.intro p1 (And.intro p2 p3))
      clear hb h3 p1 p2 p3 HB HX H1 H2
      by_cases hout : s < 1 ∨ (n : Int) ≤ s
      · have z := out_lists (ws := ws) (s := s) (by rw [Hn.out]; exact hout)
        have q3 : n3 = 0 := by rw [← P3.out.1, z.1]; rfl
        have q2 : n2 = 0 := by rw [← P2.out.1, z.2.2]; rfl
        subst q3
        subst q2
        clear z
        by_cases h1 : s < 1
        · have b1 : decide (s < 1) = true := decide_eq_true h1
          go_wp2
          go_ret
          exact ⟨rfl, HR.out.bel⟩
        · have b1 : decide (s < 1) = false := decide_eq_false h1
          have b2 : decide ((n : Int) ≤ s) = true := decide_eq_true (by omega)
          go_wp2
          go_ret
          exact ⟨rfl, HR.out.bel⟩
      have b1 : decide (s < 1) = false := decide_eq_false (by omega)
      have b2 : decide ((n : Int) ≤ s) = false := decide_eq_false (by omega)
      have HL := hide (lost_out Hc.out Hin.out (by omega) (by rw [Hn.out]; omega))
      clear hout
      have g3 : n3 ≤ 3 := by have := join_len ws s; have := P3.out.1; omega
      go_wp2
      go_loopw [77, 11] (fun i v wr => ∃ k : Nat, k ≤ n1 ∧ i = .int .i64 k ∧ Hid (wr.ownsRow w3.heap.size 3 1 v (neF s ((listW ws).take k)).length ((neF s ((listW ws).take k)).map (Value.int .i64))) ∧ Hid (Below w3.heap.size w3 wr)) (fun i _ _ => n1 - (intOf i).toNat)
      case atStart => exact ⟨0, by omega, rfl, hide (World.ownsRow_nil _ _ _ _), hide (Below.refl _ _)⟩
      case round =>
        obtain ⟨k, hk, rfl, HO, HB⟩ := hrel
        obtain ⟨AV, cV, rfl, o1, o2⟩ := own_form HO.out
        by_cases hlt : k < n1
        · obtain ⟨ad, x, rfl, _, hx, hc⟩ := (HR.out.step HB.out).r1.icell (k := k) (by rw [P1.out.1]; exact hlt)
          have d0 : (0 : Int) ≤ k := by omega
          have d1 : (k : Int) < n1 := by omega
          have hle : (neF s ((listW ws).take k)).length ≤ 4097 := by have := neF_len s ((listW ws).take k); simp at this; omega
          have HS := hide (neF_succ (s := s) hx)
          clear hx
          by_cases hq : x = s
          · have dq : (x != s) = false := by simp [hq]
            rw [if_pos hq] at HS
            clear hq
            go_wp2
            go_roundw
            case rel => exact ⟨k + 1, by omega, by go_num, hide (by rw [HS.out]; exact HO.out), HB⟩
            case measure => simp [intOf]; omega
          · have dq : (x != s) = true := by simp [hq]
            rw [if_neg hq] at HS
            clear hq
            go_wp2_with (at_builtin; refine wpList_append_elem rfl _ _ 28 rfl w3.heap.size Try.underlying28 info_intR rfl (by decide) (.slice AV (neF s ((listW ws).take k)).length cV) (neF s ((listW ws).take k)).length _ rfl HO.out _ _ rfl rfl (by simp [Value.oneCell']) (by simp only [maxLen]; omega) (by omega) HB.out.size ?_; intro v9 w9 hown9 hgr9 _; have HO9 := hide hown9; have HB9 := hide (below_own HB.out HO.out HB.out.size hgr9); clear hown9 hgr9)
            obtain ⟨A9, c9, hv9, _, _⟩ := own_form HO9.out
            subst hv9
            go_roundw
            case rel => exact ⟨k + 1, by omega, by go_num, hide (by rw [HS.out, List.length_append, List.map_append]; exact HO9.out), HB9⟩
            case measure => simp [intOf]; omega
        obtain rfl : n1 = k := by omega
        rw [List.take_of_length_le (by rw [P1.out.1]; omega)] at HO o1 ⊢
        clear hlt hk
        have hRl : (neF s (listW ws)).length ≤ 4097 := by have := neF_len s (listW ws); have := P1.out.1; omega
        have HR : Hid (RN w A ws A1 (listW ws) A2 (lockW ws s) A3 ((joinW ws s).map opT) AV (neF s (listW ws)) wr) := hide (by have h := HR.out.step HB.out; exact ⟨h.bel, h.x, h.r1, h.r2, h.o, (intR_own HO.out).rd fun b hb => hb.2⟩)
        clear HO HB
        generalize hnr : (neF s (listW ws)).length = nr at *
        have Hnr := hide hnr
        clear hnr
        go_wp2
        go_loopw [91] (fun i wr => ∃ k : Nat, k ≤ n3 ∧ i = .int .i64 k ∧ Hid (RN w A ws A1 (listW ws) A2 (lockW ws s) A3 ((joinW ws s).map opT) AV (neF s (listW ws)) wr)) (fun i _ => n3 - (intOf i).toNat)
        case atStart => exact ⟨0, by omega, rfl, HR⟩
        case round =>
          clear HR
          obtain ⟨k, hk, rfl, HR⟩ := hrel
          by_cases hlt : k < n3
          · obtain ⟨ad, ⟨q0, q1, q2, q3, q4, q5, q6, q7, q8, q9⟩, B1, B2, m1, d1, m2, d2, rfl, hb, hs, hc⟩ := RdR.opcell HR.out.o (k := k) (by rw [List.length_map, P3.out.1]; exact hlt)
            simp only at hc
            have e0 := hc 0 _ rfl
            have e1 := hc 1 _ rfl
            have e2 := hc 2 _ rfl
            have e3 := hc 3 _ rfl
            have e4 := hc 4 _ rfl
            have e5 := hc 5 _ rfl
            have e6 := hc 6 _ rfl
            have e7 := hc 7 _ rfl
            have e8 := hc 8 _ rfl
            have e9 := hc 9 _ rfl
            rw [add_zero'] at e0
            have hat : ∀ j, (ad.add (k * 10)).add (j + 1) = ⟨(ad.add (k * 10)).block, (ad.add (k * 10)).off + (j + 1), none⟩ := fun j => by
              rw [add_succ']; first | (simp; done) | (simp; omega)
            rw [hat] at e1 e2 e3 e4 e5 e6 e7 e8 e9
            have g0 : (0 : Int) ≤ k := by omega
            have g4 : (k : Int) < n3 := by omega
            have Hheld := hide (show q1 ∈ lockW ws s by
              rw [List.getElem?_map, Option.map_eq_some_iff] at hs
              obtain ⟨o, ho, he⟩ := hs
              have := HL.out.held o (List.mem_of_getElem? ho)
              unfold opT at he
              simp only [Prod.mk.injEq] at he
              rw [← he.2.1]; exact this)
            have Heach := hide (HL.out.each k (by rw [P3.out.1]; exact hlt))
            clear hs hb hc hat
            go_upto_region 28 with fail
            have HR2 := hide (HR.out.step (below1 wr (.cells #[.int .i64 q0, .int .i64 q1, .int .i64 q2, .int .i64 q3, .int .i64 q4, .int .u64 q5, .slice B1 m1 d1, .int .u64 q7, .slice B2 m2 d2, .int .u64 q9] 44)))
            have HN := hide (Blk.new wr 44 #[.int .i64 q0, .int .i64 q1, .int .i64 q2, .int .i64 q3, .int .i64 q4, .int .u64 q5, .slice B1 m1 d1, .int .u64 q7, .slice B2 m2 d2, .int .u64 q9])
            clear e0 e1 e2 e3 e4 e5 e6 e7 e8 e9 HR
            generalize World.alloc wr _ = w6 at *
            generalize wr.heap.size = b at *
            have y1 : w6.cell? ⟨b, 1, none⟩ = some (.int .i64 q1) := by rw [HN.out.cell]; rfl
            clear HN
            go_wp2
            go_loopw [98, 16] (fun i v wr => ∃ (j : Nat) (bq : Bool), j ≤ n2 ∧ i = .int .i64 j ∧ v = .bool bq ∧ Hid (bq = decide (q1 ∈ (lockW ws s).take j)) ∧ wr = w6) (fun i _ _ => n2 - (intOf i).toNat)
            case atStart => exact ⟨0, false, by omega, rfl, rfl, hide (by simp), rfl⟩
            case round =>
              obtain ⟨j, bq, hj, rfl, rfl, Hbq, rfl⟩ := hrel
              by_cases hjt : j < n2
              · obtain ⟨ad2, x, rfl, _, hx, hc⟩ := HR2.out.r2.icell (k := j) (by rw [P2.out.1]; exact hjt)
                have d8 : (0 : Int) ≤ j := by omega
                have d9 : (j : Int) < n2 := by omega
                have HS := hide (mem_take_succ (s := q1) hx)
                rw [← Hbq.out] at HS
                clear hx Hbq
                cases bq
                · by_cases hq : x = q1
                  · have dq : (x == q1) = true := by simp [hq]
                    rw [decide_eq_true hq] at HS
                    clear hq
                    go_wp2
                    go_roundw
                    case rel => exact ⟨j + 1, true, by omega, by go_num, rfl, hide HS.out.symm, by trivial⟩
                    case measure => simp [intOf]; omega
                  · have dq : (x == q1) = false := by simp [hq]
                    rw [decide_eq_false hq] at HS
                    clear hq
                    go_wp2
                    go_roundw
                    case rel => exact ⟨j + 1, false, by omega, by go_num, rfl, hide HS.out.symm, by trivial⟩
                    case measure => simp [intOf]; omega
                · go_wp2
                  go_roundw
                  case rel => exact ⟨j + 1, true, by omega, by go_num, rfl, hide HS.out.symm, by trivial⟩
                  case measure => simp [intOf]; omega
              have hj2 : n2 = j := by omega
              have Hb2 : bq = true := by rw [Hbq.out, List.take_of_length_le (by rw [P2.out.1]; omega)]; exact decide_eq_true Hheld.out
              subst hj2
              subst Hb2
              clear hj hjt Hbq y1
              have hcap : (k : Int) + 1 ≤ c3 := by have := P3.out.2.1; omega
              have hcap2 : k + 1 ≤ c3 := by have := P3.out.2.1; omega
              have d8 : (0 : Int) ≤ (k : Int) + 1 := by omega
              go_wp2_with fail
              refine (qDo HR2.out.x Hn.out (by omega) (HR2.out.o.take (k + 1)) (by rw [List.length_take, List.length_map, P3.out.1]; omega) (by omega)).mono ?_
              rintro e w7 ⟨A5, n5, c5, rfl, p1, p2, p3, h5, hb⟩
              have HR3 := hide (HR2.out.step hb)
              have H5 := hide h5
              have P5 := hide p1
              clear hb h5 p1 p2 p3 HR2
              go_wp2_with fail
              refine (qList H5.out P5.out (doW_u64 Hu.out _)).mono ?_
              rintro e w8 ⟨A6, n6, c6, rfl, p1, p2, p3, h6, hb⟩
              have HR4 := hide (HR3.out.step hb)
              have H6 := hide h6
              have P6 := hide p1
              have hl6 := listW_len (doW ws (((joinW ws s).map opT).take (k + 1)))
              rw [p1] at hl6
              clear hb h6 p1 p2 p3 HR3 H5 P5
              have Heach2 : Hid (neF s (listW (doW ws (((joinW ws s).map opT).take (k + 1)))) = neF s (listW ws)) := Heach
              clear Heach
              generalize listW (doW ws (((joinW ws s).map opT).take (k + 1))) = now at *
              go_wp2
              go_loopw [118, 19] (fun i v wr => ∃ j : Nat, j ≤ n6 ∧ i = .int .i64 j ∧ Hid (wr.ownsRow w8.heap.size 3 1 v (neF s (now.take j)).length ((neF s (now.take j)).map (Value.int .i64))) ∧ Hid (Below w8.heap.size w8 wr)) (fun i _ _ => n6 - (intOf i).toNat)
              case atStart => exact ⟨0, by omega, rfl, hide (World.ownsRow_nil _ _ _ _), hide (Below.refl _ _)⟩
              case round =>
                obtain ⟨j, hj, rfl, HO, HB⟩ := hrel
                obtain ⟨AW, cW, rfl, o3, o4⟩ := own_form HO.out
                by_cases hjt : j < n6
                · obtain ⟨ad2, x, rfl, _, hx, hc⟩ := (H6.out.at_world HB.out).icell (k := j) (by rw [P6.out]; exact hjt)
                  have d10 : (0 : Int) ≤ j := by omega
                  have d11 : (j : Int) < n6 := by omega
                  have hle : (neF s (now.take j)).length ≤ 4097 := by have := neF_len s (now.take j); simp at this; omega
                  have HS := hide (neF_succ (s := s) hx)
                  clear hx
                  by_cases hq : x = s
                  · have dq : (x != s) = false := by simp [hq]
                    rw [if_pos hq] at HS
                    clear hq
                    go_wp2
                    go_roundw
                    case rel => exact ⟨j + 1, by omega, by go_num, hide (by rw [HS.out]; exact HO.out), HB⟩
                    case measure => simp [intOf]; omega
                  · have dq : (x != s) = true := by simp [hq]
                    rw [if_neg hq] at HS
                    clear hq
                    go_wp2_with (at_builtin; refine wpList_append_elem rfl _ _ 28 rfl w8.heap.size Try.underlying28 info_intR rfl (by decide) (.slice AW (neF s (now.take j)).length cW) (neF s (now.take j)).length _ rfl HO.out _ _ rfl rfl (by simp [Value.oneCell']) (by simp only [maxLen]; omega) (by omega) HB.out.size ?_; intro v9 w9 hown9 hgr9 _; have HO9 := hide hown9; have HB9 := hide (below_own HB.out HO.out HB.out.size hgr9); clear hown9 hgr9)
                    obtain ⟨A9, c9, hv9, _, _⟩ := own_form HO9.out
                    subst hv9
                    go_roundw
                    case rel => exact ⟨j + 1, by omega, by go_num, hide (by rw [HS.out, List.length_append, List.map_append]; exact HO9.out), HB9⟩
                    case measure => simp [intOf]; omega
                obtain rfl : n6 = j := by omega
                rw [List.take_of_length_le (by rw [P6.out]; omega), Heach2.out] at HO o3
                rw [List.take_of_length_le (by rw [P6.out]; omega), Heach2.out]
                rw [Hnr.out] at HO o3 ⊢
                clear hjt hj
                have HR5 := hide (HR4.out.step HB.out)
                have HN5 := hide ((intR_own HO.out).rd fun b hb => hb.2)
                clear HO HB HR4 H6 P6
                go_wp2_with fail
                refine (r_ints HN5.out Hnr.out o3 o4 HR5.out.r4 Hnr.out o1 o2).mono ?_
                rintro e w10 ⟨rfl, hb⟩
                have HR6 := hide (HR5.out.step hb)
                clear hb HR5 HN5
                go_wp2
                go_roundw
                case rel => exact ⟨k + 1, by omega, by go_num, HR6⟩
                case measure => simp [intOf]; omega
          obtain rfl : n3 = k := by omega
          clear hlt hk
          go_wp2_with fail
          refine (qDo HR.out.x Hn.out (by omega) HR.out.o (by rw [List.length_map, P3.out.1]) (by omega)).mono ?_
          rintro e w7 ⟨A5, n5, c5, rfl, p1, p2, p3, h5, hb⟩
          have HR3 := hide (HR.out.step hb)
          have H5 := hide h5
          have P5 := hide p1
          clear hb h5 p1 p2 p3 HR
          have hu5 := hide (doW_u64 Hu.out ((joinW ws s).map opT))
          go_wp2_with fail
          refine (qList H5.out P5.out hu5.out).mono ?_
          rintro e w8 ⟨A6, n6, c6, rfl, p1, p2, p3, h6, hb⟩
          have HR4 := hide (HR3.out.step hb)
          have H6 := hide h6
          have H5 := hide (at_step H5.out hb)
          rw [HL.out.list] at H6 p1
          have P6 := hide (And.intro p1 (And.intro p2 p3))
          clear hb h6 p1 p2 p3 HR3
          go_wp2_with fail
          refine (check_any A5 n5 c5 _ _ H5.out P5.out hu5.out).mono ?_
          rintro e w9 ⟨rfl, hb⟩
          have HR5 := hide (HR4.out.step hb)
          have H6 := hide (at_step H6.out hb)
          rw [HL.out.check]
          clear hb HR4 H5 P5 hu5
          obtain ⟨ad, rfl, hcell, htl⟩ := rd_tail H6.out
          obtain rfl : n6 = n1 + 1 := by have := P6.out.1; have := P1.out.1; simp at *; omega
          have f1 : (((n1 + 1 : Nat) : Int) == (n1 : Int) + 1) = true := by simp
          have f2 : (s == s) = true := by simp
          have f3 : (0 : Int) < ((n1 + 1 : Nat) : Int) := by omega
          have f4 : (1 : Int) ≤ ((n1 + 1 : Nat) : Int) := by omega
          have f5 : n1 + 1 ≤ c6 := P6.out.2.1
          have HT := hide htl
          clear htl H6
          have eA : ad.add (0 + 1) = ⟨ad.block, ad.off + (0 + 1), none⟩ := by rw [add_succ']
          rw [show ad.add 1 = ⟨ad.block, ad.off + 1, none⟩ from eA] at HT
          clear eA
          by_cases hc1 : c6 = 1
          · subst hc1
            obtain rfl : n1 = 0 := by omega
            have hnil : listW ws = [] := List.length_eq_zero_iff.1 P1.out.1
            have HT0 := hide (show Rd (Sh.int .i64) w9 w9.heap.size (some ad) (listW ws) by rw [hnil]; exact RdR.nil)
            clear HT hnil
            go_wp2_with fail
            refine (r_ints HT0.out P1.out.1 (by omega) (by omega) HR5.out.r1 P1.out.1 P1.out.2.1 P1.out.2.2).mono ?_
            rintro e w10 ⟨rfl, hb⟩
            have HR6 := hide (HR5.out.step hb)
            clear hb HR5 HT0
            go_wp2
            go_ret
            exact ⟨rfl, HR6.out.bel⟩
          · have hc6 : 1 ≤ c6 - 1 := by omega
            have hm6 : c6 - 1 ≤ 9223372036854775807 := by have := P6.out.2.2; omega
            have hn6 : n1 ≤ c6 - 1 := by omega
            go_wp2_with fail
            refine (r_ints HT.out P1.out.1 hn6 hm6 HR5.out.r1 P1.out.1 P1.out.2.1 P1.out.2.2).mono ?_
            rintro e w10 ⟨rfl, hb⟩
            have HR6 := hide (HR5.out.step hb)
            clear hb HR5 HT
            go_wp2
            go_ret
            exact ⟨rfl, HR6.out.bel⟩
    · have Hin := hide (show s ∈ listW ws from of_decide_eq_true Hbq.out.symm)
      clear Hbq
      go_wp2_with fail
      refine (qJoins HX.out Hn.out Hu.out s rfl).mono ?_
      rintro e w3 ⟨A3, n3, c3, rfl, p1, p2, p3, h3, hb⟩
      have HB := hide (Below.step HB.out hb)
      have HX := hide (HX.out.at_world hb)
      have H1 := hide (at_step H1.out hb)
      have H2 := hide (at_step H2.out hb)
      clear hb h3 p1 p2 p3
      go_wp2_with fail
      refine (qCuts HX.out Hn.out Hu.out s rfl).mono ?_
      rintro e w4 ⟨A3, n3, c3, rfl, p1, p2, p3, h3, hb⟩
      have HR : Hid (RN w A ws A1 (listW ws) A2 (lockW ws s) A3 ((cutW ws s).map opT) none [] w4) := hide ⟨Below.step HB.out hb, HX.out.at_world hb, H1.out.at_world hb, H2.out.at_world hb, h3, RdR.nil⟩
      have P3 := hide (And.intro p1 (And.intro p2 p3))
      clear hb h3 p1 p2 p3 HB HX H1 H2
      by_cases hout : s < 1 ∨ (n : Int) ≤ s
      · have z := out_lists (ws := ws) (s := s) (by rw [Hn.out]; exact hout)
        have q3 : n3 = 0 := by rw [← P3.out.1, z.2.1]; rfl
        have q2 : n2 = 0 := by rw [← P2.out.1, z.2.2]; rfl
        subst q3
        subst q2
        clear z
        by_cases h1 : s < 1
        · have b1 : decide (s < 1) = true := decide_eq_true h1
          go_wp2
          go_ret
          exact ⟨rfl, HR.out.bel⟩
        · have b1 : decide (s < 1) = false := decide_eq_false h1
          have b2 : decide ((n : Int) ≤ s) = true := decide_eq_true (by omega)
          go_wp2
          go_ret
          exact ⟨rfl, HR.out.bel⟩
      have b1 : decide (s < 1) = false := decide_eq_false (by omega)
      have b2 : decide ((n : Int) ≤ s) = false := decide_eq_false (by omega)
      have HL := hide (lost_in Hc.out Hin.out)
      clear hout
      have g3 : n3 ≤ 3 := by have := cut_len ws s; have := P3.out.1; omega
      go_wp2
      go_loopw [77, 11] (fun i v wr => ∃ k : Nat, k ≤ n1 ∧ i = .int .i64 k ∧ Hid (wr.ownsRow w4.heap.size 3 1 v (neF s ((listW ws).take k)).length ((neF s ((listW ws).take k)).map (Value.int .i64))) ∧ Hid (Below w4.heap.size w4 wr)) (fun i _ _ => n1 - (intOf i).toNat)
      case atStart => exact ⟨0, by omega, rfl, hide (World.ownsRow_nil _ _ _ _), hide (Below.refl _ _)⟩
      case round =>
        obtain ⟨k, hk, rfl, HO, HB⟩ := hrel
        obtain ⟨AV, cV, rfl, o1, o2⟩ := own_form HO.out
        by_cases hlt : k < n1
        · obtain ⟨ad, x, rfl, _, hx, hc⟩ := (HR.out.step HB.out).r1.icell (k := k) (by rw [P1.out.1]; exact hlt)
          have d0 : (0 : Int) ≤ k := by omega
          have d1 : (k : Int) < n1 := by omega
          have hle : (neF s ((listW ws).take k)).length ≤ 4097 := by have := neF_len s ((listW ws).take k); simp at this; omega
          have HS := hide (neF_succ (s := s) hx)
          clear hx
          by_cases hq : x = s
          · have dq : (x != s) = false := by simp [hq]
            rw [if_pos hq] at HS
            clear hq
            go_wp2
            go_roundw
            case rel => exact ⟨k + 1, by omega, by go_num, hide (by rw [HS.out]; exact HO.out), HB⟩
            case measure => simp [intOf]; omega
          · have dq : (x != s) = true := by simp [hq]
            rw [if_neg hq] at HS
            clear hq
            go_wp2_with (at_builtin; refine wpList_append_elem rfl _ _ 28 rfl w4.heap.size Try.underlying28 info_intR rfl (by decide) (.slice AV (neF s ((listW ws).take k)).length cV) (neF s ((listW ws).take k)).length _ rfl HO.out _ _ rfl rfl (by simp [Value.oneCell']) (by simp only [maxLen]; omega) (by omega) HB.out.size ?_; intro v9 w9 hown9 hgr9 _; have HO9 := hide hown9; have HB9 := hide (below_own HB.out HO.out HB.out.size hgr9); clear hown9 hgr9)
            obtain ⟨A9, c9, hv9, _, _⟩ := own_form HO9.out
            subst hv9
            go_roundw
            case rel => exact ⟨k + 1, by omega, by go_num, hide (by rw [HS.out, List.length_append, List.map_append]; exact HO9.out), HB9⟩
            case measure => simp [intOf]; omega
        obtain rfl : n1 = k := by omega
        rw [List.take_of_length_le (by rw [P1.out.1]; omega)] at HO o1 ⊢
        clear hlt hk
        have hRl : (neF s (listW ws)).length ≤ 4097 := by have := neF_len s (listW ws); have := P1.out.1; omega
        have HR : Hid (RN w A ws A1 (listW ws) A2 (lockW ws s) A3 ((cutW ws s).map opT) AV (neF s (listW ws)) wr) := hide (by have h := HR.out.step HB.out; exact ⟨h.bel, h.x, h.r1, h.r2, h.o, (intR_own HO.out).rd fun b hb => hb.2⟩)
        clear HO HB
        generalize hnr : (neF s (listW ws)).length = nr at *
        have Hnr := hide hnr
        clear hnr
        go_wp2
        go_loopw [91] (fun i wr => ∃ k : Nat, k ≤ n3 ∧ i = .int .i64 k ∧ Hid (RN w A ws A1 (listW ws) A2 (lockW ws s) A3 ((cutW ws s).map opT) AV (neF s (listW ws)) wr)) (fun i _ => n3 - (intOf i).toNat)
        case atStart => exact ⟨0, by omega, rfl, HR⟩
        case round =>
          clear HR
          obtain ⟨k, hk, rfl, HR⟩ := hrel
          by_cases hlt : k < n3
          · obtain ⟨ad, ⟨q0, q1, q2, q3, q4, q5, q6, q7, q8, q9⟩, B1, B2, m1, d1, m2, d2, rfl, hb, hs, hc⟩ := RdR.opcell HR.out.o (k := k) (by rw [List.length_map, P3.out.1]; exact hlt)
            simp only at hc
            have e0 := hc 0 _ rfl
            have e1 := hc 1 _ rfl
            have e2 := hc 2 _ rfl
            have e3 := hc 3 _ rfl
            have e4 := hc 4 _ rfl
            have e5 := hc 5 _ rfl
            have e6 := hc 6 _ rfl
            have e7 := hc 7 _ rfl
            have e8 := hc 8 _ rfl
            have e9 := hc 9 _ rfl
            rw [add_zero'] at e0
            have hat : ∀ j, (ad.add (k * 10)).add (j + 1) = ⟨(ad.add (k * 10)).block, (ad.add (k * 10)).off + (j + 1), none⟩ := fun j => by
              rw [add_succ']; first | (simp; done) | (simp; omega)
            rw [hat] at e1 e2 e3 e4 e5 e6 e7 e8 e9
            have g0 : (0 : Int) ≤ k := by omega
            have g4 : (k : Int) < n3 := by omega
            have Hheld := hide (show q1 ∈ lockW ws s by
              rw [List.getElem?_map, Option.map_eq_some_iff] at hs
              obtain ⟨o, ho, he⟩ := hs
              have := HL.out.held o (List.mem_of_getElem? ho)
              unfold opT at he
              simp only [Prod.mk.injEq] at he
              rw [← he.2.1]; exact this)
            have Heach := hide (HL.out.each k (by rw [P3.out.1]; exact hlt))
            clear hs hb hc hat
            go_upto_region 28 with fail
            have HR2 := hide (HR.out.step (below1 wr (.cells #[.int .i64 q0, .int .i64 q1, .int .i64 q2, .int .i64 q3, .int .i64 q4, .int .u64 q5, .slice B1 m1 d1, .int .u64 q7, .slice B2 m2 d2, .int .u64 q9] 44)))
            have HN := hide (Blk.new wr 44 #[.int .i64 q0, .int .i64 q1, .int .i64 q2, .int .i64 q3, .int .i64 q4, .int .u64 q5, .slice B1 m1 d1, .int .u64 q7, .slice B2 m2 d2, .int .u64 q9])
            clear e0 e1 e2 e3 e4 e5 e6 e7 e8 e9 HR
            generalize World.alloc wr _ = w6 at *
            generalize wr.heap.size = b at *
            have y1 : w6.cell? ⟨b, 1, none⟩ = some (.int .i64 q1) := by rw [HN.out.cell]; rfl
            clear HN
            go_wp2
            go_loopw [98, 16] (fun i v wr => ∃ (j : Nat) (bq : Bool), j ≤ n2 ∧ i = .int .i64 j ∧ v = .bool bq ∧ Hid (bq = decide (q1 ∈ (lockW ws s).take j)) ∧ wr = w6) (fun i _ _ => n2 - (intOf i).toNat)
            case atStart => exact ⟨0, false, by omega, rfl, rfl, hide (by simp), rfl⟩
            case round =>
              obtain ⟨j, bq, hj, rfl, rfl, Hbq, rfl⟩ := hrel
              by_cases hjt : j < n2
              · obtain ⟨ad2, x, rfl, _, hx, hc⟩ := HR2.out.r2.icell (k := j) (by rw [P2.out.1]; exact hjt)
                have d8 : (0 : Int) ≤ j := by omega
                have d9 : (j : Int) < n2 := by omega
                have HS := hide (mem_take_succ (s := q1) hx)
                rw [← Hbq.out] at HS
                clear hx Hbq
                cases bq
                · by_cases hq : x = q1
                  · have dq : (x == q1) = true := by simp [hq]
                    rw [decide_eq_true hq] at HS
                    clear hq
                    go_wp2
                    go_roundw
                    case rel => exact ⟨j + 1, true, by omega, by go_num, rfl, hide HS.out.symm, by trivial⟩
                    case measure => simp [intOf]; omega
                  · have dq : (x == q1) = false := by simp [hq]
                    rw [decide_eq_false hq] at HS
                    clear hq
                    go_wp2
                    go_roundw
                    case rel => exact ⟨j + 1, false, by omega, by go_num, rfl, hide HS.out.symm, by trivial⟩
                    case measure => simp [intOf]; omega
                · go_wp2
                  go_roundw
                  case rel => exact ⟨j + 1, true, by omega, by go_num, rfl, hide HS.out.symm, by trivial⟩
                  case measure => simp [intOf]; omega
              have hj2 : n2 = j := by omega
              have Hb2 : bq = true := by rw [Hbq.out, List.take_of_length_le (by rw [P2.out.1]; omega)]; exact decide_eq_true Hheld.out
              subst hj2
              subst Hb2
              clear hj hjt Hbq y1
              have hcap : (k : Int) + 1 ≤ c3 := by have := P3.out.2.1; omega
              have hcap2 : k + 1 ≤ c3 := by have := P3.out.2.1; omega
              have d8 : (0 : Int) ≤ (k : Int) + 1 := by omega
              go_wp2_with fail
              refine (qDo HR2.out.x Hn.out (by omega) (HR2.out.o.take (k + 1)) (by rw [List.length_take, List.length_map, P3.out.1]; omega) (by omega)).mono ?_
              rintro e w7 ⟨A5, n5, c5, rfl, p1, p2, p3, h5, hb⟩
              have HR3 := hide (HR2.out.step hb)
              have H5 := hide h5
              have P5 := hide p1
              clear hb h5 p1 p2 p3 HR2
              go_wp2_with fail
              refine (qList H5.out P5.out (doW_u64 Hu.out _)).mono ?_
              rintro e w8 ⟨A6, n6, c6, rfl, p1, p2, p3, h6, hb⟩
              have HR4 := hide (HR3.out.step hb)
              have H6 := hide h6
              have P6 := hide p1
              have hl6 := listW_len (doW ws (((cutW ws s).map opT).take (k + 1)))
              rw [p1] at hl6
              clear hb h6 p1 p2 p3 HR3 H5 P5
              have Heach2 : Hid (neF s (listW (doW ws (((cutW ws s).map opT).take (k + 1)))) = neF s (listW ws)) := Heach
              clear Heach
              generalize listW (doW ws (((cutW ws s).map opT).take (k + 1))) = now at *
              go_wp2
              go_loopw [118, 19] (fun i v wr => ∃ j : Nat, j ≤ n6 ∧ i = .int .i64 j ∧ Hid (wr.ownsRow w8.heap.size 3 1 v (neF s (now.take j)).length ((neF s (now.take j)).map (Value.int .i64))) ∧ Hid (Below w8.heap.size w8 wr)) (fun i _ _ => n6 - (intOf i).toNat)
              case atStart => exact ⟨0, by omega, rfl, hide (World.ownsRow_nil _ _ _ _), hide (Below.refl _ _)⟩
              case round =>
                obtain ⟨j, hj, rfl, HO, HB⟩ := hrel
                obtain ⟨AW, cW, rfl, o3, o4⟩ := own_form HO.out
                by_cases hjt : j < n6
                · obtain ⟨ad2, x, rfl, _, hx, hc⟩ := (H6.out.at_world HB.out).icell (k := j) (by rw [P6.out]; exact hjt)
                  have d10 : (0 : Int) ≤ j := by omega
                  have d11 : (j : Int) < n6 := by omega
                  have hle : (neF s (now.take j)).length ≤ 4097 := by have := neF_len s (now.take j); simp at this; omega
                  have HS := hide (neF_succ (s := s) hx)
                  clear hx
                  by_cases hq : x = s
                  · have dq : (x != s) = false := by simp [hq]
                    rw [if_pos hq] at HS
                    clear hq
                    go_wp2
                    go_roundw
                    case rel => exact ⟨j + 1, by omega, by go_num, hide (by rw [HS.out]; exact HO.out), HB⟩
                    case measure => simp [intOf]; omega
                  · have dq : (x != s) = true := by simp [hq]
                    rw [if_neg hq] at HS
                    clear hq
                    go_wp2_with (at_builtin; refine wpList_append_elem rfl _ _ 28 rfl w8.heap.size Try.underlying28 info_intR rfl (by decide) (.slice AW (neF s (now.take j)).length cW) (neF s (now.take j)).length _ rfl HO.out _ _ rfl rfl (by simp [Value.oneCell']) (by simp only [maxLen]; omega) (by omega) HB.out.size ?_; intro v9 w9 hown9 hgr9 _; have HO9 := hide hown9; have HB9 := hide (below_own HB.out HO.out HB.out.size hgr9); clear hown9 hgr9)
                    obtain ⟨A9, c9, hv9, _, _⟩ := own_form HO9.out
                    subst hv9
                    go_roundw
                    case rel => exact ⟨j + 1, by omega, by go_num, hide (by rw [HS.out, List.length_append, List.map_append]; exact HO9.out), HB9⟩
                    case measure => simp [intOf]; omega
                obtain rfl : n6 = j := by omega
                rw [List.take_of_length_le (by rw [P6.out]; omega), Heach2.out] at HO o3
                rw [List.take_of_length_le (by rw [P6.out]; omega), Heach2.out]
                rw [Hnr.out] at HO o3 ⊢
                clear hjt hj
                have HR5 := hide (HR4.out.step HB.out)
                have HN5 := hide ((intR_own HO.out).rd fun b hb => hb.2)
                clear HO HB HR4 H6 P6
                go_wp2_with fail
                refine (r_ints HN5.out Hnr.out o3 o4 HR5.out.r4 Hnr.out o1 o2).mono ?_
                rintro e w10 ⟨rfl, hb⟩
                have HR6 := hide (HR5.out.step hb)
                clear hb HR5 HN5
                go_wp2
                go_roundw
                case rel => exact ⟨k + 1, by omega, by go_num, HR6⟩
                case measure => simp [intOf]; omega
          obtain rfl : n3 = k := by omega
          clear hlt hk
          go_wp2_with fail
          refine (qDo HR.out.x Hn.out (by omega) HR.out.o (by rw [List.length_map, P3.out.1]) (by omega)).mono ?_
          rintro e w7 ⟨A5, n5, c5, rfl, p1, p2, p3, h5, hb⟩
          have HR3 := hide (HR.out.step hb)
          have H5 := hide h5
          have P5 := hide p1
          clear hb h5 p1 p2 p3 HR
          have hu5 := hide (doW_u64 Hu.out ((cutW ws s).map opT))
          go_wp2_with fail
          refine (qList H5.out P5.out hu5.out).mono ?_
          rintro e w8 ⟨A6, n6, c6, rfl, p1, p2, p3, h6, hb⟩
          have HR4 := hide (HR3.out.step hb)
          have H6 := hide h6
          have H5 := hide (at_step H5.out hb)
          rw [HL.out.list] at H6 p1
          have P6 := hide (And.intro p1 (And.intro p2 p3))
          clear hb h6 p1 p2 p3 HR3
          go_wp2_with fail
          refine (check_any A5 n5 c5 _ _ H5.out P5.out hu5.out).mono ?_
          rintro e w9 ⟨rfl, hb⟩
          have HR5 := hide (HR4.out.step hb)
          have H6 := hide (at_step H6.out hb)
          rw [HL.out.check]
          clear hb HR4 H5 P5 hu5
          go_wp2_with fail
          refine (r_ints H6.out P6.out.1 P6.out.2.1 P6.out.2.2 HR5.out.r4 Hnr.out o1 o2).mono ?_
          rintro e w10 ⟨rfl, hb⟩
          have HR6 := hide (HR5.out.step hb)
          clear hb HR5 H6
          go_wp2
          go_ret
          exact ⟨rfl, HR6.out.bel⟩
end Go.Proofs.Ytoadcfjkommlkac
