/-
  The law ArenaOnce. Conditions: they lie as said.
-/
import Derived.Test.YtoodcfldnojkjabArnX
import Derived.Test.YtoodcfldnojkjabArnLives
namespace Go.Proofs.Ytoodcfldnojkjab
open Go.RowKit

theorem ok_more1 {s : Arn} {n m m' : Nat} (ok : s.Ok n m) (h : m ≤ m') : s.Ok n m' := ⟨ok.hS, ok.hG, ok.n1, ok.n4, ok.st, fun i x hx => by have := ok.gn i x hx; omega, ok.fr, ok.nd, ok.ct⟩
theorem ok_len1 {s : Arn} {n m : Nat} (ok : s.Ok n m) : s.S.length ≤ 5000 ∧ s.G.length ≤ 5000 ∧ s.K.length ≤ 4096 := by
  have h1 := ok.hS
  have h2 := ok.hG
  have h4 := ok.n4
  have h5 := ok.ct
  refine ⟨by omega, by omega, ?_⟩
  rw [← h5]
  have : cnt s.S 0 ≤ s.S.tail.length := List.count_le_length
  simp at this
  omega
/-- the deeds that came in -/
def Deeds1 (w : World) (A : Option Addr) (ds : List (Int × Int × Int)) : Prop := ∀ k, k < ds.length → ∃ ad a b c, A = some ad ∧ ad.block < w.heap.size ∧ ds[k]? = some (a, b, c) ∧
  w.cell? (ad.add (k * 3)) = some (.int .i64 a) ∧ w.cell? (ad.add (k * 3 + 1)) = some (.int .i64 b) ∧ w.cell? (ad.add (k * 3 + 2)) = some (.int .i64 c)

theorem deeds_below {w w1 : World} {A : Option Addr} {ds : List (Int × Int × Int)} (h : Deeds1 w A ds) (hb : Below w.heap.size w w1) : Deeds1 w1 A ds := fun k hk => by
  obtain ⟨ad, a, b, c, e1, e2, e3, e4, e5, e6⟩ := h k hk
  exact ⟨ad, a, b, c, e1, Nat.lt_of_lt_of_le e2 hb.size, e3, (hb.cell (by rw [block_of_add]; exact e2)).trans e4, (hb.cell (by rw [block_of_add]; exact e2)).trans e5, (hb.cell (by rw [block_of_add]; exact e2)).trans e6⟩
theorem own_own_ne {w : World} {B B' : Nat} {e e' : TypeId} {m m' n n' : Nat} {v v' : Value} {xs xs' : List Value} (h : w.ownsRow B e m v n xs) (h' : w.ownsRow B' e' m' v' n' xs') (hne : e ≠ e') {g : Nat} (hv : v.ownBlock = some g) : v'.ownBlock ≠ some g := by
  intro hv'
  rcases h.2 with ⟨rfl, _⟩ | ⟨g1, cap, cur, rfl, _, h1, _⟩
  · simp [Value.ownBlock] at hv
  · rcases h'.2 with ⟨rfl, _⟩ | ⟨g2, cap', cur', rfl, _, h2, _⟩
    · simp [Value.ownBlock] at hv'
    · simp [Value.ownBlock] at hv hv'
      subst hv hv'
      rw [h1] at h2
      injection h2 with h2
      injection h2 with _ h2
      exact hne h2
/-- the arena, and what was told -/
structure On (w wr : World) (P Q : Nat) (fv : Value) (s : Arn) (v : Value) (ts : List (Nat × Int)) : Prop where
  arn : ArnAt wr w.heap.size P Q fv s
  hb : Below w.heap.size w wr
  own : wr.ownsRow w.heap.size 36 2 v ts.length (refs ts)
section
variable {w wr wr' : World} {P Q : Nat} {fv fv' v v' : Value} {s s' : Arn} {ts ts' : List (Nat × Int)}
theorem On.below (h : On w wr P Q fv s v ts) (hb : Below wr.heap.size wr wr') : On w wr' P Q fv s v ts :=
  ⟨arn_below h.arn hb, Below.step h.hb hb, own_keep h.own fun g hg => hb.block g (h.own.lt g hg).2⟩
theorem On.drewN (h : On w wr P Q fv s v ts) (n : Nat) : On w (wr.drewN n) P Q fv s v ts := h.below (below_drewN (Below.refl _ _) n)
theorem On.turned (h : On w wr P Q fv s v ts) (ht : Turned wr wr' P Q fv) (ha : ArnAt wr' w.heap.size P Q fv' s') : On w wr' P Q fv' s' v ts :=
  ⟨ha, ht.below h.hb h.arn h.hb.size, own_keep h.own fun g hg => ht.block g (h.own.lt g hg).2 (fun e => own_blk_ne h.own h.arn.two.hP (by decide) (by rw [hg, e])) (fun e => own_blk_ne h.own h.arn.two.hQ (by decide) (by rw [hg, e]))
    (fun e => own_own_ne h.own h.arn.own (by decide) hg e.symm)⟩
theorem On.told (h : On w wr P Q fv s v ts) (ho : wr'.ownsRow w.heap.size 36 2 v' ts'.length (refs ts')) (hg : wr.grownBy wr' v.ownBlock) : On w wr' P Q fv s v' ts' :=
  ⟨⟨⟨(hg.block P h.arn.two.hP.lt (own_blk_ne h.own h.arn.two.hP (by decide)).symm).trans h.arn.two.hP, (hg.block Q h.arn.two.hQ.lt (own_blk_ne h.own h.arn.two.hQ (by decide)).symm).trans h.arn.two.hQ⟩,
    own_keep h.arn.own fun g hv => hg.block g (h.arn.own.lt g hv).2 (fun e => own_own_ne h.own h.arn.own (by decide) e.symm hv), h.arn.hP, h.arn.hQ⟩,
   below_own h.hb h.own h.hb.size hg, ho⟩
end
theorem genOf_at {S G : List Int} {k : Nat} {g : Int} (h1 : 1 ≤ k) (hk : k < S.length) (hg : G[k]? = some g) : genOf S G k = g := by
  unfold genOf
  rw [if_neg (by omega)]
  simp [hg]
theorem info_ref : (Try.prog.info? 36).map (fun i => (i.zero, i.size, i.bytes)) = some (some (.agg #[.int .i64 0, .int .i64 0]), 2, 16) := by kernel_rfl
set_option maxHeartbeats 4000000 in
set_option maxRecDepth 100000 in
theorem once_any (n : Int) (A : Option Addr) (len cap : Nat) (ds : List (Int × Int × Int)) (w : World) (hd : Deeds1 w A ds) (hl : ds.length = len) (hc : len ≤ cap) (hm : cap ≤ 9223372036854775807) :
    Calls Try.prog 4 #[.int .i64 n, .slice A len cap] w fun e w' => e = .returned (.bool true) ∧ Below w.heap.size w w' := by
  have HL := hide hl
  clear hl
  go_enter Try.func4, Try.ntmps4
  go_upto_region 3 with (go_at_call 5; refine (lives_any _).mono ?_; rintro e w1 ⟨rfl, hb0⟩)
  have hd1 := deeds_below hd hb0
  have HB0 := hide hb0
  clear hd hb0
  have three : (100 < (len : Int) ∨ 300 < n) ∨ ((len : Int) ≤ 100 ∧ n < 1) ∨ ((len : Int) ≤ 100 ∧ 1 ≤ n ∧ n ≤ 300) := by omega
  rcases three with h | ⟨h60, hn⟩ | ⟨h60, hn1, hn2⟩
  · clear hd1
    go_wp2_with fail
    all_goals first | (exfalso; omega) | (go_ret; exact ⟨rfl, HB0.out⟩)
  · have HNo := hide (show n < 1 ∨ 4096 < n from .inl hn)
    clear hd1
    go_wp2_with (go_at_call 6; refine (new_no n _ HNo.out).mono ?_; rintro e _ ⟨rfl, rfl⟩)
    all_goals first | (exfalso; omega) | (go_ret; exact ⟨rfl, HB0.out⟩)
  · obtain ⟨n, rfl⟩ := Int.eq_ofNat_of_zero_le (show 0 ≤ n by omega)
    go_upto_region 6 with (go_at_call 6; refine (new_yes n _ (by omega) (by omega)).mono ?_; rintro e w2 ⟨P, Q, fv, rfl, hA, hb⟩)
    have O0 := hide (show On w1 w2 P Q fv (Arn.init n) (.slice none 0 0) [] from ⟨hA, hb, ⟨rfl, .inl ⟨rfl, rfl⟩⟩⟩)
    clear hA hb
    go_wp2_with fail
    go_loopw [7, 51] (fun v i wr => ∃ (k : Nat) (fv : Value) (s : Arn) (ts : List (Nat × Int)), k ≤ len ∧ i = .int .i64 k ∧ s.Ok n k ∧ Told ts s ∧ ts.length ≤ k ∧ On w1 wr P Q fv s v ts) (fun _ i _ => len - (intOf i).toNat)
    case atStart => exact ⟨0, _, _, _, by omega, rfl, init_ok (by omega) (by omega), told_nil _, by simp, O0.out⟩
    case round =>
      obtain ⟨k, fv, s, ts, hk, rfl, ok, ht, htl, hO⟩ := hrel
      have OK := hide ok
      have TT := hide ht
      have TL := hide htl
      clear ok ht htl O0
      by_cases hlt : k < len
      · obtain ⟨ad, x, y, z, rfl, hbl, hds, c0, c1, c2⟩ := hd1 k (by have := HL.out; omega)
        have e0 := (hO.hb.cell (p := ad.add (k * 3)) (by rw [block_of_add]; exact hbl)).trans c0
        have e1 := (hO.hb.cell (p := ad.add (k * 3 + 1)) (by rw [block_of_add]; exact hbl)).trans c1
        have e2 := (hO.hb.cell (p := ad.add (k * 3 + 2)) (by rw [block_of_add]; exact hbl)).trans c2
        rw [← add_of_add] at e1 e2
        have e1' : wr.cell? ⟨(ad.add (k * 3)).block, (ad.add (k * 3)).off + 1, none⟩ = some (.int .i64 y) := e1
        have e2' : wr.cell? ⟨(ad.add (k * 3)).block, (ad.add (k * 3)).off + 2, none⟩ = some (.int .i64 z) := e2
        clear e1 e2
        have hk0 : (0 : Int) ≤ k := by omega
        have hkl : (k : Int) < len := by omega
        have HO := hide hO
        clear hO c0 c1 c2 hd1 hds
        go_upto_block 2 with fail
        have OW := HO.out.below ((Below.refl _ _).alloc (Nat.le_refl _) (.cells #[.int .i64 x, .int .i64 y, .int .i64 z] 34))
        have DW := Blk.new wr 34 #[.int .i64 x, .int .i64 y, .int .i64 z]
        generalize World.alloc wr (.cells #[.int .i64 x, .int .i64 y, .int .i64 z] 34) = W at *
        generalize wr.heap.size = g at *
        have HOW := hide OW
        have HDW := hide DW
        clear HO OW DW e0 e1' e2'
        go_cut [7] (fun v wx => ∃ (fv : Value) (s : Arn) (ts : List (Nat × Int)), s.Ok n (k + 1) ∧ Told ts s ∧ ts.length ≤ k + 1 ∧ On w1 wx P Q fv s v ts)
        case first =>
          have kinds : x = 0 ∨ x = 1 ∨ (x ≠ 0 ∧ x ≠ 1) := by omega
          rcases kinds with rfl | rfl | ⟨hx0, hx1⟩
          · skip
            -- Alloc
            obtain ⟨A7, c7, rfl, h71, h72⟩ := own_form HOW.out.own
            have TL' := TL.out
            by_cases hK : s.K = []
            · have CC : Hid (∀ (W : World) (fv : Value) (h : ArnAt W w1.heap.size P Q fv s), Calls Try.prog 18 #[.pointer (some ⟨P, 0, none⟩), .int .i64 0] W fun e w' => e = .returned (.int .i64 0) ∧ W = w') := hide (fun W fv h => by have := count_any W h 0; rwa [count_same OK.out, OK.out.ct, hK] at this)
              have CA := hide (fun (W : World) (fv : Value) (h : ArnAt W w1.heap.size P Q fv s) => alloc_no W h OK.out hK)
              have HKK := hide hK
              clear hK
              go_upto_region 19 with (first
                | (go_at_call 18; refine (CC.out _ _ HOW.out.arn).mono ?_; rintro e _ ⟨rfl, rfl⟩)
                | (go_at_call 9; refine (CA.out _ _ HOW.out.arn).mono ?_; rintro e w4 ⟨fv', rfl, hA4, hT4, hf4⟩; have O4 := hide (HOW.out.turned hT4 hA4); clear hA4 hT4 hf4))
              have O5 := hide (O4.out.below ((Below.refl _ _).alloc (Nat.le_refl _) (.cells #[.int .i64 0, .int .i64 0] 36)))
              generalize World.alloc w4 _ = w5 at O5 ⊢
              generalize w4.heap.size = r at *
              go_quiet (fail)
              go_wp2_with fail
              go_loopw [122] (fun i wr => ∃ j : Nat, j ≤ ts.length ∧ i = .int .i64 j ∧ On w1 wr P Q fv' s (.slice A7 ts.length c7) ts) (fun i _ => ts.length - (intOf i).toNat)
              case atStart => exact ⟨0, by omega, rfl, O5.out.drewN _⟩
              case round =>
                obtain ⟨j, hj, rfl, hO⟩ := hrel
                by_cases hjl : j < ts.length
                · obtain ⟨g7, cap7, hv, _, hlt7⟩ := hO.own.form (by omega)
                  injection hv with hv _ _
                  subst hv
                  obtain ⟨t1, t2, htj⟩ : ∃ t1 t2, ts[j]? = some (t1, t2) := ⟨_, _, List.getElem?_eq_getElem hjl⟩
                  have m0 : wr.cell? ⟨g7, j * 2, none⟩ = some (.int .i64 t1) := by have := hO.own.cells (g := g7) rfl (j * 2) _ (refs_get htj).1; rwa [add_mk, Nat.zero_add] at this
                  have m1 : wr.cell? ⟨g7, j * 2 + 1, none⟩ = some (.int .i64 t2) := by have := hO.own.cells (g := g7) rfl (j * 2 + 1) _ (refs_get htj).2; rwa [add_mk, Nat.zero_add] at this
                  have HO := hide hO
                  clear hO
                  go_wp2_with fail
                  go_roundw
                  case rel => exact ⟨j + 1, by omega, by go_num, HO.out.below ((Below.refl _ _).alloc (Nat.le_refl _) _)⟩
                  case measure => first | (simp [intOf]; done) | (simp [intOf]; omega)
                · have HO := hide hO
                  clear hO
                  go_wp2_with fail
                  go_meet
                  case rel => exact ⟨_, s, ts, ok_more1 OK.out (by omega), TT.out, by omega, HO.out⟩
            · obtain ⟨K', q, g', hK', q1, ql, qS, qG⟩ := last_of OK.out hK
              obtain ⟨K0, hK0⟩ : ∃ K0 : Nat, s.K.length = K0 + 1 := ⟨s.K.length - 1, by have := List.length_pos_iff.2 hK; omega⟩
              obtain ⟨l1, l2, l3⟩ := ok_len1 OK.out
              have OK2 := hide (ok_more1 (alloc_ok OK.out hK') (show k ≤ k + 1 by omega))
              have TT2 := hide (told_alloc TT.out ql qG)
              have TN := hide (told_new TT.out qS qG)
              have CC : Hid (∀ (W : World) (fv : Value) (h : ArnAt W w1.heap.size P Q fv s), Calls Try.prog 18 #[.pointer (some ⟨P, 0, none⟩), .int .i64 0] W fun e w' => e = .returned (.int .i64 ((K0 : Int) + 1)) ∧ W = w') := hide (fun W fv h => by have := count_any W h 0; rwa [count_same OK.out, OK.out.ct, hK0] at this)
              have CC2 : Hid (∀ (W : World) (fv : Value) (h : ArnAt W w1.heap.size P Q fv (s.alloc q)), Calls Try.prog 18 #[.pointer (some ⟨P, 0, none⟩), .int .i64 0] W fun e w' => e = .returned (.int .i64 K0) ∧ W = w') := hide (fun W fv h => by
                have := count_any W h 0
                rwa [count_same OK2.out, OK2.out.ct, show (s.alloc q).K.length = K0 by show s.K.dropLast.length = K0; rw [List.length_dropLast, hK0]; rfl] at this)
              have CA := hide (fun (W : World) (fv : Value) (h : ArnAt W w1.heap.size P Q fv s) => alloc_yes W h OK.out K' q hK' g' qG)
              have CS2 : Hid (∀ (W : World) (fv : Value) (h : ArnAt W w1.heap.size P Q fv (s.alloc q)), Calls Try.prog 14 #[.pointer (some ⟨P, 0, none⟩), .int .i64 q] W fun e w' => e = .returned (.int .i64 1) ∧ W = w') := hide (fun W fv h => by
                have := state_any W h OK2.out (q : Int)
                rwa [stateOf_at q1 (show (s.alloc q).S[q]? = some 1 by show (s.S.set q _)[q]? = _; rw [set_get qS, if_pos rfl])] at this)
              have CG2 : Hid (∀ (W : World) (fv : Value) (h : ArnAt W w1.heap.size P Q fv (s.alloc q)), Calls Try.prog 16 #[.pointer (some ⟨P, 0, none⟩), .int .i64 q] W fun e w' => e = .returned (.int .i64 g') ∧ W = w') := hide (fun W fv h => by
                have := gen_any W h OK2.out (q : Int)
                rwa [genOf_at (S := (s.alloc q).S) (G := (s.alloc q).G) (g := g') q1 (show q < (s.S.set q 1).length by rw [List.length_set]; exact ql) qG] at this)
              have hw1 : wrap64 (K0 : Int) = K0 := IntWalk.wrap64_in _ (by omega)
              have HK := hide hK
              have HK' := hide hK'
              have HK0 := hide hK0
              have HS := hide qS
              have HG := hide qG
              clear hK hK' hK0 qS qG
              go_upto_region 19 with (first
                | (go_at_call 18; refine (CC.out _ _ HOW.out.arn).mono ?_; rintro e _ ⟨rfl, rfl⟩)
                | (go_at_call 9; refine (CA.out _ _ HOW.out.arn).mono ?_; rintro e w4 ⟨fv', rfl, hA4, hT4, hf4⟩; have O4 := hide (HOW.out.turned hT4 hA4); clear hA4 hT4 hf4))
              have O5 := hide (O4.out.below ((Below.refl _ _).alloc (Nat.le_refl _) (.cells #[.int .i64 q, .int .i64 g'] 36)))
              have R5 := hide (Blk.new w4 36 #[.int .i64 q, .int .i64 g'])
              generalize World.alloc w4 _ = w5 at O5 R5 ⊢
              generalize w4.heap.size = r at *
              have r0 : w5.cell? ⟨r, 0, none⟩ = some (.int .i64 q) := by rw [R5.out.cell]; rfl
              have r1 : w5.cell? ⟨r, 1, none⟩ = some (.int .i64 g') := by rw [R5.out.cell]; rfl
              have hpos : (0 : Int) < (K0 : Int) + 1 := by omega
              have hdp : decide ((0 : Int) < (K0 : Int) + 1) = true := decide_eq_true (by omega)
              go_quiet ((first
                | (go_at_call 18; exact quiet_left (CC2.out _ _ (O5.out.drewN _).arn))
                | (go_at_call 14; exact quiet_left (CS2.out _ _ (O5.out.drewN _).arn))
                | (go_at_call 16; exact quiet_left (CG2.out _ _ (O5.out.drewN _).arn))))
              go_wp2_with fail
              clear r0 r1 hpos hdp hw1
              go_loopw [122] (fun i wr => ∃ j : Nat, j ≤ ts.length ∧ i = .int .i64 j ∧ On w1 wr P Q fv' (s.alloc q) (.slice A7 ts.length c7) ts ∧ Blk wr r 36 #[.int .i64 q, .int .i64 g']) (fun i _ => ts.length - (intOf i).toNat)
              case atStart => exact ⟨0, by omega, rfl, O5.out.drewN _, R5.out.drewN _⟩
              case round =>
                obtain ⟨j, hj, rfl, hO, hR⟩ := hrel
                have r0 : wr.cell? ⟨r, 0, none⟩ = some (.int .i64 q) := by rw [hR.cell]; rfl
                have r1 : wr.cell? ⟨r, 1, none⟩ = some (.int .i64 g') := by rw [hR.cell]; rfl
                have lr := hR.lt
                by_cases hjl : j < ts.length
                · obtain ⟨g7, cap7, hv, _, hlt7⟩ := hO.own.form (by omega)
                  injection hv with hv _ _
                  subst hv
                  obtain ⟨t1, t2, htj⟩ : ∃ t1 t2, ts[j]? = some (t1, t2) := ⟨_, _, List.getElem?_eq_getElem hjl⟩
                  have m0 : wr.cell? ⟨g7, j * 2, none⟩ = some (.int .i64 t1) := by have := hO.own.cells (g := g7) rfl (j * 2) _ (refs_get htj).1; rwa [add_mk, Nat.zero_add] at this
                  have m1 : wr.cell? ⟨g7, j * 2 + 1, none⟩ = some (.int .i64 t2) := by have := hO.own.cells (g := g7) rfl (j * 2 + 1) _ (refs_get htj).2; rwa [add_mk, Nat.zero_add] at this
                  have hne : ((t1 : Int) == (q : Int) && t2 == g') = false := by
                    rw [Bool.and_eq_false_iff]
                    by_cases e1 : t1 = q
                    · by_cases e2 : t2 = g'
                      · exact (TN.out (t1, t2) (List.mem_of_getElem? htj) e1 e2).elim
                      · exact .inr (by rw [beq_eq_false_iff_ne]; exact e2)
                    · exact .inl (by rw [beq_eq_false_iff_ne]; omega)
                  have HTJ := hide htj
                  have HO := hide hO
                  have HR := hide hR
                  clear hO hR htj
                  have heq := run_eql_ref
                  have hqg : Try.prog.eqGuardType Try.prog.depth 36 = false := by kernel_rfl
                  go_wp2_with fail
                  go_roundw
                  case rel => exact ⟨j + 1, by omega, by go_num, HO.out.below ((Below.refl _ _).alloc (Nat.le_refl _) _), HR.out.alloc _⟩
                  case measure => first | (simp [intOf]; done) | (simp [intOf]; omega)
                · have HO := hide hO
                  have HR := hide hR
                  clear hO hR
                  have hts := TL'
                  have HB2 := hide HO.out.hb.size
                  go_wp2_with (at_builtin; refine wpList_append_elem rfl _ _ 49 rfl w1.heap.size Try.underlying49 info_ref rfl (by decide) (.slice A7 ts.length c7) ts.length (refs ts) rfl HO.out.own _ _ rfl rfl (by simp [Value.oneCell']) (by simp only [maxLen]; omega) (by omega) HB2.out ?_; intro v' w9 hown9 hgr9 hat9; have O9 := hide (HO.out.told (ts' := ts ++ [(q, g')]) (by rw [refs_more, List.length_append]; exact hown9) hgr9); clear hown9 hgr9 hat9)
                  go_meet
                  case rel => exact ⟨_, _, _, OK2.out, TT2.out, by have := TL.out; simp; omega, O9.out⟩
          · skip
            -- Move
            have d1 : W.cell? ⟨g, 1, none⟩ = some (.int .i64 y) := by rw [HDW.out.cell]; rfl
            have d2 : W.cell? ⟨g, 2, none⟩ = some (.int .i64 z) := by rw [HDW.out.cell]; rfl
            have OD := hide (HOW.out.below (Below.refl _ _).drew)
            cases hm : moves s.S y z
            · have CS := hide (fun (W : World) (fv : Value) (h : ArnAt W w1.heap.size P Q fv s) => state_any W h OK.out y)
              have CM := hide (fun (W : World) (fv : Value) (h : ArnAt W w1.heap.size P Q fv s) => move_no W h OK.out y z hm)
              clear hm
              go_upto_region 31 with (go_at_call 14; refine (CS.out _ _ HOW.out.arn).mono ?_; rintro e _ ⟨rfl, rfl⟩)
              go_quiet ((go_at_call 11; exact quiet_left (CM.out _ _ (HOW.out.drewN _).arn)))
              go_wp2_with fail
              go_meet
              case rel => exact ⟨fv, s, ts, ok_more1 OK.out (by omega), TT.out, by have := TL.out; omega, HOW.out.drewN _⟩
            · have hmm := of_decide_eq_true hm
              clear hm
              rcases slot_or (S := s.S) y with hi | ⟨q, u, rfl, q1, ql, hq⟩
              · rw [stateOf_out hi] at hmm; omega
              · rw [stateOf_at q1 hq] at hmm
                obtain ⟨u1, u3, rfl⟩ := hmm
                obtain ⟨u, rfl⟩ := Int.eq_ofNat_of_zero_le (show 0 ≤ u by omega)
                have OK2 := hide (ok_more1 (move_ok OK.out q1 hq (by omega) (by omega)) (show k ≤ k + 1 by omega))
                have TT2 := hide (told_use TT.out q ((u + 1 : Nat) : Int) (by omega) s.K)
                have CM : Hid (∀ (W : World) (fv : Value) (h : ArnAt W w1.heap.size P Q fv s), Calls Try.prog 11 #[.pointer (some ⟨P, 0, none⟩), .int .i64 q, .int .i64 ((u : Int) + 1)] W (MoveDone W w1.heap.size P Q fv (s.set q ((u + 1 : Nat) : Int)))) := hide (fun W fv h => move_yes W h OK.out q u q1 hq (by omega) (by omega))
                have CS : Hid (∀ (W : World) (fv : Value) (h : ArnAt W w1.heap.size P Q fv s), Calls Try.prog 14 #[.pointer (some ⟨P, 0, none⟩), .int .i64 q] W fun e w' => e = .returned (.int .i64 u) ∧ W = w') := hide (fun W fv h => by have := state_any W h OK.out (q : Int); rwa [stateOf_at q1 hq] at this)
                have CS2 : Hid (∀ (W : World) (fv : Value) (h : ArnAt W w1.heap.size P Q fv (s.set q ((u + 1 : Nat) : Int))), Calls Try.prog 14 #[.pointer (some ⟨P, 0, none⟩), .int .i64 q] W fun e w' => e = .returned (.int .i64 ((u : Int) + 1)) ∧ W = w') := hide (fun W fv h => by
                  have := state_any W h OK2.out (q : Int)
                  rwa [stateOf_at q1 (show (s.set q ((u + 1 : Nat) : Int)).S[q]? = some ((u + 1 : Nat) : Int) by show (s.S.set q _)[q]? = _; rw [List.getElem?_set, if_pos rfl, if_pos ql])] at this)
                have DD : Hid (Blk W.drew g 34 #[.int .i64 1, .int .i64 q, .int .i64 ((u : Int) + 1)]) := hide (HDW.out.below (B := W.heap.size) (Below.refl _ _).drew HDW.out.lt)
                have k0 : W.drew.cell? ⟨g, 1, none⟩ = some (.int .i64 q) ∧ W.drew.cell? ⟨g, 2, none⟩ = some (.int .i64 ((u : Int) + 1)) := ⟨by rw [DD.out.cell]; rfl, by rw [DD.out.cell]; rfl⟩
                have hw1 : IntKind.i64.wrap ((u : Int) + 1) = (u : Int) + 1 := IntWalk.i64_in _ (by omega)
                have HQ := hide hq
                clear hq
                go_upto_region 31 with (go_at_call 14; refine (CS.out _ _ HOW.out.arn).mono ?_; rintro e _ ⟨rfl, rfl⟩)
                clear d1 d2
                go_region_held3 (fun w' => w'.cell? ⟨g, 1, none⟩ = some (.int .i64 q) ∧ w'.cell? ⟨g, 2, none⟩ = some (.int .i64 ((u : Int) + 1))) (assumption)
                  (first
                    | (go_at_call 11; refine (CM.out _ _ OD.out.arn).mono ?_; rintro e w7 ⟨rfl, hA7, hT7⟩; have O7 := hide (OD.out.turned hT7 hA7); have D7 := turned_blk hT7 OD.out.arn DD.out (by decide) (by decide) (by decide); have k7 : w7.cell? ⟨g, 1, none⟩ = some (.int .i64 q) ∧ w7.cell? ⟨g, 2, none⟩ = some (.int .i64 ((u : Int) + 1)) := (And.intro (by rw [D7.cell]; rfl) (by rw [D7.cell]; rfl)); clear hA7 hT7 D7)
                    | (go_at_call 14; refine (CS2.out _ _ O7.out.arn).mono ?_; rintro e _ ⟨rfl, rfl⟩))
                go_wp2_with fail
                go_meet
                case rel => exact ⟨fv, _, ts, OK2.out, TT2.out, by have := TL.out; omega, O7.out⟩
          · have bx0 : (x == 0) = false := by rw [beq_eq_false_iff_ne]; exact hx0
            have bx1 : (x == 1) = false := by rw [beq_eq_false_iff_ne]; exact hx1
            clear hx0 hx1
            -- Free
            have d1 : W.cell? ⟨g, 1, none⟩ = some (.int .i64 y) := by rw [HDW.out.cell]; rfl
            by_cases hm : stateOf s.S y = 1 ∨ stateOf s.S y = 4
            · rcases slot_or (S := s.S) y with hi | ⟨q, u, rfl, q1, ql, hq⟩
              · rw [stateOf_out hi] at hm; omega
              · rw [stateOf_at q1 hq] at hm
                obtain ⟨u, rfl⟩ := Int.eq_ofNat_of_zero_le (show 0 ≤ u by omega)
                have hu : u = 1 ∨ u = 4 := by omega
                clear hm
                obtain ⟨g', hg⟩ : ∃ g', s.G[q]? = some g' := ⟨_, List.getElem?_eq_getElem (by have := OK.out.hS; have := OK.out.hG; omega)⟩
                obtain ⟨g0, gm⟩ := OK.out.gn q g' hg
                obtain ⟨l1, l2, l3⟩ := ok_len1 OK.out
                have OK2 := hide (free_ok OK.out q1 hq hu hg)
                have TT2 := hide (told_free TT.out hg)
                have CF := hide (fun (W : World) (fv : Value) (h : ArnAt W w1.heap.size P Q fv s) (hB : w1.heap.size ≤ W.heap.size) => free_yes W h OK.out q u q1 hq hu g' hg (by omega) l3 hB)
                have CG : Hid (∀ (W : World) (fv : Value) (h : ArnAt W w1.heap.size P Q fv s), Calls Try.prog 16 #[.pointer (some ⟨P, 0, none⟩), .int .i64 q] W fun e w' => e = .returned (.int .i64 g') ∧ W = w') := hide (fun W fv h => by have := gen_any W h OK.out (q : Int); rwa [genOf_at q1 ql hg] at this)
                have CG2 : Hid (∀ (W : World) (fv : Value) (h : ArnAt W w1.heap.size P Q fv (s.free q g')), Calls Try.prog 16 #[.pointer (some ⟨P, 0, none⟩), .int .i64 q] W fun e w' => e = .returned (.int .i64 (g' + 1)) ∧ W = w') := hide (fun W fv h => by
                  have := gen_any W h OK2.out (q : Int)
                  rwa [genOf_at (S := (s.free q g').S) (G := (s.free q g').G) (g := g' + 1) q1 (show q < (s.free q g').S.length by show q < (s.S.set q 0).length; rw [List.length_set]; exact ql) (show (s.G.set q (g' + 1))[q]? = _ by rw [set_get hg, if_pos rfl])] at this)
                have CS2 : Hid (∀ (W : World) (fv : Value) (h : ArnAt W w1.heap.size P Q fv (s.free q g')), Calls Try.prog 14 #[.pointer (some ⟨P, 0, none⟩), .int .i64 q] W fun e w' => e = .returned (.int .i64 0) ∧ W = w') := hide (fun W fv h => by
                  have := state_any W h OK2.out (q : Int)
                  rwa [stateOf_at q1 (show (s.free q g').S[q]? = some 0 by show (s.S.set q _)[q]? = _; rw [set_get hq, if_pos rfl])] at this)
                have HQ := hide hq
                have HG := hide hg
                clear hq hg
                have gk : g' ≤ 200 := by omega
                go_upto_region 14 with (go_at_call 16; refine (CG.out _ _ HOW.out.arn).mono ?_; rintro e _ ⟨rfl, rfl⟩)
                go_wp2_with (first
                    | (go_at_call 13; refine (CF.out _ _ HOW.out.arn HOW.out.hb.size).mono ?_; rintro e w7 ⟨fv', rfl, hA7, hT7, hf7⟩; have O7 := hide (HOW.out.turned hT7 hA7); have D7 := turned_blk hT7 HOW.out.arn HDW.out (by decide) (by decide) (by decide); have k7 : w7.cell? ⟨g, 1, none⟩ = some (.int .i64 q) := (by rw [D7.cell]; rfl); clear hA7 hT7 D7 hf7)
                    | (go_at_call 14; refine (CS2.out _ _ O7.out.arn).mono ?_; rintro e _ ⟨rfl, rfl⟩)
                    | (go_at_call 16; refine (CG2.out _ _ O7.out.arn).mono ?_; rintro e _ ⟨rfl, rfl⟩))
                go_meet
                case rel => exact ⟨_, _, ts, OK2.out, TT2.out, by have := TL.out; omega, O7.out⟩
            · have CF := hide (fun (W : World) (fv : Value) (h : ArnAt W w1.heap.size P Q fv s) => free_no W h OK.out y hm)
              have CG := hide (fun (W : World) (fv : Value) (h : ArnAt W w1.heap.size P Q fv s) => gen_any W h OK.out y)
              have HM := hide hm
              clear hm
              go_wp2_with (first
                    | (go_at_call 13; refine (CF.out _ _ HOW.out.arn).mono ?_; rintro e _ ⟨rfl, rfl⟩)
                    | (go_at_call 16; refine (CG.out _ _ HOW.out.arn).mono ?_; rintro e _ ⟨rfl, rfl⟩))
              go_meet
              case rel => exact ⟨fv, s, ts, ok_more1 OK.out (by omega), TT.out, by have := TL.out; omega, HOW.out⟩
        case rest =>
          obtain ⟨fv, s, ts, ok, ht, htl, hO⟩ := hcut
          have CC : Hid (∀ (W : World) (h : ArnAt W w1.heap.size P Q fv s) (z : Int), Calls Try.prog 18 #[.pointer (some ⟨P, 0, none⟩), .int .i64 z] W fun e w' => e = .returned (.int .i64 (cnt s.S z)) ∧ W = w') := hide (fun W h z => by have := count_any W h z; rwa [count_same ok] at this)
          have HO := hide hO
          have HK := hide ok
          have HT := hide ht
          have HTL := hide htl
          clear ok ht htl hO OK TT TL HOW HDW
          go_wp2_with fail
          go_loopw [17, 18] (fun a i wr => ∃ j : Nat, j ≤ 5 ∧ i = .int .i64 j ∧ a = .int .i64 (sumTo s.S j) ∧ wr = wc) (fun _ i _ => 5 - (intOf i).toNat)
          case atStart => exact ⟨0, by omega, rfl, rfl, (by first | rfl | trivial)⟩
          case round =>
            obtain ⟨j, hj, rfl, rfl, rfl⟩ := hrel
            by_cases h5 : j < 5
            · have s1 := sum_le HK.out (show j + 1 ≤ 5 by omega)
              rw [show sumTo s.S (j + 1) = sumTo s.S j + cnt s.S j from rfl] at s1
              have HS := hide (show sumTo s.S (j + 1) = sumTo s.S j + cnt s.S j from rfl)
              go_wp2_with (go_at_call 18; refine (CC.out _ HO.out.arn _).mono ?_; rintro e _ ⟨rfl, rfl⟩)
              go_roundw
              case rel => exact ⟨j + 1, by omega, by go_num, by rw [HS.out]; go_num, (by first | rfl | trivial)⟩
              case measure => first | (simp [intOf]; done) | (simp [intOf]; omega)
            · obtain rfl : j = 5 := by omega
              rw [sum_all HK.out]
              go_wp2_with fail
              go_roundw
              case rel => exact ⟨k + 1, fv, s, ts, by omega, by go_num, HK.out, HT.out, HTL.out, HO.out⟩
              case measure => first | (simp [intOf]; done) | (simp [intOf]; omega)
      · have hge : (len : Int) ≤ k := by omega
        have HO := hide hO
        clear hO
        go_wp2_with fail
        go_ret
        exact ⟨rfl, Below.step HB0.out HO.out.hb⟩
end Go.Proofs.Ytoodcfldnojkjab
