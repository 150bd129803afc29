/-
  The document's idmap: Put of what is not there. Conditions: the list reads as said.
-/
import Derived.Test.YtoadcfjkommlkaaIdmL
namespace Go.Proofs.Ytoadcfjkommlkaa
set_option linter.unusedSimpArgs false
set_option linter.unusedVariables false
open Go.RowKit

/-- the variables of the document's Put -/
structure PB (w : World) (r : Nat) (sh ver r1 r2 : Int) (L : Value) (W : World) : Prop where
  bel : Below w.heap.size w W
  m : Blk W w.heap.size 30 #[.int .i64 sh, L, .int .i64 ver]
  x : Blk W (w.heap.size + 1) 35 #[.int .i64 r1, .int .i64 r2]
  r : Blk W r 30 #[.int .i64 0, .slice none 0 0, .int .i64 0]
section
variable {w W W' : World} {r : Nat} {sh ver r1 r2 : Int} {L : Value}
theorem PB.step (h : PB w r sh ver r1 r2 L W) (hb : Below W.heap.size W W') : PB w r sh ver r1 r2 L W' :=
  ⟨Below.step h.bel hb, h.m.below hb h.m.lt, h.x.below hb h.x.lt, h.r.below hb h.r.lt⟩
theorem PB.grown {v : Value} {m : Nat} {xs : List Value} (h : PB w r sh ver r1 r2 L W) (ho : W.ownsRow w.heap.size 56 3 v m xs) (hg : W.grownBy W' v.ownBlock) : PB w r sh ver r1 r2 L W' :=
  ⟨below_own h.bel ho h.bel.size hg, h.m.grown hg (fun e => own_blk_ne ho h.m (by decide) e.symm), h.x.grown hg (fun e => own_blk_ne ho h.x (by decide) e.symm), h.r.grown hg (fun e => own_blk_ne ho h.r (by decide) e.symm)⟩
theorem PB.stored {v : Value} {m : Nat} {xs : List Value} (h : PB w r sh ver r1 r2 L W) (hr : w.heap.size < r) (ho : W.ownsRow w.heap.size 56 3 v m xs) (ver' : Int) :
    PB w r sh ver' r1 r2 v ((W.setCell ⟨w.heap.size, 1, none⟩ v).setCell ⟨w.heap.size, 2, none⟩ (.int .i64 ver')) ∧ ((W.setCell ⟨w.heap.size, 1, none⟩ v).setCell ⟨w.heap.size, 2, none⟩ (.int .i64 ver')).ownsRow w.heap.size 56 3 v m xs := by
  have n1 := own_blk_ne ho h.m (by decide)
  have n3 : w.heap.size + 1 ≠ w.heap.size := by omega
  refine ⟨⟨(h.bel.setCell (p := ⟨w.heap.size, 1, none⟩) (Nat.le_refl _) v).setCell (p := ⟨w.heap.size, 2, none⟩) (Nat.le_refl _) _, (h.m.set_ 1 v).set_ 2 (.int .i64 ver'), (h.x.far (p := ⟨w.heap.size, 1, none⟩) n3 v).far (p := ⟨w.heap.size, 2, none⟩) n3 _, (h.r.far (p := ⟨w.heap.size, 1, none⟩) (by show r ≠ w.heap.size; omega) v).far (p := ⟨w.heap.size, 2, none⟩) (by show r ≠ w.heap.size; omega) _⟩, own_keep ho fun g hg => ?_⟩
  have e1 : g ≠ w.heap.size := fun e => n1 (e ▸ hg)
  rw [Below.heap_setCell _ _ _ _ e1, Below.heap_setCell _ _ _ _ e1]
theorem PB.given {v : Value} {m : Nat} {xs : List Value} (h : PB w r sh ver r1 r2 L W) (hr : w.heap.size < r) (ho : W.ownsRow w.heap.size 56 3 v m xs) :
    Blk (((W.setCell ⟨r, 0, none⟩ (.int .i64 sh)).setCell ⟨r, 1, none⟩ L).setCell ⟨r, 2, none⟩ (.int .i64 ver)) r 30 #[.int .i64 sh, L, .int .i64 ver] ∧
    (((W.setCell ⟨r, 0, none⟩ (.int .i64 sh)).setCell ⟨r, 1, none⟩ L).setCell ⟨r, 2, none⟩ (.int .i64 ver)).ownsRow w.heap.size 56 3 v m xs ∧
    Below w.heap.size w (((W.setCell ⟨r, 0, none⟩ (.int .i64 sh)).setCell ⟨r, 1, none⟩ L).setCell ⟨r, 2, none⟩ (.int .i64 ver)) := by
  have n2 := own_blk_ne ho h.r (by decide)
  refine ⟨((h.r.set_ 0 (.int .i64 sh)).set_ 1 L).set_ 2 (.int .i64 ver), own_keep ho fun g hg => ?_, ((h.bel.setCell (p := ⟨r, 0, none⟩) (Nat.le_of_lt hr) _).setCell (p := ⟨r, 1, none⟩) (Nat.le_of_lt hr) _).setCell (p := ⟨r, 2, none⟩) (Nat.le_of_lt hr) _⟩
  have e2 : g ≠ r := fun e => n2 (e ▸ hg)
  rw [Below.heap_setCell _ _ _ _ e2, Below.heap_setCell _ _ _ _ e2, Below.heap_setCell _ _ _ _ e2]
end
set_option maxHeartbeats 4000000 in
theorem refPut_new (A : Option Addr) (n c : Nat) (l : List NamedV) (sh ver id r1 r2 : Int) (w : World) (hx : Rd SNm w w.heap.size A l) (hn : l.length = n) (h6 : n ≤ 1000) (hs : (lookF l id).isSome = false) (hv : 0 ≤ ver ∧ ver ≤ 1000000) :
    Calls Try.prog 8 #[.agg #[.int .i64 sh, .slice A n c, .int .i64 ver], .int .u64 id, .agg #[.int .i64 r1, .int .i64 r2]] w fun e w' => ∃ v, e = .returned (.tuple #[.agg #[.int .i64 sh, v, .int .i64 (ver + 1)], .bool true]) ∧ w'.ownsRow w.heap.size 56 3 v (n + 1) (fcs encN (insP l id (r1, r2))) ∧ Below w.heap.size w w' := by
  obtain ⟨k0, k1, k2, kB⟩ := blk3 w #[.int .i64 sh, .slice A n c, .int .i64 ver] #[.int .i64 r1, .int .i64 r2] #[.int .i64 0, .slice none 0 0, .int .i64 0] 30 35 30
  obtain ⟨⟨q1, q2⟩, hq⟩ : ∃ q, (lookF l id).getD (0, 0) = q := ⟨_, rfl⟩
  obtain ⟨r, hr⟩ : ∃ r, w.heap.size + 2 = r := ⟨_, rfl⟩
  have HP := hide (show PB w r sh ver r1 r2 (.slice A n c) (((w.alloc (.cells #[.int .i64 sh, .slice A n c, .int .i64 ver] 30)).alloc (.cells #[.int .i64 r1, .int .i64 r2] 35)).alloc (.cells #[.int .i64 0, .slice none 0 0, .int .i64 0] 30)) from ⟨kB, k0, k1, by rw [← hr]; exact k2⟩)
  have HX := hide hx
  have Hn := hide hn
  have HG := hide (fun W (h : Rd SNm W W.heap.size A l) => refGet_any A n c l sh ver id W h hn h6)
  rw [hq, hs] at HG
  have hv1 : IntKind.i64.wrap (ver + 1) = ver + 1 := IntWalk.i64_in _ (by omega)
  unfold encR at HG
  clear hx hn k0 k1 k2 kB hs hq
  go_enter Try.func8, Try.ntmps8
  go_upto_region 1 with fail
  generalize World.alloc (World.alloc (World.alloc w _) _) _ = w2 at *
  first | rw [hr] | rw [show w.heap.size + 1 + 1 = r from hr] | skip
  have Hr := hide (show w.heap.size < r by omega)
  clear hr
  obtain ⟨z0, z1⟩ : w2.cell? ⟨w.heap.size, 0, none⟩ = some (.int .i64 sh) ∧ w2.cell? ⟨w.heap.size, 1, none⟩ = some (.slice A n c) := ⟨by rw [HP.out.m.cell]; rfl, by rw [HP.out.m.cell]; rfl⟩
  have z2 : w2.cell? ⟨w.heap.size, 2, none⟩ = some (.int .i64 ver) := by rw [HP.out.m.cell]; rfl
  go_upto_region 4 with (go_at_call 13; refine (HG.out _ (HX.out.at_world HP.out.bel)).mono ?_; rintro e w3 ⟨rfl, hb⟩; have HP3 := hide (HP.out.step hb); clear hb)
  clear z0 z1 z2 HP
  replace HP3 := hide (HP3.out.step (below1 w3 (.cells #[.int .i64 q1, .int .i64 q2] 35)))
  generalize World.alloc w3 _ = w4 at *
  have z1 : w4.cell? ⟨w.heap.size, 1, none⟩ = some (.slice A n c) := by rw [HP3.out.m.cell]; rfl
  go_wp2
  clear z1
  go_loopw [10, 11, 25] (fun v d i wr => ∃ (k m : Nat) (db : Bool), k ≤ n ∧ i = .int .i64 k ∧ d = .bool db ∧ Hid ((foldP id (r1, r2) (l.take k)).2 = db) ∧ Hid ((foldP id (r1, r2) (l.take k)).1.length = m) ∧ Hid (wr.ownsRow w.heap.size 56 3 v m (fcs encN (foldP id (r1, r2) (l.take k)).1)) ∧ Hid (PB w r sh ver r1 r2 (.slice A n c) wr)) (fun _ _ i _ => n - (intOf i).toNat)
  case atStart => exact ⟨0, 0, false, by omega, rfl, rfl, hide rfl, hide rfl, hide (World.ownsRow_nil _ _ _ _), HP3⟩
  case round =>
    obtain ⟨k, m, db, hk, rfl, rfl, Hd, Hm, HO, HPr⟩ := hrel
    clear HP3
    obtain ⟨AV, cV, rfl, o1, o2⟩ := own_form HO.out
    have hml := hide (show m ≤ 1001 by
      have a := foldP_len id (r1, r2) (l.take k)
      rw [Hm.out, List.length_take] at a
      have := Hn.out
      split at a <;> omega)
    by_cases hlt : k < n
    · obtain ⟨ad, ⟨x0, x1, x2⟩, rfl, hbl, hs, c0, c1, c2⟩ := RdR.ncell (HX.out.below HPr.out.bel (Nat.le_refl _)) (k := k) (by rw [Hn.out]; exact hlt)
      simp only at c0 c1 c2
      have g1 : (k : Int) < n := by omega
      have g0 : (0 : Int) ≤ k := by omega
      have HT := hide (foldP_succ (id := id) (r := (r1, r2)) hs)
      clear hs hbl
      go_upto_region 9 with fail
      have hb1 := below1 wr (.cells #[.int .u64 x0, .int .i64 x1, .int .i64 x2] 56)
      have HN := hide (Blk.new wr 56 #[.int .u64 x0, .int .i64 x1, .int .i64 x2])
      have HP2 := hide (HPr.out.step hb1)
      have HO2 := hide (own_keep (w' := wr.alloc (.cells #[.int .u64 x0, .int .i64 x1, .int .i64 x2] 56)) HO.out fun g hg => hb1.block g (HO.out.lt g hg).2)
      have Hbb := hide (show (Value.slice AV m cV).ownBlock ≠ some wr.heap.size from fun e => by have := (HO.out.lt _ e).2; omega)
      clear hb1 c0 c1 c2 HO HPr
      generalize World.alloc wr _ = w5 at *
      generalize wr.heap.size = b at *
      have y0 : w5.cell? ⟨b, 0, none⟩ = some (.int .u64 x0) := by rw [HN.out.cell]; rfl
      have y1 : w5.cell? ⟨b, 1, none⟩ = some (.int .i64 x1) := by rw [HN.out.cell]; rfl
      have y2 : w5.cell? ⟨b, 2, none⟩ = some (.int .i64 x2) := by rw [HN.out.cell]; rfl
      have hml' := hml.out
      by_cases hc : db = false ∧ id < x0
      · obtain ⟨rfl, hlt2⟩ := hc
        have e2 : decide (id < x0) = true := decide_eq_true hlt2
        have HS := hide (show stepP id (r1, r2) (foldP id (r1, r2) (l.take k)) (x0, x1, x2) = ((foldP id (r1, r2) (l.take k)).1 ++ [(id, (r1, r2))] ++ [(x0, x1, x2)], true) by
          unfold stepP
          rw [if_pos ⟨Hd.out, hlt2⟩])
        have u0 : w5.cell? ⟨w.heap.size + 1, 0, none⟩ = some (.int .i64 r1) := by rw [HP2.out.x.cell]; rfl
        have u1 : w5.cell? ⟨w.heap.size + 1, 1, none⟩ = some (.int .i64 r2) := by rw [HP2.out.x.cell]; rfl
        go_upto_region 12 with (at_builtin; refine wpList_append_elem rfl (.tmp 37) (.tmp 41) 28 rfl w.heap.size Try.underlying28 info_named rfl (by decide) (.slice AV m cV) m _ rfl HO2.out _ _ rfl rfl (by simp [Value.oneCell']) (by simp only [maxLen]; omega) (by omega) HP2.out.bel.size ?_; intro v9 w9 hown9 hgr9 hat9; have HP9 := hide (HP2.out.grown HO2.out hgr9); have HO9 := hide hown9; have HG9 := hide hgr9; obtain ⟨A9, c9, rfl, p1, p2⟩ := own_form hown9; have HN9 := hide (HN.out.grown hgr9 fun e => Hbb.out e.symm); clear hown9 hgr9 hat9)
        clear y0 y1 y2 u0 u1
        have y0 : w9.cell? ⟨b, 0, none⟩ = some (.int .u64 x0) := by rw [HN9.out.cell]; rfl
        have y1 : w9.cell? ⟨b, 1, none⟩ = some (.int .i64 x1) := by rw [HN9.out.cell]; rfl
        have y2 : w9.cell? ⟨b, 2, none⟩ = some (.int .i64 x2) := by rw [HN9.out.cell]; rfl
        go_wp2_with (at_builtin; refine wpList_append_elem rfl (.tmp 43) (.tmp 45) 28 rfl w.heap.size Try.underlying28 info_named rfl (by decide) (.slice A9 (m + 1) c9) (m + 1) _ rfl HO9.out _ _ rfl rfl (by simp [Value.oneCell']) (by simp only [maxLen]; omega) (by omega) HP9.out.bel.size ?_; intro v10 w10 hown10 hgr10 hat10; have HP10 := hide (HP9.out.grown HO9.out hgr10); have HO10 := hide hown10; have HG10 := hide hgr10; clear hown10 hgr10 hat10)
        go_roundw
        case rel => exact ⟨k + 1, m + 1 + 1, true, by omega, by go_num, rfl, hide (by rw [HT.out, HS.out]), hide (by rw [HT.out, HS.out]; simp [Hm.out]), hide (by rw [HT.out, HS.out, fcs_snoc, fcs_snoc]; exact HO10.out), HP10⟩
        case measure => simp [intOf]; omega
      · have e1 : (!db && decide (id < x0)) = false := by
          rcases db with _ | _
          · have : ¬ id < x0 := fun h => hc ⟨rfl, h⟩
            simp [this]
          · rfl
        have HS := hide (show stepP id (r1, r2) (foldP id (r1, r2) (l.take k)) (x0, x1, x2) = ((foldP id (r1, r2) (l.take k)).1 ++ [(x0, x1, x2)], (foldP id (r1, r2) (l.take k)).2) by
          unfold stepP
          rw [if_neg (by rw [Hd.out]; exact hc)])
        have hc2 := hide hc
        clear hc
        rcases db with _ | _
        · have e2 : decide (id < x0) = false := by simpa using e1
          clear e1
          go_wp2_with (at_builtin; refine wpList_append_elem rfl (.tmp 43) (.tmp 45) 28 rfl w.heap.size Try.underlying28 info_named rfl (by decide) (.slice AV m cV) m _ rfl HO2.out _ _ rfl rfl (by simp [Value.oneCell']) (by simp only [maxLen]; omega) (by omega) HP2.out.bel.size ?_; intro v9 w9 hown9 hgr9 hat9; have HP9 := hide (HP2.out.grown HO2.out hgr9); have HO9 := hide hown9; have HG9 := hide hgr9; clear hown9 hgr9 hat9)
          go_roundw
          case rel => exact ⟨k + 1, m + 1, false, by omega, by go_num, rfl, hide (by rw [HT.out, HS.out]; exact Hd.out), hide (by rw [HT.out, HS.out, List.length_append, Hm.out]; rfl), hide (by rw [HT.out, HS.out, fcs_snoc]; exact HO9.out), HP9⟩
          case measure => simp [intOf]; omega
        · clear e1
          go_wp2_with (at_builtin; refine wpList_append_elem rfl (.tmp 43) (.tmp 45) 28 rfl w.heap.size Try.underlying28 info_named rfl (by decide) (.slice AV m cV) m _ rfl HO2.out _ _ rfl rfl (by simp [Value.oneCell']) (by simp only [maxLen]; omega) (by omega) HP2.out.bel.size ?_; intro v9 w9 hown9 hgr9 hat9; have HP9 := hide (HP2.out.grown HO2.out hgr9); have HO9 := hide hown9; have HG9 := hide hgr9; clear hown9 hgr9 hat9)
          go_roundw
          case rel => exact ⟨k + 1, m + 1, true, by omega, by go_num, rfl, hide (by rw [HT.out, HS.out]; exact Hd.out), hide (by rw [HT.out, HS.out, List.length_append, Hm.out]; rfl), hide (by rw [HT.out, HS.out, fcs_snoc]; exact HO9.out), HP9⟩
          case measure => simp [intOf]; omega
    · obtain rfl : k = n := by omega
      have hT : l.take k = l := List.take_of_length_le (by rw [Hn.out]; omega)
      rw [hT] at Hd Hm HO
      have hml' := hml.out
      have hlen := foldP_len id (r1, r2) l
      rw [Hm.out, Hn.out, Hd.out] at hlen
      rcases db with _ | _
      · have hmk : m = k := by simpa using hlen
        clear hlen hT
        subst hmk
        have HI := hide (show insP l id (r1, r2) = (foldP id (r1, r2) l).1 ++ [(id, (r1, r2))] by unfold insP; rw [if_neg (by rw [Hd.out]; simp)])
        have u0 : wr.cell? ⟨w.heap.size + 1, 0, none⟩ = some (.int .i64 r1) := by rw [HPr.out.x.cell]; rfl
        have u1 : wr.cell? ⟨w.heap.size + 1, 1, none⟩ = some (.int .i64 r2) := by rw [HPr.out.x.cell]; rfl
        go_upto_region 16 with (at_builtin; refine wpList_append_elem rfl (.tmp 50) (.tmp 54) 28 rfl w.heap.size Try.underlying28 info_named rfl (by decide) (.slice AV m cV) m _ rfl HO.out _ _ rfl rfl (by simp [Value.oneCell']) (by simp only [maxLen]; omega) (by omega) HPr.out.bel.size ?_; intro v9 w9 hown9 hgr9 hat9; have HP9 := hide (HPr.out.grown HO.out hgr9); obtain ⟨A9, c9, rfl, p1, p2⟩ := own_form hown9; have HO9 := hide hown9; clear hown9 hgr9 hat9)
        clear u0 u1
        have z0 : w9.cell? ⟨w.heap.size, 0, none⟩ = some (.int .i64 sh) := by rw [HP9.out.m.cell]; rfl
        have z1 : w9.cell? ⟨w.heap.size, 1, none⟩ = some (.slice A m c) := by rw [HP9.out.m.cell]; rfl
        have z2 : w9.cell? ⟨w.heap.size, 2, none⟩ = some (.int .i64 ver) := by rw [HP9.out.m.cell]; rfl
        have f1 := HP9.out.m.frozen 1
        have f2 := HP9.out.m.frozen 2
        go_upto_region 18 with fail
        obtain ⟨hp6, ho6⟩ := HP9.out.stored Hr.out HO9.out (ver + 1)
        have HP6 := hide hp6
        have HO6 := hide ho6
        clear z0 z1 z2 f1 f2 hp6 ho6 HP9 HO9
        generalize World.setCell (World.setCell w9 _ _) _ _ = w6 at HP6 HO6 ⊢
        have z0 : w6.cell? ⟨w.heap.size, 0, none⟩ = some (.int .i64 sh) := by rw [HP6.out.m.cell]; rfl
        have z1 : w6.cell? ⟨w.heap.size, 1, none⟩ = some (.slice A9 (m + 1) c9) := by rw [HP6.out.m.cell]; rfl
        have z2 : w6.cell? ⟨w.heap.size, 2, none⟩ = some (.int .i64 (ver + 1)) := by rw [HP6.out.m.cell]; rfl
        have t0 : w6.cell? ⟨r, 0, none⟩ = some (.int .i64 0) := by rw [HP6.out.r.cell]; rfl
        have t1 : w6.cell? ⟨r, 1, none⟩ = some (.slice none 0 0) := by rw [HP6.out.r.cell]; rfl
        have t2 : w6.cell? ⟨r, 2, none⟩ = some (.int .i64 0) := by rw [HP6.out.r.cell]; rfl
        have k0 := HP6.out.r.frozen 0
        have k1 := HP6.out.r.frozen 1
        have k2 := HP6.out.r.frozen 2
        go_wp2
        obtain ⟨q, ho9, hb9⟩ := HP6.out.given Hr.out HO6.out
        have q0 := q.cell 0
        have qq1 := q.cell 1
        have qq2 := q.cell 2
        simp at q0 qq1 qq2
        exact bodyPost_ret (v := .tuple #[.agg #[.int .i64 sh, .slice A9 (m + 1) c9, .int .i64 (ver + 1)], .bool true]) (by simp [results, Try.results8, go_sem, q0, qq1, qq2]) rfl ⟨_, rfl, by rw [HI.out, fcs_snoc]; exact ho9, hb9⟩
      · have hmk : m = k + 1 := by simpa using hlen
        clear hlen hT
        subst hmk
        have HI := hide (show insP l id (r1, r2) = (foldP id (r1, r2) l).1 by unfold insP; rw [if_pos (by rw [Hd.out])])
        have z0 : wr.cell? ⟨w.heap.size, 0, none⟩ = some (.int .i64 sh) := by rw [HPr.out.m.cell]; rfl
        have z1 : wr.cell? ⟨w.heap.size, 1, none⟩ = some (.slice A k c) := by rw [HPr.out.m.cell]; rfl
        have z2 : wr.cell? ⟨w.heap.size, 2, none⟩ = some (.int .i64 ver) := by rw [HPr.out.m.cell]; rfl
        have f1 := HPr.out.m.frozen 1
        have f2 := HPr.out.m.frozen 2
        go_upto_region 18 with fail
        obtain ⟨hp6, ho6⟩ := HPr.out.stored Hr.out HO.out (ver + 1)
        have HP6 := hide hp6
        have HO6 := hide ho6
        clear z0 z1 z2 f1 f2 hp6 ho6 HPr HO
        generalize World.setCell (World.setCell wr _ _) _ _ = w6 at HP6 HO6 ⊢
        have z0 : w6.cell? ⟨w.heap.size, 0, none⟩ = some (.int .i64 sh) := by rw [HP6.out.m.cell]; rfl
        have z1 : w6.cell? ⟨w.heap.size, 1, none⟩ = some (.slice AV (k + 1) cV) := by rw [HP6.out.m.cell]; rfl
        have z2 : w6.cell? ⟨w.heap.size, 2, none⟩ = some (.int .i64 (ver + 1)) := by rw [HP6.out.m.cell]; rfl
        have t0 : w6.cell? ⟨r, 0, none⟩ = some (.int .i64 0) := by rw [HP6.out.r.cell]; rfl
        have t1 : w6.cell? ⟨r, 1, none⟩ = some (.slice none 0 0) := by rw [HP6.out.r.cell]; rfl
        have t2 : w6.cell? ⟨r, 2, none⟩ = some (.int .i64 0) := by rw [HP6.out.r.cell]; rfl
        have k0 := HP6.out.r.frozen 0
        have k1 := HP6.out.r.frozen 1
        have k2 := HP6.out.r.frozen 2
        go_wp2
        obtain ⟨q, ho9, hb9⟩ := HP6.out.given Hr.out HO6.out
        have q0 := q.cell 0
        have qq1 := q.cell 1
        have qq2 := q.cell 2
        simp at q0 qq1 qq2
        exact bodyPost_ret (v := .tuple #[.agg #[.int .i64 sh, .slice AV (k + 1) cV, .int .i64 (ver + 1)], .bool true]) (by simp [results, Try.results8, go_sem, q0, qq1, qq2]) rfl ⟨_, rfl, by rw [HI.out]; exact ho9, hb9⟩
end Go.Proofs.Ytoadcfjkommlkaa
