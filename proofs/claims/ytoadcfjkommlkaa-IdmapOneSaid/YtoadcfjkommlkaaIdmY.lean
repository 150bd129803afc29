/-
  The walk of IdmapOne. Conditions: the slice reads as a list of deeds.
-/
import Derived.Test.YtoadcfjkommlkaaIdmU
import Derived.Test.YtoadcfjkommlkaaIdmV
namespace Go.Proofs.Ytoadcfjkommlkaa
set_option linter.unusedSimpArgs false
set_option linter.unusedVariables false
open Go.RowKit

/-- the map, and variables -/
structure KI (w : World) (M g : Nat) (hs : List Nat) (L : List NamedV) (ver : Int) (bx : List (Nat × TypeId × Array Value)) (W : World) : Prop where
  k : KAt W w.heap.size M g hs L ver
  bx : ∀ p ∈ bx, p.2.1 ≠ 59 ∧ Blk W p.1 p.2.1 p.2.2
  bel : Below w.heap.size w W
section
variable {w W W' : World} {M g : Nat} {hs : List Nat} {L L' : List NamedV} {ver ver' : Int} {bx : List (Nat × TypeId × Array Value)}
theorem KI.step (h : KI w M g hs L ver bx W) (hb : Below W.heap.size W W') : KI w M g hs L ver bx W' :=
  ⟨h.k.below hb, fun p hp => ⟨(h.bx p hp).1, (h.bx p hp).2.below hb (h.bx p hp).2.lt⟩, Below.step h.bel hb⟩
theorem KI.turn (h : KI w M g hs L ver bx W) (hk : KAt W' w.heap.size M g hs L' ver') (ht : TurnI W W' M hs) : KI w M g hs L' ver' bx W' :=
  ⟨hk, fun p hp => ⟨(h.bx p hp).1, h.k.keep (h.bx p hp).1 (h.bx p hp).2 ht⟩, h.k.turn h.bel ht h.bel.size⟩
theorem KI.box (h : KI w M g hs L ver bx W) {t : TypeId} (cs : Array Value) (h1 : t ≠ 59) : KI w M g hs L ver ((W.heap.size, t, cs) :: bx) (W.alloc (.cells cs t)) := by
  have k := h.step (below1 W (.cells cs t))
  refine ⟨k.k, fun p hp => ?_, k.bel⟩
  rcases List.mem_cons.1 hp with rfl | hp
  · exact ⟨h1, Blk.new _ _ _⟩
  · exact k.bx p hp
theorem KI.blk (h : KI w M g hs L ver bx W) {q : Nat} {t : TypeId} {cs : Array Value} (hp : (q, t, cs) ∈ bx) : Blk W q t cs := (h.bx _ hp).2
theorem KI.mono (h : KI w M g hs L ver bx W) {bx' : List (Nat × TypeId × Array Value)} (hs' : ∀ p ∈ bx', p ∈ bx) : KI w M g hs L ver bx' W := ⟨h.k, fun p hp => h.bx p (hs' p hp), h.bel⟩
theorem KI.dc (h : KI w M g hs L ver bx W) {q : Nat} {d : DeedI} (hp : (q, 37, #[.int .i64 d.1, .int .u64 d.2.1, .int .i64 d.2.2.1, .int .i64 d.2.2.2]) ∈ bx) : W.cell? ⟨q, 0, none⟩ = some (.int .i64 d.1) ∧ W.cell? ⟨q, 1, none⟩ = some (.int .u64 d.2.1) ∧ W.cell? ⟨q, 2, none⟩ = some (.int .i64 d.2.2.1) ∧ W.cell? ⟨q, 3, none⟩ = some (.int .i64 d.2.2.2) := cell4i (h.blk hp)
theorem KI.rc (h : KI w M g hs L ver bx W) {q : Nat} {a b : Int} (hp : (q, 35, #[.int .i64 a, .int .i64 b]) ∈ bx) : W.cell? ⟨q, 0, none⟩ = some (.int .i64 a) ∧ W.cell? ⟨q, 1, none⟩ = some (.int .i64 b) := cell2s (h.blk hp)
theorem KI.turnP {q : List NamedV × Int} (h : KI w M g hs L ver bx W) (he : q = (L', ver')) (hk : KAt W' w.heap.size M g hs q.1 q.2) (ht : TurnI W W' M hs) : KI w M g hs L' ver' bx W' := by
  subst he
  exact h.turn hk ht
theorem kiGet (h : KI w M g hs L ver bx W) {id : Int} (hw : (Lit.int .u64 id).wf = true) {b : Bool} {r1 r2 : Int} (hb : (lookF L id).isSome = b) (hr : (lookF L id).getD (0, 0) = (r1, r2)) :
    Calls Try.prog 12 #[.pointer (some ⟨M, 0, none⟩), .int .u64 id] W fun e w' => e = .returned (.tuple #[.agg #[.int .i64 r1, .int .i64 r2], .bool b]) ∧ KI w M g hs L ver bx w' := by
  refine (kGet h.k hw).mono ?_
  rintro e w' ⟨rfl, k1⟩
  exact ⟨by rw [hb, hr]; rfl, h.step k1⟩
end
/-- what a deed did -/
def Chg (L : List NamedV) (ver : Int) (L' : List NamedV) (ver' : Int) (ch : Bool) (id : Int) : Prop := (ch = true ∧ ver' = ver + 1 ∧ ∀ x, x ≠ id → lookF L' x = lookF L x) ∨ (ch = false ∧ L' = L ∧ ver' = ver)
theorem look_put {L : List NamedV} (hp : L.Pairwise fun a b => a.1 < b.1) {id : Int} (hn : lookF L id = none) (r : RefV) (x : Int) : lookF (insP L id r) x = if x = id then some r else lookF L x := by
  rw [insP_eq]
  exact look_ins (pw_nodup hp) hn x
theorem kiStart {w w1 w2 : World} {M g : Nat} {hs : List Nat} (hk : KAt w2 w1.heap.size M g hs [] 0) (h1 : Below w.heap.size w w1) (h2 : Below w1.heap.size w1 w2) : KI w M g hs [] 0 [] w2 := by
  obtain ⟨ms, hi, he⟩ := hk
  have := h1.size
  exact ⟨⟨ms, ⟨hi.m, hi.row, hi.len, hi.maps, hi.nd, by have := hi.loM; omega, by have := hi.log; omega, fun h hh => by have := hi.loh h hh; omega, hi.n0, hi.n1, hi.home⟩, he⟩, fun p hp => by simp at hp, Below.step h1 h2⟩
set_option maxHeartbeats 8000000 in
set_option maxRecDepth 100000 in
theorem one_any (sh q : Int) (A : Option Addr) (len cap : Nat) (ds : List DeedI) (w : World) (hd : Rd SDI w w.heap.size A ds) (hl : ds.length = len) (hw : ∀ d ∈ ds, (Lit.int .u64 d.2.1).wf = true) (hq : (Lit.int .u64 q).wf = true) (hc : len ≤ cap) (hm : cap ≤ 9223372036854775807) :
    Calls Try.prog 4 #[.int .i64 sh, .slice A len cap, .int .u64 q] w fun e w' => e = .returned (.bool true) ∧ Below w.heap.size w w' := by
  have HQ := hide hq
  clear hq
  rcases Nat.lt_or_ge 100 len with h1 | h1
  · have b1 : decide ((100 : Int) < len) = true := by simp; omega
    have b0 : decide (100 < len) = true := by simp; omega
    clear hd hl hw
    go_enter Try.func4, Try.ntmps4
    go_wp2_with (go_at_call 5; refine (lives_any _).mono ?_; rintro e w1 ⟨rfl, hb⟩)
    go_ret
    exact ⟨rfl, hb⟩
  have b1 : decide ((100 : Int) < len) = false := by simp; omega
  have b0 : decide (100 < len) = false := by simp; omega
  have HD := hide hd
  have HL := hide hl
  have HW := hide hw
  clear hd hl hw
  by_cases hn : sh < 1 ∨ 64 < sh
  · have Hn := hide hn
    by_cases hn1 : sh < 1
    · have n1 : decide (sh < 1) = true := decide_eq_true hn1
      clear hn hn1
      go_enter Try.func4, Try.ntmps4
      go_wp2_with (first
        | (go_at_call 5; refine (lives_any _).mono ?_; rintro e w1 ⟨rfl, hb⟩)
        | (go_at_call 6; refine (new_bad _ Hn.out _).mono ?_; rintro e _ ⟨rfl, rfl⟩))
      go_ret
      exact ⟨rfl, hb⟩
    · have n1 : decide (sh < 1) = false := decide_eq_false hn1
      have n2 : decide (64 < sh) = true := decide_eq_true (by omega)
      clear hn hn1
      go_enter Try.func4, Try.ntmps4
      go_wp2_with (first
        | (go_at_call 5; refine (lives_any _).mono ?_; rintro e w1 ⟨rfl, hb⟩)
        | (go_at_call 6; refine (new_bad _ Hn.out _).mono ?_; rintro e _ ⟨rfl, rfl⟩))
      go_ret
      exact ⟨rfl, hb⟩
  obtain ⟨n, rfl⟩ : ∃ n : Nat, sh = n := ⟨sh.toNat, by omega⟩
  have n1 : 1 ≤ n := by omega
  have n2 : n ≤ 64 := by omega
  clear hn
  go_enter Try.func4, Try.ntmps4
  go_wp2_with (first
    | (go_at_call 5; refine (lives_any _).mono ?_; rintro e w1 ⟨rfl, hb⟩; have HB1 := hide hb; clear hb)
    | (go_at_call 6; refine (kNew n n1 n2 _).mono ?_; rintro e w2 ⟨M, g, hs, rfl, hk, hhs, hb⟩; have HP := hide (kiStart hk HB1.out hb); have HS := hide hhs; clear hk hhs hb))
  clear HB1
  go_loopw [61] (fun i wr => ∃ (k : Nat) (L : List NamedV) (ver : Int), k ≤ len ∧ i = .int .i64 k ∧ Hid (L.length ≤ k ∧ 0 ≤ ver ∧ ver ≤ k) ∧ Hid (KI w M g hs L ver [] wr)) (fun i _ => len - (intOf i).toNat)
  case atStart => exact ⟨0, [], 0, by omega, rfl, hide ⟨by simp, by omega, by omega⟩, HP⟩
  case round =>
    obtain ⟨k, L, ver, hk, rfl, HLen, HPl⟩ := hrel
    clear HP
    by_cases hlt : k < len
    · obtain ⟨ad, ⟨kd, id, r1, r2⟩, rfl, hbl, hds, c0, c1, c2, c3⟩ := RdR.deedi (HD.out.below HPl.out.bel (Nat.le_refl _)) (k := k) (by have := HL.out; omega)
      simp only at c0 c1 c2 c3
      have HI := hide (HW.out _ (List.mem_of_getElem? hds))
      simp only at HI
      have hk0 : (0 : Int) ≤ k := by omega
      have hkl : (k : Int) < len := by omega
      clear hds hbl
      have Hver := hide (show 0 ≤ ver ∧ ver ≤ 1000000 by have := HLen.out; omega)
      have Hll := hide (show L.length ≤ 1000 by have := HLen.out; omega)
      go_upto_region 11 with fail
      have HK := hide (HPl.out.box (t := 37) #[.int .i64 kd, .int .u64 id, .int .i64 r1, .int .i64 r2] (by decide))
      clear c0 c1 c2 c3
      generalize World.alloc wr (.cells #[.int .i64 kd, .int .u64 id, .int .i64 r1, .int .i64 r2] 37) = W0 at *
      generalize wr.heap.size = gd at *
      clear HPl
      obtain ⟨⟨a1, a2⟩, ha⟩ : ∃ p, (lookF L id).getD (0, 0) = p := ⟨_, rfl⟩
      obtain ⟨had, hha⟩ : ∃ b, (lookF L id).isSome = b := ⟨_, rfl⟩
      obtain ⟨⟨b1', b2'⟩, hb⟩ : ∃ p, (lookF L q).getD (0, 0) = p := ⟨_, rfl⟩
      obtain ⟨has, hhb⟩ : ∃ b, (lookF L q).isSome = b := ⟨_, rfl⟩
      have HA := hide ha
      have HHA := hide hha
      have HB := hide hb
      have HHB := hide hhb
      clear ha hha hb hhb
      obtain ⟨d0, d1, d2, d3⟩ := HK.out.dc (q := gd) (d := (kd, id, r1, r2)) (by simp)
      simp only at d0 d1 d2 d3
      go_upto_region 12 with (go_at_call 12; refine (kiGet HK.out HI.out HHA.out HA.out).mono ?_; rintro e w4 ⟨rfl, hv⟩; have HK4 := hide (hv.box (t := 35) #[.int .i64 a1, .int .i64 a2] (by decide)); clear hv)
      clear d0 d1 d2 d3 HK
      generalize World.alloc w4 _ = w5 at *
      generalize w4.heap.size = ga at *
      go_upto_region 13 with (go_at_call 12; refine (kiGet HK4.out HQ.out HHB.out HB.out).mono ?_; rintro e w6 ⟨rfl, hv⟩; have HK := hide (hv.box (t := 35) #[.int .i64 b1', .int .i64 b2'] (by decide)); clear hv)
      clear HK4
      generalize World.alloc w6 _ = W at *
      generalize w6.heap.size = gb at *
      obtain ⟨d0, d1, d2, d3⟩ := HK.out.dc (q := gd) (d := (kd, id, r1, r2)) (by simp)
      simp only at d0 d1 d2 d3
      go_upto_block 2 with (first
        | (go_at_call 14; refine (kLen HK.out.k Hll.out).mono ?_; rintro e _ ⟨rfl, rfl⟩)
        | (go_at_call 15; refine (kVersion HK.out.k).mono ?_; rintro e _ ⟨rfl, rfl⟩))
      obtain ⟨BXS, hBXS⟩ : ∃ l : List (Nat × TypeId × Array Value), l = [(gb, 35, #[.int .i64 b1', .int .i64 b2']), (ga, 35, #[.int .i64 a1, .int .i64 a2]), (gd, 37, #[.int .i64 kd, .int .u64 id, .int .i64 r1, .int .i64 r2])] := ⟨_, rfl⟩
      rw [← hBXS] at HK
      have HBX := hide hBXS
      clear hBXS
      go_cut [17] (fun s wx => ∃ (ch : Bool) (L' : List NamedV) (ver' : Int), s = .bool ch ∧ Hid (Chg L ver L' ver' ch id) ∧ Hid (L'.length ≤ k + 1 ∧ 0 ≤ ver' ∧ ver' ≤ ((k + 1 : Nat) : Int)) ∧ Hid (KI w M g hs L' ver' BXS wx))
      case first =>
        as_aux_lemma =>
          have HPW := hide HK.out.k.pw
          rcases had with _ | _
          · -- had False
            by_cases h0 : kd = 0
            · subst h0
              have HN0 := hide (show lookF L id = none by have := HHA.out; simpa using this)
              have HLen2 := hide (show ((insP L id (r1, r2))).length ≤ k + 1 ∧ 0 ≤ (ver + 1) ∧ (ver + 1) ≤ ((k + 1 : Nat) : Int) by
                have h := put_len L ver id (r1, r2) HLen.out.1 HLen.out.2
                rwa [show putL L ver id (r1, r2) = ((insP L id (r1, r2)), (ver + 1)) from by unfold putL; rw [if_neg (by rw [HHA.out]; simp)]] at h)
              have CK := hide (show ∀ W, KI w M g hs L ver BXS W → Calls Try.prog 9 #[.pointer (some ⟨M, 0, none⟩), .int .u64 id, .agg #[.int .i64 r1, .int .i64 r2]] W fun e w' => e = .returned (.bool true) ∧ KI w M g hs (insP L id (r1, r2)) (ver + 1) BXS w' from fun W h => (kPut h.k HI.out r1 r2 Hver.out).mono fun e w' hp => ⟨by rw [hp.1, HHA.out]; rfl, h.turnP (by unfold putL; rw [if_neg (by rw [HHA.out]; simp)]) hp.2.1 hp.2.2⟩)
              go_upto_region 18 with (go_at_call 9; refine (CK.out _ HK.out).mono ?_; rintro e w7 ⟨rfl, hv⟩; have HK7 := hide hv; clear hv)
              clear d0 d1 d2 d3
              have hbx := HK7.out
              rw [HBX.out] at hbx
              obtain ⟨d0, d1, d2, d3⟩ := hbx.dc (q := gd) (d := (0, id, r1, r2)) (by simp)
              simp only at d0 d1 d2 d3
              clear hbx
              go_upto_region 19 with (go_at_call 12; refine (kiGet HK7.out HI.out (b := true) (r1 := r1) (r2 := r2) (by rw [look_put HPW.out HN0.out, if_pos rfl]; rfl) (by rw [look_put HPW.out HN0.out, if_pos rfl]; rfl)).mono ?_; rintro e w8 ⟨rfl, hv⟩; have HK8 := hide (hv.box (t := 35) #[.int .i64 r1, .int .i64 r2] (by decide)); clear hv)
              clear d0 d1 d2 d3 HK7
              generalize World.alloc w8 _ = w9 at *
              generalize w8.heap.size = gx at *
              have hbx := HK8.out
              rw [HBX.out] at hbx
              obtain ⟨d0, d1, d2, d3⟩ := hbx.dc (q := gd) (d := (0, id, r1, r2)) (by simp)
              obtain ⟨x0, x1⟩ := hbx.rc (q := gx) (a := r1) (b := r2) (by simp)
              obtain ⟨a0, a1'⟩ := hbx.rc (q := ga) (a := a1) (b := a2) (by simp)
              simp only at d0 d1 d2 d3
              clear hbx
              have he := run_neq_ref r1 r1 r2 r2 (r := true) (by simp)
              have Hll2 := hide (show ((insP L id (r1, r2))).length ≤ 1000 by have := HLen2.out; omega)
              have hlen : ((((insP L id (r1, r2))).length : Nat) : Int) = L.length + 1 := by rw [insP_eq, (ins_perm L).length_eq, List.length_cons]; omega
              have CL := hide (show ∀ W, KI w M g hs (insP L id (r1, r2)) (ver + 1) ((gx, 35, #[.int .i64 r1, .int .i64 r2]) :: BXS) W → Calls Try.prog 14 #[.pointer (some ⟨M, 0, none⟩)] W fun e w' => e = .returned (.int .i64 (L.length + 1 : Int)) ∧ W = w' from fun W h => by have := kLen h.k Hll2.out; rwa [hlen] at this)
              have hl1 : decide ((L.length + 1 : Int) < L.length) = false := decide_eq_false (by omega)
              clear hlen
              have HK9 := hide (HK8.out.mono (bx' := BXS) (fun p hp => List.mem_cons_of_mem _ hp))
              go_wp2_with (go_at_call 14; refine (CL.out _ HK8.out).mono ?_; rintro e _ ⟨rfl, rfl⟩)
              go_meet
              case rel => exact ⟨true, _, _, rfl, hide (.inl ⟨rfl, rfl, fun x hx => by rw [look_put HPW.out HN0.out, if_neg hx]⟩), HLen2, HK9⟩
            have e0 : (kd == 0) = false := by simpa using h0
            by_cases h1 : kd = 1
            · subst h1
              have HLen2 := hide (show (L).length ≤ k + 1 ∧ 0 ≤ ver ∧ ver ≤ ((k + 1 : Nat) : Int) by
                have h := drop_len2 L ver id HLen.out.1 HLen.out.2
                rwa [show dropL L ver id = (L, ver) from by unfold dropL; rw [if_neg (by rw [HHA.out]; simp)]] at h)
              have CK := hide (show ∀ W, KI w M g hs L ver BXS W → Calls Try.prog 11 #[.pointer (some ⟨M, 0, none⟩), .int .u64 id] W fun e w' => e = .returned (.tuple #[.agg #[.int .i64 a1, .int .i64 a2], .bool false]) ∧ KI w M g hs L ver BXS w' from fun W h => (kDrop h.k HI.out Hver.out).mono fun e w' hp => ⟨by rw [hp.1, HHA.out, HA.out]; rfl, h.turnP (by unfold dropL; rw [if_neg (by rw [HHA.out]; simp)]) hp.2.1 hp.2.2⟩)
              go_upto_region 23 with (go_at_call 11; refine (CK.out _ HK.out).mono ?_; rintro e w7 ⟨rfl, hv⟩; have HK7 := hide (hv.box (t := 35) #[.int .i64 a1, .int .i64 a2] (by decide)); clear hv)
              clear d0 d1 d2 d3
              generalize World.alloc w7 _ = w8 at *
              generalize w7.heap.size = gy at *
              have hbx := HK7.out
              rw [HBX.out] at hbx
              obtain ⟨d0, d1, d2, d3⟩ := hbx.dc (q := gd) (d := (1, id, r1, r2)) (by simp)
              simp only at d0 d1 d2 d3
              clear hbx
              go_upto_region 25 with (go_at_call 12; refine (kiGet HK7.out HI.out (b := false) (r1 := a1) (r2 := a2) HHA.out HA.out).mono ?_; rintro e w9 ⟨rfl, hv⟩; have HK8 := hide (hv.box (t := 35) #[.int .i64 a1, .int .i64 a2] (by decide)); clear hv)
              clear d0 d1 d2 d3 HK7
              generalize World.alloc w9 _ = w10 at *
              generalize w9.heap.size = gx at *
              have hbx := HK8.out
              rw [HBX.out] at hbx
              obtain ⟨y0, y1⟩ := hbx.rc (q := gy) (a := a1) (b := a2) (by simp)
              obtain ⟨a0, a1'⟩ := hbx.rc (q := ga) (a := a1) (b := a2) (by simp)
              clear hbx
              have he := run_neq_ref a1 a1 a2 a2 (r := true) (by simp)
              have HK9 := hide (HK8.out.mono (bx' := BXS) (fun p hp => List.mem_cons_of_mem _ (List.mem_cons_of_mem _ hp)))
              go_wp2
              go_meet
              case rel => exact ⟨false, _, _, rfl, hide (.inr ⟨rfl, rfl, rfl⟩), HLen2, HK9⟩
            have e1 : (kd == 1) = false := by simpa using h1
            go_wp2
            go_meet
            case rel => exact ⟨false, L, ver, rfl, hide (.inr ⟨rfl, rfl, rfl⟩), hide (by have h := HLen.out; exact ⟨by omega, h.2.1, by omega⟩), HK⟩
          · -- had True
            by_cases h0 : kd = 0
            · subst h0
              have HLen2 := hide (show (L).length ≤ k + 1 ∧ 0 ≤ ver ∧ ver ≤ ((k + 1 : Nat) : Int) by
                have h := put_len L ver id (r1, r2) HLen.out.1 HLen.out.2
                rwa [show putL L ver id (r1, r2) = (L, ver) from by unfold putL; rw [if_pos HHA.out]] at h)
              have CK := hide (show ∀ W, KI w M g hs L ver BXS W → Calls Try.prog 9 #[.pointer (some ⟨M, 0, none⟩), .int .u64 id, .agg #[.int .i64 r1, .int .i64 r2]] W fun e w' => e = .returned (.bool false) ∧ KI w M g hs L ver BXS w' from fun W h => (kPut h.k HI.out r1 r2 Hver.out).mono fun e w' hp => ⟨by rw [hp.1, HHA.out]; rfl, h.turnP (by unfold putL; rw [if_pos HHA.out]) hp.2.1 hp.2.2⟩)
              go_upto_region 18 with (go_at_call 9; refine (CK.out _ HK.out).mono ?_; rintro e w7 ⟨rfl, hv⟩; have HK7 := hide hv; clear hv)
              clear d0 d1 d2 d3
              have hbx := HK7.out
              rw [HBX.out] at hbx
              obtain ⟨d0, d1, d2, d3⟩ := hbx.dc (q := gd) (d := (0, id, r1, r2)) (by simp)
              simp only at d0 d1 d2 d3
              clear hbx
              go_upto_region 19 with (go_at_call 12; refine (kiGet HK7.out HI.out (b := true) (r1 := a1) (r2 := a2) HHA.out HA.out).mono ?_; rintro e w8 ⟨rfl, hv⟩; have HK8 := hide (hv.box (t := 35) #[.int .i64 a1, .int .i64 a2] (by decide)); clear hv)
              clear d0 d1 d2 d3 HK7
              generalize World.alloc w8 _ = w9 at *
              generalize w8.heap.size = gx at *
              have hbx := HK8.out
              rw [HBX.out] at hbx
              obtain ⟨d0, d1, d2, d3⟩ := hbx.dc (q := gd) (d := (0, id, r1, r2)) (by simp)
              obtain ⟨x0, x1⟩ := hbx.rc (q := gx) (a := a1) (b := a2) (by simp)
              obtain ⟨a0, a1'⟩ := hbx.rc (q := ga) (a := a1) (b := a2) (by simp)
              simp only at d0 d1 d2 d3
              clear hbx
              have he := run_neq_ref a1 a1 a2 a2 (r := true) (by simp)
              have Hll2 := hide (show (L).length ≤ 1000 by have := HLen2.out; omega)
              have hlen : (((L).length : Nat) : Int) = L.length := rfl
              have CL := hide (show ∀ W, KI w M g hs L ver ((gx, 35, #[.int .i64 a1, .int .i64 a2]) :: BXS) W → Calls Try.prog 14 #[.pointer (some ⟨M, 0, none⟩)] W fun e w' => e = .returned (.int .i64 (L.length : Int)) ∧ W = w' from fun W h => by have := kLen h.k Hll2.out; rwa [hlen] at this)
              have hl1 : decide ((L.length : Int) < L.length) = false := decide_eq_false (by omega)
              clear hlen
              have HK9 := hide (HK8.out.mono (bx' := BXS) (fun p hp => List.mem_cons_of_mem _ hp))
              go_wp2_with (go_at_call 14; refine (CL.out _ HK8.out).mono ?_; rintro e _ ⟨rfl, rfl⟩)
              go_meet
              case rel => exact ⟨false, _, _, rfl, hide (.inr ⟨rfl, rfl, rfl⟩), HLen2, HK9⟩
            have e0 : (kd == 0) = false := by simpa using h0
            by_cases h1 : kd = 1
            · subst h1
              have HLen2 := hide (show ((dropF L id)).length ≤ k + 1 ∧ 0 ≤ (ver + 1) ∧ (ver + 1) ≤ ((k + 1 : Nat) : Int) by
                have h := drop_len2 L ver id HLen.out.1 HLen.out.2
                rwa [show dropL L ver id = ((dropF L id), (ver + 1)) from by unfold dropL; rw [if_pos HHA.out]] at h)
              have CK := hide (show ∀ W, KI w M g hs L ver BXS W → Calls Try.prog 11 #[.pointer (some ⟨M, 0, none⟩), .int .u64 id] W fun e w' => e = .returned (.tuple #[.agg #[.int .i64 a1, .int .i64 a2], .bool true]) ∧ KI w M g hs (dropF L id) (ver + 1) BXS w' from fun W h => (kDrop h.k HI.out Hver.out).mono fun e w' hp => ⟨by rw [hp.1, HHA.out, HA.out]; rfl, h.turnP (by unfold dropL; rw [if_pos HHA.out]) hp.2.1 hp.2.2⟩)
              go_upto_region 23 with (go_at_call 11; refine (CK.out _ HK.out).mono ?_; rintro e w7 ⟨rfl, hv⟩; have HK7 := hide (hv.box (t := 35) #[.int .i64 a1, .int .i64 a2] (by decide)); clear hv)
              clear d0 d1 d2 d3
              generalize World.alloc w7 _ = w8 at *
              generalize w7.heap.size = gy at *
              have hbx := HK7.out
              rw [HBX.out] at hbx
              obtain ⟨d0, d1, d2, d3⟩ := hbx.dc (q := gd) (d := (1, id, r1, r2)) (by simp)
              simp only at d0 d1 d2 d3
              clear hbx
              go_upto_region 25 with (go_at_call 12; refine (kiGet HK7.out HI.out (b := false) (r1 := 0) (r2 := 0) (by rw [lookF_drop, if_pos rfl]; rfl) (by rw [lookF_drop, if_pos rfl]; rfl)).mono ?_; rintro e w9 ⟨rfl, hv⟩; have HK8 := hide (hv.box (t := 35) #[.int .i64 0, .int .i64 0] (by decide)); clear hv)
              clear d0 d1 d2 d3 HK7
              generalize World.alloc w9 _ = w10 at *
              generalize w9.heap.size = gx at *
              have hbx := HK8.out
              rw [HBX.out] at hbx
              obtain ⟨y0, y1⟩ := hbx.rc (q := gy) (a := a1) (b := a2) (by simp)
              obtain ⟨a0, a1'⟩ := hbx.rc (q := ga) (a := a1) (b := a2) (by simp)
              clear hbx
              have he := run_neq_ref a1 a1 a2 a2 (r := true) (by simp)
              have HK9 := hide (HK8.out.mono (bx' := BXS) (fun p hp => List.mem_cons_of_mem _ (List.mem_cons_of_mem _ hp)))
              go_wp2
              go_meet
              case rel => exact ⟨true, _, _, rfl, hide (.inl ⟨rfl, rfl, fun x hx => by rw [lookF_drop, if_neg hx]⟩), HLen2, HK9⟩
            have e1 : (kd == 1) = false := by simpa using h1
            go_wp2
            go_meet
            case rel => exact ⟨false, L, ver, rfl, hide (.inr ⟨rfl, rfl, rfl⟩), hide (by have h := HLen.out; exact ⟨by omega, h.2.1, by omega⟩), HK⟩
      case rest =>
        obtain ⟨ch, L', ver', rfl, HCh, HLen2, HK9⟩ := hcut
        obtain ⟨⟨c1, c2⟩, hcc⟩ : ∃ p, (lookF L' q).getD (0, 0) = p := ⟨_, rfl⟩
        obtain ⟨is', hcs⟩ : ∃ b, (lookF L' q).isSome = b := ⟨_, rfl⟩
        have HC := hide hcc
        have HCS := hide hcs
        clear hcc hcs
        go_upto_region 28 with (go_at_call 12; refine (kiGet HK9.out HQ.out HCS.out HC.out).mono ?_; rintro e w4 ⟨rfl, hv⟩; have HK4 := hide (hv.box (t := 35) #[.int .i64 c1, .int .i64 c2] (by decide)); clear hv)
        clear HK9
        generalize World.alloc w4 _ = w5 at *
        generalize w4.heap.size = gc at *
        rw [HBX.out] at HK4
        have Hll2 := hide (show L'.length ≤ 1000 by have := HLen2.out; omega)
        go_cut [202] (fun s wx => s = .bool false ∧ Hid (KI w M g hs L' ver' [(gd, 37, #[.int .i64 kd, .int .u64 id, .int .i64 r1, .int .i64 r2])] wx))
        case first =>
          as_aux_lemma =>
            obtain ⟨d0, d1, d2, d3⟩ := HK4.out.dc (q := gd) (d := (kd, id, r1, r2)) (by simp)
            obtain ⟨x0, x1⟩ := HK4.out.rc (q := gc) (a := c1) (b := c2) (by simp)
            obtain ⟨y0, y1⟩ := HK4.out.rc (q := gb) (a := b1') (b := b2') (by simp)
            simp only at d0 d1 d2 d3
            have hv1 : IntKind.i64.wrap (ver + 1) = ver + 1 := IntWalk.i64_in _ (by have := Hver.out; omega)
            have hv2 : ((ver : Int) == ver + 1) = false := by simp; omega
            have hv3 : ((ver + 1 : Int) == ver + 1) = true := by simp
            have hv4 : ((ver : Int) != ver) = false := by simp
            have hv5 : ((L.length : Int) != L.length) = false := by simp
            have HK5 := hide (HK4.out.mono (bx' := [(gd, 37, #[.int .i64 kd, .int .u64 id, .int .i64 r1, .int .i64 r2])]) (by simp))
            have CV := hide (fun W (h : KI w M g hs L' ver' [(gd, 37, #[.int .i64 kd, .int .u64 id, .int .i64 r1, .int .i64 r2])] W) => kVersion h.k)
            have CL := hide (fun W (h : KI w M g hs L' ver' [(gd, 37, #[.int .i64 kd, .int .u64 id, .int .i64 r1, .int .i64 r2])] W) => kLen h.k Hll2.out)
            by_cases hoid : q = id
            · have e1 : (q != id) = false := by simpa using hoid
              clear hoid
              rcases HCh.out with ⟨rfl, rfl, _⟩ | ⟨rfl, rfl, rfl⟩
              all_goals
                go_wp2_with (first
                  | (go_at_call 15; refine (CV.out _ HK5.out).mono ?_; rintro e _ ⟨rfl, rfl⟩)
                  | (go_at_call 14; refine (CL.out _ HK5.out).mono ?_; rintro e _ ⟨rfl, rfl⟩))
                go_meet
                case rel => exact ⟨rfl, HK5⟩
            · have e1 : (q != id) = true := by simpa using hoid
              have hlk : lookF L' q = lookF L q := by
                rcases HCh.out with ⟨_, _, h⟩ | ⟨_, rfl, _⟩
                · exact h q hoid
                · rfl
              have h1 := HC.out
              have h2 := HCS.out
              rw [hlk, HB.out] at h1
              rw [hlk, HHB.out] at h2
              injection h1 with h1 h3
              subst h1 h2 h3
              have he := run_neq_ref b1' b1' b2' b2' (r := true) (by simp)
              have e2 : (has != has) = false := by simp
              clear hoid hlk
              rcases HCh.out with ⟨rfl, rfl, _⟩ | ⟨rfl, rfl, rfl⟩
              all_goals
                go_wp2_with (first
                  | (go_at_call 15; refine (CV.out _ HK5.out).mono ?_; rintro e _ ⟨rfl, rfl⟩)
                  | (go_at_call 14; refine (CL.out _ HK5.out).mono ?_; rintro e _ ⟨rfl, rfl⟩))
                go_meet
                case rel => exact ⟨rfl, HK5⟩
        case rest =>
          as_aux_lemma =>
            obtain ⟨rfl, HK⟩ := hcut
            obtain ⟨f, f0, f1, f2, f3⟩ := sum_sizes HK.out.k
            have HF1 := hide f1
            have HF2 := hide f2
            have HF3 := hide f3
            have HF0 := hide f0
            clear f0 f1 f2 f3 HK4
            obtain ⟨d0, d1, d2, d3⟩ := HK.out.dc (q := gd) (d := (kd, id, r1, r2)) (by simp)
            simp only at d0 d1 d2 d3
            have hslt := shardF_lt HK.out.k.nums.1 id
            rw [HS.out] at hslt
            have CS := hide (fun W (h : KI w M g hs L' ver' [(gd, 37, #[.int .i64 kd, .int .u64 id, .int .i64 r1, .int .i64 r2])] W) => kShard h.k id)
            have CZ := hide (fun W (h : KI w M g hs L' ver' [(gd, 37, #[.int .i64 kd, .int .u64 id, .int .i64 r1, .int .i64 r2])] W) (i : Int) => kSize h.k i)
            have CL := hide (fun W (h : KI w M g hs L' ver' [(gd, 37, #[.int .i64 kd, .int .u64 id, .int .i64 r1, .int .i64 r2])] W) => kLen h.k Hll2.out)
            rw [HS.out] at CS CZ HF1 HF3
            generalize shardF n id = sx at *
            go_wp2_with (go_at_call 16; refine (CS.out _ HK.out).mono ?_; rintro e w6 ⟨rfl, hv⟩; have HK6 := hide (HK.out.step hv); clear hv)
            clear d0 d1 d2 d3 HK
            go_loopw [27, 208] (fun a i wr => ∃ j : Nat, j ≤ n ∧ i = .int .i64 j ∧ a = .int .i64 (f j) ∧ w6 = wr) (fun _ i _ => n - (intOf i).toNat)
            case atStart => exact ⟨0, by omega, rfl, by rw [HF0.out]; rfl, rfl⟩
            case round =>
              obtain ⟨j, hj, rfl, rfl, rfl⟩ := hrel
              by_cases hjn : j < n
              · have g1 : (j : Int) < n := by omega
                have g0 : (0 : Int) ≤ j := by omega
                have h3 := HF3.out j hjn
                have h4 := HF2.out (j + 1)
                have h5 := Hll2.out
                have HS3 := hide h3
                have hw1 : IntKind.i64.wrap ((f j : Int) + (sizeR n L' (j : Int) : Int)) = ((f (j + 1) : Nat) : Int) := by rw [IntWalk.i64_in _ (by omega)]; omega
                have CZ2 := hide (CZ.out _ HK6.out (j : Int))
                generalize sizeR n L' (j : Int) = z at *
                generalize hfj : f j = y at *
                generalize hfk : f (j + 1) = y' at *
                clear h3 h4 h5 hfj
                have Hfk := hide hfk
                clear hfk
                go_wp2_with (go_at_call 18; refine CZ2.out.mono ?_; rintro e _ ⟨rfl, rfl⟩)
                go_roundw
                case rel => exact ⟨j + 1, by omega, by go_num, by first | (rw [Hfk.out]) | (rw [Hfk.out]; first | rfl | rw [hw1]), by first | rfl | trivial⟩
                case measure => simp [intOf]; omega
              · obtain rfl : j = n := by omega
                rw [HF1.out]
                have b1 : decide ((sx : Int) < 0) = false := decide_eq_false (by omega)
                have b2 : decide ((j : Int) ≤ sx) = false := decide_eq_false (by omega)
                have b3 : ((L'.length : Int) != L'.length) = false := by simp
                have b4 : decide (j ≤ sx) = false := decide_eq_false (by omega)
                go_wp2_with (go_at_call 14; refine (CL.out _ HK6.out).mono ?_; rintro e _ ⟨rfl, rfl⟩)
                go_roundw
                case rel => exact ⟨k + 1, L', ver', by omega, by go_num, HLen2, hide (HK6.out.mono (by simp))⟩
                case measure => simp [intOf]; omega
    · obtain rfl : k = len := by omega
      go_wp2
      go_ret
      exact ⟨rfl, HPl.out.bel⟩
end Go.Proofs.Ytoadcfjkommlkaa
