/-
  The law QueuePlays: the walk. Conditions: the slice reads as a list of deeds.
-/
import Derived.Test.YtknljldmjicfgaeQueM
import Derived.Test.YtknljldmjicfgaeQueO
import Derived.Test.YtknljldmjicfgaeTake
namespace Go.Proofs.Ytknljldmjicfgae
set_option linter.unusedSimpArgs false
set_option linter.unusedVariables false
open Go.RowKit

theorem plQ_start {w w1 w2 : World} {Q P k : Nat} (hq : QAt w1 w.heap.size Q (.slice none 0 0) []) (h1 : Below w.heap.size w w1) (hb : BAt w2 w1.heap.size P k (.slice none 0 0) []) (h2 : Below w1.heap.size w1 w2) : PlQ w w2 Q P k (.slice none 0 0) (.slice none 0 0) [] [] none none (srtS []) (srtS []) := by
  have l1 := hq.lt
  have l2 := hb.hQ
  exact ⟨hq.below h2, hb.lower h1.size, Heap.nil, Heap.nil, by omega, Apart.nil _, Below.step h1 h2, by rw [srtS_nil]; exact RdR.nil, by rw [srtS_nil]; exact RdR.nil⟩
/-- the lists beside the two, and a deed's variable -/
structure PQ (w : World) (Q P k : Nat) (v v2 : Value) (l l2 : List Spt) (Ax Ay : Option Addr) (lx ly : List Spt) (g : Nat) (d : DeedQ) (W : World) : Prop where
  pl : PlQ w W Q P k v v2 l l2 Ax Ay lx ly
  g : Blk W g 35 #[.int .i64 d.1, .int .u64 d.2.1.1, .int .u64 d.2.1.2, .int .i64 d.2.2]
section
variable {w W W' : World} {Q P k g : Nat} {v v2 : Value} {l l2 lx ly m : List Spt} {Ax Ay A : Option Addr} {d : DeedQ}
theorem PQ.step (h : PQ w Q P k v v2 l l2 Ax Ay lx ly g d W) (hb : Below W.heap.size W W') : PQ w Q P k v v2 l l2 Ax Ay lx ly g d W' := ⟨h.pl.step hb, h.g.below hb h.g.lt⟩
theorem PQ.gs (h : PQ w Q P k v v2 l l2 Ax Ay lx ly g d W) : W.cell? ⟨g, 0, none⟩ = some (.int .i64 d.1) ∧ W.cell? ⟨g, 1, none⟩ = some (.int .u64 d.2.1.1) ∧ W.cell? ⟨g, 2, none⟩ = some (.int .u64 d.2.1.2) ∧ W.cell? ⟨g, 3, none⟩ = some (.int .i64 d.2.2) :=
  ⟨by rw [h.g.cell]; rfl, by rw [h.g.cell]; rfl, by rw [h.g.cell]; rfl, by rw [h.g.cell]; rfl⟩
theorem PQ.qb (h : PQ w Q P k v v2 l l2 Ax Ay lx ly g d W) : g ≠ Q ∧ v.ownBlock ≠ some g ∧ g ≠ P ∧ v2.ownBlock ≠ some g :=
  ⟨h.g.ne_ h.pl.q.q (by decide), own_blk_ne h.pl.q.own h.g (by decide), h.g.ne_ h.pl.b.q (by decide), own_blk_ne h.pl.b.own h.g (by decide)⟩
theorem PQ.q_ (h : PQ w Q P k v v2 l l2 Ax Ay lx ly g d W) (hd : QDone W W' w.heap.size Q v m) : ∃ l' v', l'.Perm m ∧ PQ w Q P k v' v2 l' l2 Ax Ay lx ly g d W' := by
  obtain ⟨l', v', r1, r2, r3⟩ := h.pl.q_ hd
  exact ⟨l', v', r1, r2, HpAt.blk r3 h.g h.qb.1 h.qb.2.1⟩
theorem PQ.b_ (h : PQ w Q P k v v2 l l2 Ax Ay lx ly g d W) (hd : BDone W W' w.heap.size P k v2 m) : ∃ l' v', l'.Perm m ∧ PQ w Q P k v v' l l' Ax Ay lx ly g d W' := by
  obtain ⟨l', v', r1, r2, r3⟩ := h.pl.b_ hd
  exact ⟨l', v', r1, r2, HpAt.blk r3 h.g h.qb.2.2.1 h.qb.2.2.2⟩
theorem PQ.setX (h : PQ w Q P k v v2 l l2 Ax Ay lx ly g d W) (hx : RdR SP W (FreeQ W Q P v v2) A m) : PQ w Q P k v v2 l l2 A Ay m ly g d W := ⟨h.pl.setX hx, h.g⟩
theorem PQ.setY (h : PQ w Q P k v v2 l l2 Ax Ay lx ly g d W) (hy : RdR SP W (FreeQ W Q P v v2) A m) : PQ w Q P k v v2 l l2 Ax A lx m g d W := ⟨h.pl.setY hy, h.g⟩
end
theorem RdR.scell_at {w : World} {R : Nat → Prop} {ad : Addr} {l : List Spt} (h : RdR SP w R (some ad) l) {k : Nat} {s : Spt} (hx : l[k]? = some s) : w.cell? (ad.add (k * 3)) = some (.int .u64 s.1.1) ∧ w.cell? ⟨(ad.add (k * 3)).block, (ad.add (k * 3)).off + 1, none⟩ = some (.int .u64 s.1.2) ∧ w.cell? ⟨(ad.add (k * 3)).block, (ad.add (k * 3)).off + 2, none⟩ = some (.int .i64 s.2) := by
  obtain ⟨ad', x, e, _, hv, h1, h2, h3⟩ := h.scell (k := k) (List.getElem?_eq_some_iff.1 hx).1
  injection e with e
  subst e
  rw [hx] at hv
  injection hv with hv
  subst hv
  exact ⟨h1, h2, h3⟩
theorem RdR.some_of {w : World} {R : Nat → Prop} {A : Option Addr} {l : List Spt} {s : Spt} (h : RdR SP w R A (s :: l)) : ∃ ad, A = some ad := by
  obtain ⟨ad, e, _⟩ := h (by simp)
  exact ⟨ad, e⟩
/-- a list in order that is not empty: its first -/
theorem srtS_ne {l : List Spt} (h : 0 < l.length) : ∃ s X, srtS l = s :: X := by
  cases e : srtS l with
  | nil => have := srtS_len l; rw [e] at this; simp at this; omega
  | cons s X => exact ⟨s, X, rfl⟩
theorem offer_r {W : World} {B Q k : Nat} {v : Value} {l : List Spt} (h : BAt W B Q k v l) (hh : Heap sptGt l) (hk : l.length ≤ k) (hk2 : k ≤ 4096) (a b c : Int) {ly : List Spt} {r : Bool} (hr : offR k (srtS l) ((a, b), c) = (ly, r)) :
    Calls Try.prog 12 #[.pointer (some ⟨Q, 0, none⟩), .agg #[.int .u64 a, .int .u64 b, .int .i64 c]] W fun e w' => e = .returned (.bool r) ∧ ∃ m, srtS m = ly ∧ m.length ≤ k ∧ BDone W w' B Q k v m := by
  refine (bOffer_any h hh ((a, b), c) (by omega)).mono ?_
  rintro e w' ⟨r', m, rfl, ho, hd⟩
  obtain ⟨g1, g2⟩ := off_eq hh hk ho
  rw [hr] at g1
  injection g1 with g1 g3
  exact ⟨by rw [g3], m, g1.symm, g2, hd⟩
theorem mostB_le (n : Int) : mostB n ≤ 4096 := by unfold mostB; omega
/-- a spot's variable beside the lists -/
structure BQ (w : World) (Q P k : Nat) (v v2 : Value) (l l2 : List Spt) (Ax Ay : Option Addr) (lx ly : List Spt) (g : Nat) (a b c : Int) (W : World) : Prop where
  pl : PlQ w W Q P k v v2 l l2 Ax Ay lx ly
  g : Blk W g 33 #[.int .u64 a, .int .u64 b, .int .i64 c]
theorem BQ.step {w W W' : World} {Q P k g : Nat} {v v2 : Value} {l l2 lx ly : List Spt} {Ax Ay : Option Addr} {a b c : Int} (h : BQ w Q P k v v2 l l2 Ax Ay lx ly g a b c W) (hb : Below W.heap.size W W') : BQ w Q P k v v2 l l2 Ax Ay lx ly g a b c W' := ⟨h.pl.step hb, h.g.below hb h.g.lt⟩
/-- the slices' numbers -/
def NumQ (k : Nat) (most : Int) (nx cx ny cy : Nat) (l l2 : List Spt) : Prop := nx ≤ cx ∧ cx ≤ 9223372036854775807 ∧ ny ≤ cy ∧ cy ≤ 9223372036854775807 ∧ l.length = nx ∧ l2.length = ny ∧ nx ≤ k ∧ ny ≤ mostB most
set_option maxHeartbeats 8000000 in
set_option maxRecDepth 100000 in
theorem plays_any (most : Int) (A : Option Addr) (len cap : Nat) (ds : List DeedQ) (w : World) (hd : Rd SDQ w w.heap.size A ds) (hl : ds.length = len) (hc : len ≤ cap) (hm : cap ≤ 9223372036854775807) :
    Calls Try.prog 3 #[.int .i64 most, .slice A len cap] w fun e w' => e = .returned (.bool true) ∧ Below w.heap.size w w' := by
  rcases Nat.lt_or_ge 100 len with h1 | h1
  · have b1 : decide ((100 : Int) < len) = true := by simp; omega
    have b0 : decide (100 < len) = true := by simp; omega
    clear hd hl
    go_enter Try.func3, Try.ntmps3
    go_wp2_with (go_at_call 5; refine (lives_any _).mono ?_; rintro e w1 ⟨rfl, hb⟩)
    go_ret
    exact ⟨rfl, hb⟩
  have b1 : decide ((100 : Int) < len) = false := by simp; omega
  have b0 : decide (100 < len) = false := by simp; omega
  have HD := hide hd
  have HL := hide hl
  clear hd hl
  go_enter Try.func3, Try.ntmps3
  go_wp2_with (first
    | (go_at_call 6; refine (newQ_any _).mono ?_; rintro e w1 ⟨Q, rfl, hq, hB⟩; have HQ := hide hq; have HB1 := hide hB; clear hq hB)
    | (go_at_call 7; refine (newB_any most _).mono ?_; rintro e w2 ⟨P, rfl, hb, hB⟩; have HP := hide (plQ_start HQ.out HB1.out hb hB); clear hb hB HQ HB1))
  go_loopw [7, 8, 34] (fun x y i wr => ∃ (k : Nat) (v v2 : Value) (l l2 : List Spt) (Ax Ay : Option Addr) (nx cx ny cy : Nat), k ≤ len ∧ i = .int .i64 k ∧ x = .slice Ax nx cx ∧ y = .slice Ay ny cy ∧ Hid (NumQ k most nx cx ny cy l l2) ∧ Hid (PlQ w wr Q P (mostB most) v v2 l l2 Ax Ay (srtS l) (srtS l2))) (fun _ _ i _ => len - (intOf i).toNat)
  case atStart => exact ⟨0, _, _, [], [], none, none, 0, 0, 0, 0, by omega, rfl, rfl, rfl, hide ⟨by omega, by omega, by omega, by omega, rfl, rfl, by omega, by omega⟩, HP⟩
  case round =>
    obtain ⟨k, v, v2, l, l2, Ax, Ay, nx, cx, ny, cy, hk, rfl, rfl, rfl, HNum, HPl⟩ := hrel
    clear HP
    by_cases hlt : k < len
    · obtain ⟨ad, ⟨kd, ⟨⟨d1, d2⟩, d3⟩⟩, rfl, hbl, hds, c0, c1, c2, c3⟩ := (HD.out.below HPl.out.bel (Nat.le_refl _)).deedq (k := k) (by have := HL.out; omega)
      simp only at c0 c1 c2 c3
      have hk0 : (0 : Int) ≤ k := by omega
      have hkl : (k : Int) < len := by omega
      clear hds hbl
      go_upto_if 40 with fail
      have hb1 := below1 wr (.cells #[.int .i64 kd, .int .u64 d1, .int .u64 d2, .int .i64 d3] 35)
      have HPS := hide (show PQ w Q P (mostB most) v v2 l l2 Ax Ay (srtS l) (srtS l2) wr.heap.size (kd, ((d1, d2), d3)) (wr.alloc (.cells #[.int .i64 kd, .int .u64 d1, .int .u64 d2, .int .i64 d3] 35)) from ⟨HPl.out.step hb1, Blk.new _ _ _⟩)
      clear hb1 c0 c1 c2 c3
      generalize World.alloc wr (.cells #[.int .i64 kd, .int .u64 d1, .int .u64 d2, .int .i64 d3] 35) = W at *
      generalize wr.heap.size = g at *
      clear HPl
      go_cut [7, 8] (fun x y wx => ∃ (v v2 : Value) (l l2 : List Spt) (Ax Ay : Option Addr) (nx cx ny cy : Nat), x = .slice Ax nx cx ∧ y = .slice Ay ny cy ∧ Hid (NumQ (k + 1) most nx cx ny cy l l2) ∧ Hid (PlQ w wx Q P (mostB most) v v2 l l2 Ax Ay (srtS l) (srtS l2)))
      case first =>
        obtain ⟨m1, m2, m3, m4, m5, m6, m7, m8⟩ := HNum.out
        have mk := mostB_le most
        by_cases h3 : kd = 3
        · -- one is taken
          subst h3
          rcases Nat.eq_zero_or_pos nx with hx | hx
          · subst hx
            have hlz : l = [] := List.eq_nil_of_length_eq_zero m5
            subst hlz
            have HPop : Hid (Calls Try.prog 8 #[.pointer (some ⟨Q, 0, none⟩)] W fun e w' => e = .returned (.tuple #[.agg #[.int .u64 0, .int .u64 0, .int .i64 0], .bool false]) ∧ PopDone W w' w.heap.size Q v []) := hide (qPop_any HPS.out.pl.q HPS.out.pl.hq (by simp))
            go_upto_region 12 with (go_at_call 8; refine HPop.out.mono ?_; rintro e w5 ⟨rfl, m, hm, hd⟩; obtain ⟨l', v', r1, r2⟩ := HPS.out.q_ hd; have hm1 : m = [] := (hm.elim (fun h => h.2) fun h => by have := h.length_eq; simp at this); have hl0 : l' = [] := (by have := r1.length_eq; rw [hm1] at this; exact List.eq_nil_of_length_eq_zero this); subst hl0; have HP5 := hide r2.pl; clear hm hd r1 r2 hm1)
            have HB5 := hide (show BQ w Q P (mostB most) v' v2 [] l2 Ax Ay (srtS []) (srtS l2) w5.heap.size 0 0 0 (w5.alloc (.cells #[.int .u64 0, .int .u64 0, .int .i64 0] 33)) from ⟨HP5.out.step (below1 _ _), Blk.new _ _ _⟩)
            clear HP5 HPop HPS
            generalize World.alloc w5 _ = w6 at *
            generalize w5.heap.size = gs at *
            have hn0 := run_neq_spot 0 0 0 0 0 0 (r := true) rfl
            refine wp_region_held_drew (S := BQ w Q P (mostB most) v' v2 [] l2 Ax Ay (srtS []) (srtS l2) gs 0 0 0) (by as_aux_lemma => kernel_rfl) (HB5.out.step (Below.refl _ _).drew) (fun hHeld => ?_)
            clear HB5
            generalize World.drew _ = wl1 at *
            refine wpAnyH_puts [(0, 46), (1, 47)] [(46, .bool false), (47, .slice Ax 0 cx)] [0, 1] 2 rfl (by as_aux_lemma => kernel_rfl) (by as_aux_lemma => kernel_rfl) (fun _ _ _ _ _ h => h) hHeld ?_
            simp only [putsOf, listsOf, List.setIfInBounds_toArray, List.set_cons_zero, List.set_cons_succ]
            refine wpAnyH_take (i := 2) (v := .int .i64 0) rfl (by as_aux_lemma => kernel_rfl) (by as_aux_lemma => kernel_rfl) (by as_aux_lemma => kernel_rfl) (fun _ _ _ h => h) (Or.inl ⟨by as_aux_lemma => kernel_rfl, fun W hS => by clear hS hHeld; go_simp⟩) hHeld ?_
            try simp only [Act.put, List.setIfInBounds_toArray, List.set_cons_zero, List.set_cons_succ, List.getElem_toArray, List.getElem_cons_zero, List.getElem_cons_succ]
            refine wpAnyH_take (i := 3) (v := .bool false) rfl (by as_aux_lemma => kernel_rfl) (by as_aux_lemma => kernel_rfl) (by as_aux_lemma => kernel_rfl) (fun _ _ _ h => h) (Or.inl ⟨by as_aux_lemma => kernel_rfl, fun W hS => by clear hS hHeld; go_simp⟩) hHeld ?_
            try simp only [Act.put, List.setIfInBounds_toArray, List.set_cons_zero, List.set_cons_succ, List.getElem_toArray, List.getElem_cons_zero, List.getElem_cons_succ]
            refine wpAnyH_take (i := 4) (v := .bool false) rfl (by as_aux_lemma => kernel_rfl) (by as_aux_lemma => kernel_rfl) (by as_aux_lemma => kernel_rfl) (fun _ _ _ h => h) (Or.inl ⟨by as_aux_lemma => kernel_rfl, fun W hS => by clear hS hHeld; go_simp⟩) hHeld ?_
            try simp only [Act.put, List.setIfInBounds_toArray, List.set_cons_zero, List.set_cons_succ, List.getElem_toArray, List.getElem_cons_zero, List.getElem_cons_succ]
            refine wpAnyH_puts [(5, 51), (6, 52), (7, 53), (8, 54), (9, 55), (10, 56), (11, 57), (12, 58), (13, 59), (14, 60), (15, 61), (16, 62), (17, 63), (18, 64)] [(51, .bool false), (52, .bool false), (53, .bool false), (54, undef), (55, undef), (56, undef), (57, undef), (58, undef), (59, .bool false), (60, .bool false), (61, .bool false), (62, .bool false), (63, .bool true), (64, .bool true)] [5, 6, 7, 8, 9, 10, 11, 12, 13, 14, 15, 16, 17, 18] 14 rfl (by as_aux_lemma => kernel_rfl) (by as_aux_lemma => kernel_rfl) (fun _ _ _ _ _ h => h) hHeld ?_
            simp only [putsOf, listsOf, List.setIfInBounds_toArray, List.set_cons_zero, List.set_cons_succ]
            refine wpAnyH_take (i := 19) (v := .agg #[.int .u64 0, .int .u64 0, .int .i64 0]) rfl (by as_aux_lemma => kernel_rfl) (by as_aux_lemma => kernel_rfl) (by as_aux_lemma => kernel_rfl) (fun _ _ _ h => h) (Or.inl ⟨by as_aux_lemma => kernel_rfl, fun W hS => by obtain ⟨z0, z1, z2⟩ := cell3s hS.g; clear hS hHeld; go_simp⟩) hHeld ?_
            try simp only [Act.put, List.setIfInBounds_toArray, List.set_cons_zero, List.set_cons_succ, List.getElem_toArray, List.getElem_cons_zero, List.getElem_cons_succ]
            refine wpAnyH_take (i := 20) (v := .agg #[.int .u64 0, .int .u64 0, .int .i64 0]) rfl (by as_aux_lemma => kernel_rfl) (by as_aux_lemma => kernel_rfl) (by as_aux_lemma => kernel_rfl) (fun _ _ _ h => h) (Or.inl ⟨by as_aux_lemma => kernel_rfl, fun W hS => by clear hS hHeld; go_simp⟩) hHeld ?_
            try simp only [Act.put, List.setIfInBounds_toArray, List.set_cons_zero, List.set_cons_succ, List.getElem_toArray, List.getElem_cons_zero, List.getElem_cons_succ]
            refine wpAnyH_take (i := 21) (v := .bool false) rfl (by as_aux_lemma => kernel_rfl) (by as_aux_lemma => kernel_rfl) (by as_aux_lemma => kernel_rfl) (fun _ _ _ h => h) (Or.inl ⟨by as_aux_lemma => kernel_rfl, fun W hS => by clear hS hHeld; go_simp⟩) hHeld ?_
            try simp only [Act.put, List.setIfInBounds_toArray, List.set_cons_zero, List.set_cons_succ, List.getElem_toArray, List.getElem_cons_zero, List.getElem_cons_succ]
            refine wpAnyH_puts [(22, 68), (23, 69)] [(68, .bool false), (69, .bool false)] [22, 23] 2 rfl (by as_aux_lemma => kernel_rfl) (by as_aux_lemma => kernel_rfl) (fun _ _ _ _ _ h => h) hHeld ?_
            simp only [putsOf, listsOf, List.setIfInBounds_toArray, List.set_cons_zero, List.set_cons_succ]
            refine wpAnyH_done (by as_aux_lemma => kernel_rfl) ?_ _
            have HF := hide hHeld.pl
            clear hHeld
            go_wp2
            go_meet
            case rel => exact ⟨v', v2, [], l2, Ax, Ay, 0, cx, ny, cy, rfl, rfl, hide ⟨m1, m2, m3, m4, rfl, m6, by omega, m8⟩, HF⟩
          · obtain ⟨⟨⟨s1, s2⟩, s3⟩, X, hX⟩ := srtS_ne (l := l) (by omega)
            obtain ⟨e1, e2, e3, e4⟩ := srtS_cons HPS.out.pl.hq hX
            obtain ⟨ad, rfl⟩ := RdR.some_of (hX ▸ HPS.out.pl.x)
            have HXs := hide (show (srtS l)[0]? = some ((s1, s2), s3) by rw [hX]; rfl)
            have HX := hide hX
            have HE2 := hide e2
            have HE4 := hide e4
            have HPop : Hid (Calls Try.prog 8 #[.pointer (some ⟨Q, 0, none⟩)] W fun e w' => e = .returned (.tuple #[.agg #[.int .u64 s1, .int .u64 s2, .int .i64 s3], .bool true]) ∧ PopDone W w' w.heap.size Q v l) := hide (by
              have := qPop_any HPS.out.pl.q HPS.out.pl.hq (by omega)
              rwa [e1, e3] at this)
            clear e1 e2 e3 e4 hX
            go_upto_region 12 with (go_at_call 8; refine HPop.out.mono ?_; rintro e w5 ⟨rfl, m, hm, hd⟩; obtain ⟨l', v', r1, r2⟩ := HPS.out.q_ hd; have hm1 := hm.resolve_left (fun h => HE4.out h.1); have HL' := hide (show srtS l' = X ∧ l'.length + 1 = nx from ⟨by rw [srtS_congr r1, HE2.out m hm1], by have a := r1.length_eq; have b := hm1.length_eq; simp at b; omega⟩); have HP5 := hide r2.pl; clear hm hd r1 r2 hm1)
            have HB5 := hide (show BQ w Q P (mostB most) v' v2 l' l2 (some ad) Ay (srtS l) (srtS l2) w5.heap.size s1 s2 s3 (w5.alloc (.cells #[.int .u64 s1, .int .u64 s2, .int .i64 s3] 33)) from ⟨HP5.out.step (below1 _ _), Blk.new _ _ _⟩)
            clear HP5 HPop HPS
            generalize World.alloc w5 _ = w6 at *
            generalize w5.heap.size = gs at *
            have hn0 := run_neq_spot s1 s2 s3 s1 s2 s3 (r := true) (by simp)
            have b2 : decide ((0 : Int) < nx) = true := by simp; omega
            have b3 : decide (0 < nx) = true := by simp; omega
            have b4 : (0 : Int) < nx := by omega
            have b5 : (1 : Int) ≤ nx := by omega
            refine wp_region_held_drew (S := BQ w Q P (mostB most) v' v2 l' l2 (some ad) Ay (srtS l) (srtS l2) gs s1 s2 s3) (by as_aux_lemma => kernel_rfl) (HB5.out.step (Below.refl _ _).drew) (fun hHeld => ?_)
            clear HB5
            generalize World.drew _ = wl1 at *
            refine wpAnyH_puts [(0, 46), (1, 47)] [(46, .bool true), (47, .slice (some ad) nx cx)] [0, 1] 2 rfl (by as_aux_lemma => kernel_rfl) (by as_aux_lemma => kernel_rfl) (fun _ _ _ _ _ h => h) hHeld ?_
            simp only [putsOf, listsOf, List.setIfInBounds_toArray, List.set_cons_zero, List.set_cons_succ]
            refine wpAnyH_take (i := 2) (v := .int .i64 nx) rfl (by as_aux_lemma => kernel_rfl) (by as_aux_lemma => kernel_rfl) (by as_aux_lemma => kernel_rfl) (fun _ _ _ h => h) (Or.inl ⟨by as_aux_lemma => kernel_rfl, fun W hS => by clear hS hHeld; go_simp⟩) hHeld ?_
            try simp only [Act.put, List.setIfInBounds_toArray, List.set_cons_zero, List.set_cons_succ, List.getElem_toArray, List.getElem_cons_zero, List.getElem_cons_succ]
            refine wpAnyH_take (i := 3) (v := .bool true) rfl (by as_aux_lemma => kernel_rfl) (by as_aux_lemma => kernel_rfl) (by as_aux_lemma => kernel_rfl) (fun _ _ _ h => h) (Or.inl ⟨by as_aux_lemma => kernel_rfl, fun W hS => by clear hS hHeld; go_simp⟩) hHeld ?_
            try simp only [Act.put, List.setIfInBounds_toArray, List.set_cons_zero, List.set_cons_succ, List.getElem_toArray, List.getElem_cons_zero, List.getElem_cons_succ]
            refine wpAnyH_take (i := 4) (v := .bool false) rfl (by as_aux_lemma => kernel_rfl) (by as_aux_lemma => kernel_rfl) (by as_aux_lemma => kernel_rfl) (fun _ _ _ h => h) (Or.inl ⟨by as_aux_lemma => kernel_rfl, fun W hS => by clear hS hHeld; go_simp⟩) hHeld ?_
            try simp only [Act.put, List.setIfInBounds_toArray, List.set_cons_zero, List.set_cons_succ, List.getElem_toArray, List.getElem_cons_zero, List.getElem_cons_succ]
            refine wpAnyH_puts [(5, 51), (6, 52), (7, 53)] [(51, .bool false), (52, .bool true), (53, .bool true)] [5, 6, 7] 3 rfl (by as_aux_lemma => kernel_rfl) (by as_aux_lemma => kernel_rfl) (fun _ _ _ _ _ h => h) hHeld ?_
            simp only [putsOf, listsOf, List.setIfInBounds_toArray, List.set_cons_zero, List.set_cons_succ]
            refine wpAnyH_take (i := 8) (v := .agg #[.int .u64 s1, .int .u64 s2, .int .i64 s3]) rfl (by as_aux_lemma => kernel_rfl) (by as_aux_lemma => kernel_rfl) (by as_aux_lemma => kernel_rfl) (fun _ _ _ h => h) (Or.inl ⟨by as_aux_lemma => kernel_rfl, fun W hS => by obtain ⟨z0, z1, z2⟩ := cell3s hS.g; clear hS hHeld; go_simp⟩) hHeld ?_
            try simp only [Act.put, List.setIfInBounds_toArray, List.set_cons_zero, List.set_cons_succ, List.getElem_toArray, List.getElem_cons_zero, List.getElem_cons_succ]
            refine wpAnyH_puts [(9, 55)] [(55, .slice (some ad) nx cx)] [9] 1 rfl (by as_aux_lemma => kernel_rfl) (by as_aux_lemma => kernel_rfl) (fun _ _ _ _ _ h => h) hHeld ?_
            simp only [putsOf, listsOf, List.setIfInBounds_toArray, List.set_cons_zero, List.set_cons_succ]
            refine wpAnyH_take (i := 10) (v := .pointer (some ad)) rfl (by as_aux_lemma => kernel_rfl) (by as_aux_lemma => kernel_rfl) (by as_aux_lemma => kernel_rfl) (fun _ _ _ h => h) (Or.inl ⟨by as_aux_lemma => kernel_rfl, fun W hS => by clear hS hHeld; go_simp⟩) hHeld ?_
            try simp only [Act.put, List.setIfInBounds_toArray, List.set_cons_zero, List.set_cons_succ, List.getElem_toArray, List.getElem_cons_zero, List.getElem_cons_succ]
            refine wpAnyH_take (i := 11) (v := .agg #[.int .u64 s1, .int .u64 s2, .int .i64 s3]) rfl (by as_aux_lemma => kernel_rfl) (by as_aux_lemma => kernel_rfl) (by as_aux_lemma => kernel_rfl) (fun _ _ _ h => h) (Or.inl ⟨by as_aux_lemma => kernel_rfl, fun W hS => by obtain ⟨z0, z1, z2⟩ := RdR.scell_at hS.pl.x HXs.out; rw [Nat.zero_mul, add_zero'] at z0 z1 z2; simp only at z0 z1 z2; clear hS hHeld; go_simp⟩) hHeld ?_
            try simp only [Act.put, List.setIfInBounds_toArray, List.set_cons_zero, List.set_cons_succ, List.getElem_toArray, List.getElem_cons_zero, List.getElem_cons_succ]
            refine wpAnyH_take (i := 12) (v := .bool false) rfl (by as_aux_lemma => kernel_rfl) (by as_aux_lemma => kernel_rfl) (by as_aux_lemma => kernel_rfl) (fun _ _ _ h => h) (Or.inl ⟨by as_aux_lemma => kernel_rfl, fun W hS => by clear hS hHeld; go_simp⟩) hHeld ?_
            try simp only [Act.put, List.setIfInBounds_toArray, List.set_cons_zero, List.set_cons_succ, List.getElem_toArray, List.getElem_cons_zero, List.getElem_cons_succ]
            refine wpAnyH_puts [(13, 59), (14, 60), (15, 61), (16, 62), (17, 63), (18, 64), (19, 65), (20, 66), (21, 67), (22, 68), (23, 69)] [(59, .bool false), (60, .bool false), (61, .bool false), (62, .bool true), (63, .bool false), (64, .bool false), (65, undef), (66, undef), (67, undef), (68, .bool false), (69, .bool false)] [13, 14, 15, 16, 17, 18, 19, 20, 21, 22, 23] 11 rfl (by as_aux_lemma => kernel_rfl) (by as_aux_lemma => kernel_rfl) (fun _ _ _ _ _ h => h) hHeld ?_
            simp only [putsOf, listsOf, List.setIfInBounds_toArray, List.set_cons_zero, List.set_cons_succ]
            refine wpAnyH_done (by as_aux_lemma => kernel_rfl) ?_ _
            have HF := hide hHeld.pl
            clear hHeld
            have HC := hide (show RdR SP wl1 (FreeQ wl1 Q P v' v2) (if cx = 1 then some ad else some (ad.add 3)) (srtS l') by
              have h := RdR.cut (k := 1) HF.out.x (show 1 ≤ nx by omega) (by rw [srtS_len]; exact m5) m1
              rw [HX.out, List.drop_one, List.tail_cons, ← HL'.out.1] at h
              exact h)
            clear HXs HX HE2 HE4
            go_wp2
            all_goals
              go_meet
              case rel =>
                have HK : RdR SP wl1 (FreeQ wl1 Q P v' v2) _ (srtS l') := HC.out
                first
                  | (rw [if_neg (by assumption)] at HK; exact ⟨v', v2, l', l2, _, Ay, nx - 1, cx - 1, ny, cy, rfl, rfl, hide ⟨by omega, by omega, m3, m4, by have := HL'.out.2; omega, m6, by omega, m8⟩, hide (HF.out.setX HK)⟩)
                  | (rw [if_pos (by assumption)] at HK; exact ⟨v', v2, l', l2, _, Ay, nx - 1, 0, ny, cy, rfl, rfl, hide ⟨by omega, by omega, m3, m4, by have := HL'.out.2; omega, m6, by omega, m8⟩, hide (HF.out.setX HK)⟩)
        · -- one is put in
          have e3 : (kd == 3) = false := by rw [beq_eq_false_iff_ne]; exact h3
          obtain ⟨⟨ly, rb⟩, hr⟩ : ∃ r, offR (mostB most) (srtS l2) ((d1, d2), d3) = r := ⟨_, rfl⟩
          have Hr := hide hr
          clear hr
          have hbb : (rb != rb) = false := by simp
          obtain ⟨d0, z1, z2, z3⟩ := HPS.out.gs
          simp only at d0 z1 z2 z3
          go_upto_region 17 with (go_at_call 9; refine (qPush_any HPS.out.pl.q HPS.out.pl.hq ((d1, d2), d3) (by omega)).mono ?_; rintro e w5 ⟨rfl, hd⟩; obtain ⟨l', v', r1, r2⟩ := HPS.out.q_ hd; have HP5 := hide r2; have HR1 := hide r1; clear hd r1 r2)
          clear d0 z1 z2 z3 HPS
          obtain ⟨d0, z1, z2, z3⟩ := HP5.out.gs
          simp only at d0 z1 z2 z3
          go_upto_region 18 with (go_at_call 10; refine (refPush_any Ax nx cx (srtS l) ((d1, d2), d3) _ (HP5.out.pl.x.rd fun d hd => hd.1) (by rw [srtS_len]; exact m5) m1 m2 (by omega)).mono ?_; rintro e w6 ⟨v6, rfl, ho6, hb6⟩; obtain ⟨A6, c6, rfl, u1, u2⟩ := own_form ho6; have HP6 := hide (show PQ w Q P (mostB most) v' v2 l' l2 A6 Ay (srtS l') (srtS l2) g (kd, ((d1, d2), d3)) w6 from (HP5.out.step hb6).setX (by have k := HP5.out.pl.made (flatS.own ho6); rw [← srtS_push HR1.out] at k; exact k)); clear ho6 hb6)
          clear d0 z1 z2 z3 HP5
          obtain ⟨d0, z1, z2, z3⟩ := HP6.out.gs
          simp only at d0 z1 z2 z3
          go_upto_region 20 with (go_at_call 11; refine (refOffer_any (R := FreeQ w6 Q P v' v2) Ay ny cy (srtS l2) most ((d1, d2), d3) HP6.out.pl.y (fun b hb => hb.1) (by rw [srtS_len]; exact m6) m3 m4 (by omega)).mono ?_; rw [Hr.out]; rintro e w7 ⟨A7, n7, c7, rfl, y1, y2, y3, y4, hb7⟩; have HP7 := hide (show PQ w Q P (mostB most) v' v2 l' l2 A6 A7 (srtS l') ly g (kd, ((d1, d2), d3)) w7 from (HP6.out.step hb7).setY (HP6.out.pl.grow hb7.size y4)); have HN7 := hide (show ly.length = n7 ∧ n7 ≤ c7 ∧ c7 ≤ 9223372036854775807 from ⟨y1, y2, y3⟩); clear y1 y2 y3 y4 hb7)
          clear d0 z1 z2 z3 HP6
          obtain ⟨d0, z1, z2, z3⟩ := HP7.out.gs
          simp only at d0 z1 z2 z3
          go_wp2_with (go_at_call 12; refine (offer_r HP7.out.pl.b HP7.out.pl.hb (by omega) mk d1 d2 d3 Hr.out).mono ?_; rintro e w8 ⟨rfl, m, q1, q2, hd⟩; obtain ⟨l2', v2', r1, r2⟩ := HP7.out.b_ hd; have HL2 := hide (show srtS l2' = ly ∧ l2'.length ≤ mostB most from ⟨by rw [srtS_congr r1, q1], by rw [r1.length_eq]; exact q2⟩); have HP8 := hide r2.pl; clear hd r1 r2 q1 q2)
          go_meet
          case rel =>
            have n1 := HR1.out.length_eq
            simp at n1
            obtain ⟨n2, n3, n4⟩ := HN7.out
            have n5 : l2'.length = n7 := by rw [← srtS_len, HL2.out.1]; exact n2
            have n6 := HL2.out.2
            exact ⟨v', v2', l', l2', A6, A7, nx + 1, c6, n7, c7, rfl, rfl, hide ⟨by omega, by omega, n3, n4, by omega, n5, by omega, by omega⟩, hide (by rw [HL2.out.1]; exact HP8.out)⟩
      case rest =>
        obtain ⟨v, v2, l, l2, Ax, Ay, nx, cx, ny, cy, rfl, rfl, HNum, HPl⟩ := hcut
        obtain ⟨m1, m2, m3, m4, m5, m6, m7, m8⟩ := HNum.out
        have mk := mostB_le most
        obtain ⟨⟨⟨s1, s2⟩, s3⟩, hs⟩ : ∃ s, fstS l = s := ⟨_, rfl⟩
        obtain ⟨⟨⟨t1, t2⟩, t3⟩, ht⟩ : ∃ s, fstS l2 = s := ⟨_, rfl⟩
        obtain ⟨bx, hbx⟩ : ∃ b, decide (0 < nx) = b := ⟨_, rfl⟩
        obtain ⟨by', hby⟩ : ∃ b, decide (0 < ny) = b := ⟨_, rfl⟩
        obtain ⟨bf, hbf⟩ : ∃ b, decide (mostB most ≤ ny) = b := ⟨_, rfl⟩
        have Hs := hide hs
        have Ht := hide ht
        have Hbx := hide hbx
        have Hby := hide hby
        have Hbf := hide hbf
        have CPk : Hid (∀ W, PlQ w W Q P (mostB most) v v2 l l2 Ax Ay (srtS l) (srtS l2) → Calls Try.prog 13 #[.pointer (some ⟨Q, 0, none⟩)] W fun e w' => e = .returned (.tuple #[.agg #[.int .u64 s1, .int .u64 s2, .int .i64 s3], .bool bx]) ∧ Below W.heap.size W w') := hide (fun W h => by
          have k := qPeek_any h.q
          rwa [hs, m5, hbx] at k)
        have CWo : Hid (∀ W, PlQ w W Q P (mostB most) v v2 l l2 Ax Ay (srtS l) (srtS l2) → Calls Try.prog 14 #[.pointer (some ⟨P, 0, none⟩)] W fun e w' => e = .returned (.tuple #[.agg #[.int .u64 t1, .int .u64 t2, .int .i64 t3], .bool by']) ∧ Below W.heap.size W w') := hide (fun W h => by
          have k := bWorst_any h.b
          rwa [ht, m6, hby] at k)
        have CLe : Hid (∀ W, PlQ w W Q P (mostB most) v v2 l l2 Ax Ay (srtS l) (srtS l2) → Calls Try.prog 15 #[.pointer (some ⟨Q, 0, none⟩)] W fun e w' => e = .returned (.int .i64 nx) ∧ W = w') := hide (fun W h => by
          have k := qLen_any h.q
          rwa [m5] at k)
        have CFu : Hid (∀ W, PlQ w W Q P (mostB most) v v2 l l2 Ax Ay (srtS l) (srtS l2) → Calls Try.prog 16 #[.pointer (some ⟨P, 0, none⟩)] W fun e w' => e = .returned (.bool bf) ∧ Drew W w') := hide (fun W h => by
          have k := bFull_any h.b
          rwa [m6, hbf] at k)
        have CLi : Hid (∀ W, PlQ w W Q P (mostB most) v v2 l l2 Ax Ay (srtS l) (srtS l2) → Calls Try.prog 19 #[.pointer (some ⟨P, 0, none⟩)] W fun e w' => ∃ A c, e = .returned (.slice A ny c) ∧ ny ≤ c ∧ c ≤ 9223372036854775807 ∧ Rd SP w' w'.heap.size A (srtS l2) ∧ Below W.heap.size W w') := hide (fun W h => by
          refine (bListS h.b (by omega)).mono ?_
          rintro e w' ⟨A, c, rfl, k1, k2, k3, k4⟩
          rw [srtS_len, m6] at k1
          exact ⟨A, c, by rw [srtS_len, m6], k1, k2, k3.rd fun b hb => hb.2, k4⟩)
        have HLy := hide (show (srtS l2).length = ny by rw [srtS_len]; exact m6)
        clear hs ht hbx hby hbf
        go_upto_region 23 with (go_at_call 13; refine (CPk.out _ HPl.out).mono ?_; rintro e w4 ⟨rfl, hb4⟩; have HP4 := hide (HPl.out.step hb4); clear hb4)
        have HB4 := hide (show BQ w Q P (mostB most) v v2 l l2 Ax Ay (srtS l) (srtS l2) w4.heap.size s1 s2 s3 (w4.alloc (.cells #[.int .u64 s1, .int .u64 s2, .int .i64 s3] 33)) from ⟨HP4.out.step (below1 _ _), Blk.new _ _ _⟩)
        clear HP4 HPl
        generalize World.alloc w4 _ = w5 at *
        generalize w4.heap.size = gs at *
        go_upto_region 24 with (go_at_call 14; refine (CWo.out _ HB4.out.pl).mono ?_; rintro e w6 ⟨rfl, hb6⟩; have HB6 := hide (HB4.out.step hb6); clear hb6)
        have HB7 := hide (show BQ w Q P (mostB most) v v2 l l2 Ax Ay (srtS l) (srtS l2) gs s1 s2 s3 (w6.alloc (.cells #[.int .u64 t1, .int .u64 t2, .int .i64 t3] 33)) ∧ Blk (w6.alloc (.cells #[.int .u64 t1, .int .u64 t2, .int .i64 t3] 33)) w6.heap.size 33 #[.int .u64 t1, .int .u64 t2, .int .i64 t3] from ⟨HB6.out.step (below1 _ _), Blk.new _ _ _⟩)
        clear HB4 HB6
        generalize World.alloc w6 _ = w7 at *
        generalize w6.heap.size = gw at *
        have k1 : ((nx : Int) != nx) = false := by simp
        have k2 : (bf != bf) = false := by simp
        have k3 : ((ny : Int) == (mostB most : Int)) = bf := by
          rw [← Hbf.out, Bool.eq_iff_iff]
          simp
          omega
        have CMo := hide (fun W => refMost_any most W)
        generalize hK : mostB most = K at *
        have HK := hide hK
        clear hK
        rcases bx with _ | _
        · rcases by' with _ | _
          · have px : nx = 0 := by have := of_decide_eq_false Hbx.out; omega
            subst px
            have py : ny = 0 := by have := of_decide_eq_false Hby.out; omega
            subst py
            have k4 : ((0 : Int) == (K : Int)) = bf := k3
            refine wp_region_held_drew (S := fun W => BQ w Q P K v v2 l l2 Ax Ay (srtS l) (srtS l2) gs s1 s2 s3 W ∧ Blk W gw 33 #[.int .u64 t1, .int .u64 t2, .int .i64 t3]) (by as_aux_lemma => kernel_rfl) ⟨HB7.out.1.step (Below.refl _ _).drew, HB7.out.2.drew⟩ (fun hHeld => ?_)
            clear HB7
            generalize World.drew _ = wl1 at *
            refine wpAnyH_puts [(0, 106), (2, 108)] [(106, .pointer (some ⟨Q, 0, none⟩)), (108, .slice Ax 0 cx)] [0, 2] 2 rfl (by as_aux_lemma => kernel_rfl) (by as_aux_lemma => kernel_rfl) (fun _ _ _ _ _ h => h) hHeld ?_
            simp only [putsOf, listsOf, List.setIfInBounds_toArray, List.set_cons_zero, List.set_cons_succ]
            refine wpAnyH_take (i := 3) (v := .int .i64 0) rfl (by as_aux_lemma => kernel_rfl) (by as_aux_lemma => kernel_rfl) (by as_aux_lemma => kernel_rfl) (fun _ _ _ h => h) (Or.inl ⟨by as_aux_lemma => kernel_rfl, fun W hS => by clear hS hHeld; go_simp⟩) hHeld ?_
            try simp only [Act.put, List.setIfInBounds_toArray, List.set_cons_zero, List.set_cons_succ, List.getElem_toArray, List.getElem_cons_zero, List.getElem_cons_succ]
            refine wpAnyH_ready (rs := [1]) (by as_aux_lemma => kernel_rfl) (by simp) ?_
            refine AllReadyH.cons rfl (fun K hK => ?_) AllReadyH.nil
            try simp only [Act.put, List.setIfInBounds_toArray, List.set_cons_zero, List.set_cons_succ, List.getElem_toArray, List.getElem_cons_zero, List.getElem_cons_succ]
            go_simp
            go_at_call 15
            refine (CLe.out _ hHeld.1.pl).mono ?_
            rintro e _ ⟨rfl, rfl⟩
            refine hK.out _ _ hHeld (fun hHeld2 => ?_)
            clear hK K hHeld
            have hHeld := hHeld2
            clear hHeld2
            try simp only [Act.put, List.setIfInBounds_toArray, List.set_cons_zero, List.set_cons_succ, List.getElem_toArray, List.getElem_cons_zero, List.getElem_cons_succ]
            refine wpAnyH_take (i := 4) (v := .bool false) rfl (by as_aux_lemma => kernel_rfl) (by as_aux_lemma => kernel_rfl) (by as_aux_lemma => kernel_rfl) (fun _ _ _ h => h) (Or.inl ⟨by as_aux_lemma => kernel_rfl, fun W hS => by clear hS hHeld; go_simp⟩) hHeld ?_
            try simp only [Act.put, List.setIfInBounds_toArray, List.set_cons_zero, List.set_cons_succ, List.getElem_toArray, List.getElem_cons_zero, List.getElem_cons_succ]
            refine wpAnyH_puts [(5, 111), (6, 112), (7, 113)] [(111, .bool false), (112, .bool false), (113, .slice Ax 0 cx)] [5, 6, 7] 3 rfl (by as_aux_lemma => kernel_rfl) (by as_aux_lemma => kernel_rfl) (fun _ _ _ _ _ h => h) hHeld ?_
            simp only [putsOf, listsOf, List.setIfInBounds_toArray, List.set_cons_zero, List.set_cons_succ]
            refine wpAnyH_take (i := 8) (v := .int .i64 0) rfl (by as_aux_lemma => kernel_rfl) (by as_aux_lemma => kernel_rfl) (by as_aux_lemma => kernel_rfl) (fun _ _ _ h => h) (Or.inl ⟨by as_aux_lemma => kernel_rfl, fun W hS => by clear hS hHeld; go_simp⟩) hHeld ?_
            try simp only [Act.put, List.setIfInBounds_toArray, List.set_cons_zero, List.set_cons_succ, List.getElem_toArray, List.getElem_cons_zero, List.getElem_cons_succ]
            refine wpAnyH_take (i := 9) (v := .bool false) rfl (by as_aux_lemma => kernel_rfl) (by as_aux_lemma => kernel_rfl) (by as_aux_lemma => kernel_rfl) (fun _ _ _ h => h) (Or.inl ⟨by as_aux_lemma => kernel_rfl, fun W hS => by clear hS hHeld; go_simp⟩) hHeld ?_
            try simp only [Act.put, List.setIfInBounds_toArray, List.set_cons_zero, List.set_cons_succ, List.getElem_toArray, List.getElem_cons_zero, List.getElem_cons_succ]
            refine wpAnyH_take (i := 10) (v := .bool false) rfl (by as_aux_lemma => kernel_rfl) (by as_aux_lemma => kernel_rfl) (by as_aux_lemma => kernel_rfl) (fun _ _ _ h => h) (Or.inl ⟨by as_aux_lemma => kernel_rfl, fun W hS => by clear hS hHeld; go_simp⟩) hHeld ?_
            try simp only [Act.put, List.setIfInBounds_toArray, List.set_cons_zero, List.set_cons_succ, List.getElem_toArray, List.getElem_cons_zero, List.getElem_cons_succ]
            refine wpAnyH_puts [(11, 117), (12, 118), (13, 119), (14, 120), (15, 121), (16, 122), (17, 123), (18, 124), (19, 125), (20, 126), (21, 127), (22, 128), (23, 129), (24, 130)] [(117, .bool false), (118, .bool false), (119, .bool false), (120, .bool false), (121, undef), (122, undef), (123, undef), (124, undef), (125, undef), (126, .bool false), (127, .bool false), (128, .bool false), (129, .bool false), (130, .slice Ay 0 cy)] [11, 12, 13, 14, 15, 16, 17, 18, 19, 20, 21, 22, 23, 24] 14 rfl (by as_aux_lemma => kernel_rfl) (by as_aux_lemma => kernel_rfl) (fun _ _ _ _ _ h => h) hHeld ?_
            simp only [putsOf, listsOf, List.setIfInBounds_toArray, List.set_cons_zero, List.set_cons_succ]
            refine wpAnyH_take (i := 25) (v := .int .i64 0) rfl (by as_aux_lemma => kernel_rfl) (by as_aux_lemma => kernel_rfl) (by as_aux_lemma => kernel_rfl) (fun _ _ _ h => h) (Or.inl ⟨by as_aux_lemma => kernel_rfl, fun W hS => by clear hS hHeld; go_simp⟩) hHeld ?_
            try simp only [Act.put, List.setIfInBounds_toArray, List.set_cons_zero, List.set_cons_succ, List.getElem_toArray, List.getElem_cons_zero, List.getElem_cons_succ]
            refine wpAnyH_take (i := 26) (v := .bool false) rfl (by as_aux_lemma => kernel_rfl) (by as_aux_lemma => kernel_rfl) (by as_aux_lemma => kernel_rfl) (fun _ _ _ h => h) (Or.inl ⟨by as_aux_lemma => kernel_rfl, fun W hS => by clear hS hHeld; go_simp⟩) hHeld ?_
            try simp only [Act.put, List.setIfInBounds_toArray, List.set_cons_zero, List.set_cons_succ, List.getElem_toArray, List.getElem_cons_zero, List.getElem_cons_succ]
            refine wpAnyH_take (i := 27) (v := .bool false) rfl (by as_aux_lemma => kernel_rfl) (by as_aux_lemma => kernel_rfl) (by as_aux_lemma => kernel_rfl) (fun _ _ _ h => h) (Or.inl ⟨by as_aux_lemma => kernel_rfl, fun W hS => by clear hS hHeld; go_simp⟩) hHeld ?_
            try simp only [Act.put, List.setIfInBounds_toArray, List.set_cons_zero, List.set_cons_succ, List.getElem_toArray, List.getElem_cons_zero, List.getElem_cons_succ]
            refine wpAnyH_puts [(28, 134), (29, 135), (30, 136), (31, 137), (32, 138), (33, 139), (34, 140), (35, 141), (36, 142), (37, 143), (38, 144), (39, 145), (40, 146), (41, 147), (42, 148), (43, 149), (45, 151)] [(134, .bool false), (135, .bool false), (136, .bool false), (137, .bool false), (138, undef), (139, undef), (140, undef), (141, undef), (142, undef), (143, undef), (144, undef), (145, undef), (146, .bool false), (147, .bool false), (148, .bool false), (149, .pointer (some ⟨P, 0, none⟩)), (151, .slice Ay 0 cy)] [28, 29, 30, 31, 32, 33, 34, 35, 36, 37, 38, 39, 40, 41, 42, 43, 45] 17 rfl (by as_aux_lemma => kernel_rfl) (by as_aux_lemma => kernel_rfl) (fun _ _ _ _ _ h => h) hHeld ?_
            simp only [putsOf, listsOf, List.setIfInBounds_toArray, List.set_cons_zero, List.set_cons_succ]
            refine wpAnyH_take (i := 46) (v := .int .i64 0) rfl (by as_aux_lemma => kernel_rfl) (by as_aux_lemma => kernel_rfl) (by as_aux_lemma => kernel_rfl) (fun _ _ _ h => h) (Or.inl ⟨by as_aux_lemma => kernel_rfl, fun W hS => by clear hS hHeld; go_simp⟩) hHeld ?_
            try simp only [Act.put, List.setIfInBounds_toArray, List.set_cons_zero, List.set_cons_succ, List.getElem_toArray, List.getElem_cons_zero, List.getElem_cons_succ]
            refine wpAnyH_puts [(47, 153)] [(153, .int .i64 most)] [47] 1 rfl (by as_aux_lemma => kernel_rfl) (by as_aux_lemma => kernel_rfl) (fun _ _ _ _ _ h => h) hHeld ?_
            simp only [putsOf, listsOf, List.setIfInBounds_toArray, List.set_cons_zero, List.set_cons_succ]
            refine wpAnyH_ready (rs := [44]) (by as_aux_lemma => kernel_rfl) (by simp) ?_
            refine AllReadyH.cons rfl (fun K hK => ?_) AllReadyH.nil
            try simp only [Act.put, List.setIfInBounds_toArray, List.set_cons_zero, List.set_cons_succ, List.getElem_toArray, List.getElem_cons_zero, List.getElem_cons_succ]
            go_simp
            go_at_call 16
            refine (CFu.out _ hHeld.1.pl).mono ?_
            rintro e w8 ⟨rfl, hdw⟩
            refine hK.out _ _ ⟨hHeld.1.step hdw.below, hHeld.2.below hdw.below hHeld.2.lt⟩ (fun hHeld2 => ?_)
            clear hK K hHeld
            have hHeld := hHeld2
            clear hHeld2
            try simp only [Act.put, List.setIfInBounds_toArray, List.set_cons_zero, List.set_cons_succ, List.getElem_toArray, List.getElem_cons_zero, List.getElem_cons_succ]
            clear hdw
            refine wpAnyH_ready (rs := [48]) (by as_aux_lemma => kernel_rfl) (by simp) ?_
            refine AllReadyH.cons rfl (fun K hK => ?_) AllReadyH.nil
            try simp only [Act.put, List.setIfInBounds_toArray, List.set_cons_zero, List.set_cons_succ, List.getElem_toArray, List.getElem_cons_zero, List.getElem_cons_succ]
            go_simp
            go_at_call 17
            refine (CMo.out _).mono ?_
            rintro e _ ⟨rfl, rfl⟩
            refine hK.out _ _ hHeld (fun hHeld2 => ?_)
            clear hK K hHeld
            have hHeld := hHeld2
            clear hHeld2
            try simp only [Act.put, List.setIfInBounds_toArray, List.set_cons_zero, List.set_cons_succ, List.getElem_toArray, List.getElem_cons_zero, List.getElem_cons_succ]
            refine wpAnyH_take (i := 49) (v := .bool bf) rfl (by as_aux_lemma => kernel_rfl) (by as_aux_lemma => kernel_rfl) (by as_aux_lemma => kernel_rfl) (fun _ _ _ h => h) (Or.inl ⟨by as_aux_lemma => kernel_rfl, fun W hS => by clear hS hHeld; go_simp⟩) hHeld ?_
            try simp only [Act.put, List.setIfInBounds_toArray, List.set_cons_zero, List.set_cons_succ, List.getElem_toArray, List.getElem_cons_zero, List.getElem_cons_succ]
            refine wpAnyH_take (i := 50) (v := .bool false) rfl (by as_aux_lemma => kernel_rfl) (by as_aux_lemma => kernel_rfl) (by as_aux_lemma => kernel_rfl) (fun _ _ _ h => h) (Or.inl ⟨by as_aux_lemma => kernel_rfl, fun W hS => by clear hS hHeld; go_simp⟩) hHeld ?_
            try simp only [Act.put, List.setIfInBounds_toArray, List.set_cons_zero, List.set_cons_succ, List.getElem_toArray, List.getElem_cons_zero, List.getElem_cons_succ]
            refine wpAnyH_puts [(51, 157), (52, 158), (53, 159), (55, 161)] [(157, .bool false), (158, .bool false), (159, .pointer (some ⟨P, 0, none⟩)), (161, .slice Ay 0 cy)] [51, 52, 53, 55] 4 rfl (by as_aux_lemma => kernel_rfl) (by as_aux_lemma => kernel_rfl) (fun _ _ _ _ _ h => h) hHeld ?_
            simp only [putsOf, listsOf, List.setIfInBounds_toArray, List.set_cons_zero, List.set_cons_succ]
            refine wpAnyH_ready (rs := [54]) (by as_aux_lemma => kernel_rfl) (by simp) ?_
            refine AllReadyH.cons rfl (fun K hK => ?_) AllReadyH.nil
            try simp only [Act.put, List.setIfInBounds_toArray, List.set_cons_zero, List.set_cons_succ, List.getElem_toArray, List.getElem_cons_zero, List.getElem_cons_succ]
            go_simp
            go_at_call 19
            refine (CLi.out _ hHeld.1.pl).mono ?_
            rintro e w9 ⟨AL, cL, rfl, y1, y2, hr, hbl⟩
            have HRL := hide hr
            clear hr
            refine hK.out _ _ ⟨hHeld.1.step hbl, hHeld.2.below hbl hHeld.2.lt⟩ (fun hHeld2 => ?_)
            clear hK K hHeld
            have hHeld := hHeld2
            clear hHeld2
            try simp only [Act.put, List.setIfInBounds_toArray, List.set_cons_zero, List.set_cons_succ, List.getElem_toArray, List.getElem_cons_zero, List.getElem_cons_succ]
            clear hbl
            refine wpAnyH_ready (rs := [56]) (by as_aux_lemma => kernel_rfl) (by simp) ?_
            refine AllReadyH.cons rfl (fun K hK => ?_) AllReadyH.nil
            try simp only [Act.put, List.setIfInBounds_toArray, List.set_cons_zero, List.set_cons_succ, List.getElem_toArray, List.getElem_cons_zero, List.getElem_cons_succ]
            go_simp
            go_at_call 18
            refine (same_any AL Ay 0 cL 0 cy (srtS l2) (srtS l2) _ HRL.out HLy.out y1 y2 (hHeld.1.pl.y.rd fun d hd => hd.1) HLy.out m3 m4).mono ?_
            rintro e w10 ⟨hev, hdw⟩
            have hev : e = .returned (.bool true) := hev.trans (by simp)
            subst hev
            refine hK.out _ _ ⟨hHeld.1.step hdw.below, hHeld.2.below hdw.below hHeld.2.lt⟩ (fun hHeld2 => ?_)
            clear hK K hHeld
            have hHeld := hHeld2
            clear hHeld2
            try simp only [Act.put, List.setIfInBounds_toArray, List.set_cons_zero, List.set_cons_succ, List.getElem_toArray, List.getElem_cons_zero, List.getElem_cons_succ]
            clear hdw HRL
            refine wpAnyH_puts [(57, 163), (58, 164)] [(163, .bool false), (164, .bool false)] [57, 58] 2 rfl (by as_aux_lemma => kernel_rfl) (by as_aux_lemma => kernel_rfl) (fun _ _ _ _ _ h => h) hHeld ?_
            simp only [putsOf, listsOf, List.setIfInBounds_toArray, List.set_cons_zero, List.set_cons_succ]
            refine wpAnyH_done (by as_aux_lemma => kernel_rfl) ?_ _
            have HF := hide hHeld.1.pl
            clear hHeld
            go_wp2
            go_roundw
            case rel => exact ⟨k + 1, v, v2, l, l2, Ax, Ay, 0, cx, 0, cy, by omega, by go_num, rfl, rfl, HNum, hide (by rw [HK.out]; exact HF.out)⟩
            case measure => simp [intOf]; omega
          · have px : nx = 0 := by have := of_decide_eq_false Hbx.out; omega
            subst px
            have py : 0 < ny := of_decide_eq_true Hby.out
            obtain ⟨m, hm⟩ : ∃ m, ny = m + 1 := ⟨ny - 1, by omega⟩
            obtain ⟨t, Y, hY⟩ := srtS_ne (l := l2) (by omega)
            obtain ⟨ad2, rfl⟩ := RdR.some_of (hY ▸ HB7.out.1.pl.y)
            have HYs := hide (show (srtS l2)[m]? = some ((t1, t2), t3) by
              have e := lstS_worst HB7.out.1.pl.hb (by omega)
              unfold lstS at e
              rw [HLy.out, hm, Nat.add_sub_cancel, Ht.out] at e
              have hi : m < (srtS l2).length := by rw [HLy.out]; omega
              rw [List.getElem?_eq_getElem hi] at e ⊢
              exact congrArg some e)
            clear hY
            have hn2 := run_neq_spot t1 t2 t3 t1 t2 t3 (r := true) (by simp)
            have c2 : decide ((0 : Int) < ny) = true := by simp; omega
            have c3 : decide (0 < ny) = true := by simp; omega
            have hw1 : (ny : Int) - 1 = m := by omega
            have hm0 : (0 : Int) ≤ m := by omega
            have hwm : IntKind.i64.wrap (m : Int) = m := IntWalk.i64_in _ (by omega)
            have hmn : (m : Int) < ny := by omega
            have Hm := hide hm
            clear hm
            refine wp_region_held_drew (S := fun W => BQ w Q P K v v2 l l2 Ax (some ad2) (srtS l) (srtS l2) gs s1 s2 s3 W ∧ Blk W gw 33 #[.int .u64 t1, .int .u64 t2, .int .i64 t3]) (by as_aux_lemma => kernel_rfl) ⟨HB7.out.1.step (Below.refl _ _).drew, HB7.out.2.drew⟩ (fun hHeld => ?_)
            clear HB7
            generalize World.drew _ = wl1 at *
            refine wpAnyH_puts [(0, 106), (2, 108)] [(106, .pointer (some ⟨Q, 0, none⟩)), (108, .slice Ax 0 cx)] [0, 2] 2 rfl (by as_aux_lemma => kernel_rfl) (by as_aux_lemma => kernel_rfl) (fun _ _ _ _ _ h => h) hHeld ?_
            simp only [putsOf, listsOf, List.setIfInBounds_toArray, List.set_cons_zero, List.set_cons_succ]
            refine wpAnyH_take (i := 3) (v := .int .i64 0) rfl (by as_aux_lemma => kernel_rfl) (by as_aux_lemma => kernel_rfl) (by as_aux_lemma => kernel_rfl) (fun _ _ _ h => h) (Or.inl ⟨by as_aux_lemma => kernel_rfl, fun W hS => by clear hS hHeld; go_simp⟩) hHeld ?_
            try simp only [Act.put, List.setIfInBounds_toArray, List.set_cons_zero, List.set_cons_succ, List.getElem_toArray, List.getElem_cons_zero, List.getElem_cons_succ]
            refine wpAnyH_ready (rs := [1]) (by as_aux_lemma => kernel_rfl) (by simp) ?_
            refine AllReadyH.cons rfl (fun K hK => ?_) AllReadyH.nil
            try simp only [Act.put, List.setIfInBounds_toArray, List.set_cons_zero, List.set_cons_succ, List.getElem_toArray, List.getElem_cons_zero, List.getElem_cons_succ]
            go_simp
            go_at_call 15
            refine (CLe.out _ hHeld.1.pl).mono ?_
            rintro e _ ⟨rfl, rfl⟩
            refine hK.out _ _ hHeld (fun hHeld2 => ?_)
            clear hK K hHeld
            have hHeld := hHeld2
            clear hHeld2
            try simp only [Act.put, List.setIfInBounds_toArray, List.set_cons_zero, List.set_cons_succ, List.getElem_toArray, List.getElem_cons_zero, List.getElem_cons_succ]
            refine wpAnyH_take (i := 4) (v := .bool false) rfl (by as_aux_lemma => kernel_rfl) (by as_aux_lemma => kernel_rfl) (by as_aux_lemma => kernel_rfl) (fun _ _ _ h => h) (Or.inl ⟨by as_aux_lemma => kernel_rfl, fun W hS => by clear hS hHeld; go_simp⟩) hHeld ?_
            try simp only [Act.put, List.setIfInBounds_toArray, List.set_cons_zero, List.set_cons_succ, List.getElem_toArray, List.getElem_cons_zero, List.getElem_cons_succ]
            refine wpAnyH_puts [(5, 111), (6, 112), (7, 113)] [(111, .bool false), (112, .bool false), (113, .slice Ax 0 cx)] [5, 6, 7] 3 rfl (by as_aux_lemma => kernel_rfl) (by as_aux_lemma => kernel_rfl) (fun _ _ _ _ _ h => h) hHeld ?_
            simp only [putsOf, listsOf, List.setIfInBounds_toArray, List.set_cons_zero, List.set_cons_succ]
            refine wpAnyH_take (i := 8) (v := .int .i64 0) rfl (by as_aux_lemma => kernel_rfl) (by as_aux_lemma => kernel_rfl) (by as_aux_lemma => kernel_rfl) (fun _ _ _ h => h) (Or.inl ⟨by as_aux_lemma => kernel_rfl, fun W hS => by clear hS hHeld; go_simp⟩) hHeld ?_
            try simp only [Act.put, List.setIfInBounds_toArray, List.set_cons_zero, List.set_cons_succ, List.getElem_toArray, List.getElem_cons_zero, List.getElem_cons_succ]
            refine wpAnyH_take (i := 9) (v := .bool false) rfl (by as_aux_lemma => kernel_rfl) (by as_aux_lemma => kernel_rfl) (by as_aux_lemma => kernel_rfl) (fun _ _ _ h => h) (Or.inl ⟨by as_aux_lemma => kernel_rfl, fun W hS => by clear hS hHeld; go_simp⟩) hHeld ?_
            try simp only [Act.put, List.setIfInBounds_toArray, List.set_cons_zero, List.set_cons_succ, List.getElem_toArray, List.getElem_cons_zero, List.getElem_cons_succ]
            refine wpAnyH_take (i := 10) (v := .bool false) rfl (by as_aux_lemma => kernel_rfl) (by as_aux_lemma => kernel_rfl) (by as_aux_lemma => kernel_rfl) (fun _ _ _ h => h) (Or.inl ⟨by as_aux_lemma => kernel_rfl, fun W hS => by clear hS hHeld; go_simp⟩) hHeld ?_
            try simp only [Act.put, List.setIfInBounds_toArray, List.set_cons_zero, List.set_cons_succ, List.getElem_toArray, List.getElem_cons_zero, List.getElem_cons_succ]
            refine wpAnyH_puts [(11, 117), (12, 118), (13, 119), (14, 120), (15, 121), (16, 122), (17, 123), (18, 124), (19, 125), (20, 126), (21, 127), (22, 128), (23, 129), (24, 130)] [(117, .bool false), (118, .bool false), (119, .bool false), (120, .bool false), (121, undef), (122, undef), (123, undef), (124, undef), (125, undef), (126, .bool false), (127, .bool false), (128, .bool false), (129, .bool true), (130, .slice (some ad2) ny cy)] [11, 12, 13, 14, 15, 16, 17, 18, 19, 20, 21, 22, 23, 24] 14 rfl (by as_aux_lemma => kernel_rfl) (by as_aux_lemma => kernel_rfl) (fun _ _ _ _ _ h => h) hHeld ?_
            simp only [putsOf, listsOf, List.setIfInBounds_toArray, List.set_cons_zero, List.set_cons_succ]
            refine wpAnyH_take (i := 25) (v := .int .i64 ny) rfl (by as_aux_lemma => kernel_rfl) (by as_aux_lemma => kernel_rfl) (by as_aux_lemma => kernel_rfl) (fun _ _ _ h => h) (Or.inl ⟨by as_aux_lemma => kernel_rfl, fun W hS => by clear hS hHeld; go_simp⟩) hHeld ?_
            try simp only [Act.put, List.setIfInBounds_toArray, List.set_cons_zero, List.set_cons_succ, List.getElem_toArray, List.getElem_cons_zero, List.getElem_cons_succ]
            refine wpAnyH_take (i := 26) (v := .bool true) rfl (by as_aux_lemma => kernel_rfl) (by as_aux_lemma => kernel_rfl) (by as_aux_lemma => kernel_rfl) (fun _ _ _ h => h) (Or.inl ⟨by as_aux_lemma => kernel_rfl, fun W hS => by clear hS hHeld; go_simp⟩) hHeld ?_
            try simp only [Act.put, List.setIfInBounds_toArray, List.set_cons_zero, List.set_cons_succ, List.getElem_toArray, List.getElem_cons_zero, List.getElem_cons_succ]
            refine wpAnyH_take (i := 27) (v := .bool false) rfl (by as_aux_lemma => kernel_rfl) (by as_aux_lemma => kernel_rfl) (by as_aux_lemma => kernel_rfl) (fun _ _ _ h => h) (Or.inl ⟨by as_aux_lemma => kernel_rfl, fun W hS => by clear hS hHeld; go_simp⟩) hHeld ?_
            try simp only [Act.put, List.setIfInBounds_toArray, List.set_cons_zero, List.set_cons_succ, List.getElem_toArray, List.getElem_cons_zero, List.getElem_cons_succ]
            refine wpAnyH_puts [(28, 134), (29, 135), (30, 136), (31, 137)] [(134, .bool false), (135, .bool false), (136, .bool true), (137, .bool true)] [28, 29, 30, 31] 4 rfl (by as_aux_lemma => kernel_rfl) (by as_aux_lemma => kernel_rfl) (fun _ _ _ _ _ h => h) hHeld ?_
            simp only [putsOf, listsOf, List.setIfInBounds_toArray, List.set_cons_zero, List.set_cons_succ]
            refine wpAnyH_take (i := 32) (v := .agg #[.int .u64 t1, .int .u64 t2, .int .i64 t3]) rfl (by as_aux_lemma => kernel_rfl) (by as_aux_lemma => kernel_rfl) (by as_aux_lemma => kernel_rfl) (fun _ _ _ h => h) (Or.inl ⟨by as_aux_lemma => kernel_rfl, fun W hS => by obtain ⟨z0, z1, z2⟩ := cell3s hS.2; clear hS hHeld; go_simp⟩) hHeld ?_
            try simp only [Act.put, List.setIfInBounds_toArray, List.set_cons_zero, List.set_cons_succ, List.getElem_toArray, List.getElem_cons_zero, List.getElem_cons_succ]
            refine wpAnyH_puts [(33, 139), (34, 140)] [(139, .slice (some ad2) ny cy), (140, .slice (some ad2) ny cy)] [33, 34] 2 rfl (by as_aux_lemma => kernel_rfl) (by as_aux_lemma => kernel_rfl) (fun _ _ _ _ _ h => h) hHeld ?_
            simp only [putsOf, listsOf, List.setIfInBounds_toArray, List.set_cons_zero, List.set_cons_succ]
            refine wpAnyH_take (i := 35) (v := .int .i64 ny) rfl (by as_aux_lemma => kernel_rfl) (by as_aux_lemma => kernel_rfl) (by as_aux_lemma => kernel_rfl) (fun _ _ _ h => h) (Or.inl ⟨by as_aux_lemma => kernel_rfl, fun W hS => by clear hS hHeld; go_simp⟩) hHeld ?_
            try simp only [Act.put, List.setIfInBounds_toArray, List.set_cons_zero, List.set_cons_succ, List.getElem_toArray, List.getElem_cons_zero, List.getElem_cons_succ]
            refine wpAnyH_take (i := 36) (v := .int .i64 m) rfl (by as_aux_lemma => kernel_rfl) (by as_aux_lemma => kernel_rfl) (by as_aux_lemma => kernel_rfl) (fun _ _ _ h => h) (Or.inl ⟨by as_aux_lemma => kernel_rfl, fun W hS => by clear hS hHeld; go_simp⟩) hHeld ?_
            try simp only [Act.put, List.setIfInBounds_toArray, List.set_cons_zero, List.set_cons_succ, List.getElem_toArray, List.getElem_cons_zero, List.getElem_cons_succ]
            refine wpAnyH_take (i := 37) (v := .pointer (some (ad2.add (m * 3)))) rfl (by as_aux_lemma => kernel_rfl) (by as_aux_lemma => kernel_rfl) (by as_aux_lemma => kernel_rfl) (fun _ _ _ h => h) (Or.inl ⟨by as_aux_lemma => kernel_rfl, fun W hS => by clear hS hHeld; go_simp⟩) hHeld ?_
            try simp only [Act.put, List.setIfInBounds_toArray, List.set_cons_zero, List.set_cons_succ, List.getElem_toArray, List.getElem_cons_zero, List.getElem_cons_succ]
            refine wpAnyH_take (i := 38) (v := .agg #[.int .u64 t1, .int .u64 t2, .int .i64 t3]) rfl (by as_aux_lemma => kernel_rfl) (by as_aux_lemma => kernel_rfl) (by as_aux_lemma => kernel_rfl) (fun _ _ _ h => h) (Or.inl ⟨by as_aux_lemma => kernel_rfl, fun W hS => by obtain ⟨z0, z1, z2⟩ := RdR.scell_at hS.1.pl.y HYs.out; simp only at z0 z1 z2; clear hS hHeld; go_simp⟩) hHeld ?_
            try simp only [Act.put, List.setIfInBounds_toArray, List.set_cons_zero, List.set_cons_succ, List.getElem_toArray, List.getElem_cons_zero, List.getElem_cons_succ]
            refine wpAnyH_take (i := 39) (v := .bool false) rfl (by as_aux_lemma => kernel_rfl) (by as_aux_lemma => kernel_rfl) (by as_aux_lemma => kernel_rfl) (fun _ _ _ h => h) (Or.inl ⟨by as_aux_lemma => kernel_rfl, fun W hS => by clear hS hHeld; go_simp⟩) hHeld ?_
            try simp only [Act.put, List.setIfInBounds_toArray, List.set_cons_zero, List.set_cons_succ, List.getElem_toArray, List.getElem_cons_zero, List.getElem_cons_succ]
            refine wpAnyH_puts [(40, 146), (41, 147), (42, 148), (43, 149), (45, 151)] [(146, .bool false), (147, .bool false), (148, .bool false), (149, .pointer (some ⟨P, 0, none⟩)), (151, .slice (some ad2) ny cy)] [40, 41, 42, 43, 45] 5 rfl (by as_aux_lemma => kernel_rfl) (by as_aux_lemma => kernel_rfl) (fun _ _ _ _ _ h => h) hHeld ?_
            simp only [putsOf, listsOf, List.setIfInBounds_toArray, List.set_cons_zero, List.set_cons_succ]
            refine wpAnyH_take (i := 46) (v := .int .i64 ny) rfl (by as_aux_lemma => kernel_rfl) (by as_aux_lemma => kernel_rfl) (by as_aux_lemma => kernel_rfl) (fun _ _ _ h => h) (Or.inl ⟨by as_aux_lemma => kernel_rfl, fun W hS => by clear hS hHeld; go_simp⟩) hHeld ?_
            try simp only [Act.put, List.setIfInBounds_toArray, List.set_cons_zero, List.set_cons_succ, List.getElem_toArray, List.getElem_cons_zero, List.getElem_cons_succ]
            refine wpAnyH_puts [(47, 153)] [(153, .int .i64 most)] [47] 1 rfl (by as_aux_lemma => kernel_rfl) (by as_aux_lemma => kernel_rfl) (fun _ _ _ _ _ h => h) hHeld ?_
            simp only [putsOf, listsOf, List.setIfInBounds_toArray, List.set_cons_zero, List.set_cons_succ]
            refine wpAnyH_ready (rs := [44]) (by as_aux_lemma => kernel_rfl) (by simp) ?_
            refine AllReadyH.cons rfl (fun K hK => ?_) AllReadyH.nil
            try simp only [Act.put, List.setIfInBounds_toArray, List.set_cons_zero, List.set_cons_succ, List.getElem_toArray, List.getElem_cons_zero, List.getElem_cons_succ]
            go_simp
            go_at_call 16
            refine (CFu.out _ hHeld.1.pl).mono ?_
            rintro e w8 ⟨rfl, hdw⟩
            refine hK.out _ _ ⟨hHeld.1.step hdw.below, hHeld.2.below hdw.below hHeld.2.lt⟩ (fun hHeld2 => ?_)
            clear hK K hHeld
            have hHeld := hHeld2
            clear hHeld2
            try simp only [Act.put, List.setIfInBounds_toArray, List.set_cons_zero, List.set_cons_succ, List.getElem_toArray, List.getElem_cons_zero, List.getElem_cons_succ]
            clear hdw
            refine wpAnyH_ready (rs := [48]) (by as_aux_lemma => kernel_rfl) (by simp) ?_
            refine AllReadyH.cons rfl (fun K hK => ?_) AllReadyH.nil
            try simp only [Act.put, List.setIfInBounds_toArray, List.set_cons_zero, List.set_cons_succ, List.getElem_toArray, List.getElem_cons_zero, List.getElem_cons_succ]
            go_simp
            go_at_call 17
            refine (CMo.out _).mono ?_
            rintro e _ ⟨rfl, rfl⟩
            refine hK.out _ _ hHeld (fun hHeld2 => ?_)
            clear hK K hHeld
            have hHeld := hHeld2
            clear hHeld2
            try simp only [Act.put, List.setIfInBounds_toArray, List.set_cons_zero, List.set_cons_succ, List.getElem_toArray, List.getElem_cons_zero, List.getElem_cons_succ]
            refine wpAnyH_take (i := 49) (v := .bool bf) rfl (by as_aux_lemma => kernel_rfl) (by as_aux_lemma => kernel_rfl) (by as_aux_lemma => kernel_rfl) (fun _ _ _ h => h) (Or.inl ⟨by as_aux_lemma => kernel_rfl, fun W hS => by clear hS hHeld; go_simp⟩) hHeld ?_
            try simp only [Act.put, List.setIfInBounds_toArray, List.set_cons_zero, List.set_cons_succ, List.getElem_toArray, List.getElem_cons_zero, List.getElem_cons_succ]
            refine wpAnyH_take (i := 50) (v := .bool false) rfl (by as_aux_lemma => kernel_rfl) (by as_aux_lemma => kernel_rfl) (by as_aux_lemma => kernel_rfl) (fun _ _ _ h => h) (Or.inl ⟨by as_aux_lemma => kernel_rfl, fun W hS => by clear hS hHeld; go_simp⟩) hHeld ?_
            try simp only [Act.put, List.setIfInBounds_toArray, List.set_cons_zero, List.set_cons_succ, List.getElem_toArray, List.getElem_cons_zero, List.getElem_cons_succ]
            refine wpAnyH_puts [(51, 157), (52, 158), (53, 159), (55, 161)] [(157, .bool false), (158, .bool false), (159, .pointer (some ⟨P, 0, none⟩)), (161, .slice (some ad2) ny cy)] [51, 52, 53, 55] 4 rfl (by as_aux_lemma => kernel_rfl) (by as_aux_lemma => kernel_rfl) (fun _ _ _ _ _ h => h) hHeld ?_
            simp only [putsOf, listsOf, List.setIfInBounds_toArray, List.set_cons_zero, List.set_cons_succ]
            refine wpAnyH_ready (rs := [54]) (by as_aux_lemma => kernel_rfl) (by simp) ?_
            refine AllReadyH.cons rfl (fun K hK => ?_) AllReadyH.nil
            try simp only [Act.put, List.setIfInBounds_toArray, List.set_cons_zero, List.set_cons_succ, List.getElem_toArray, List.getElem_cons_zero, List.getElem_cons_succ]
            go_simp
            go_at_call 19
            refine (CLi.out _ hHeld.1.pl).mono ?_
            rintro e w9 ⟨AL, cL, rfl, y1, y2, hr, hbl⟩
            have HRL := hide hr
            clear hr
            refine hK.out _ _ ⟨hHeld.1.step hbl, hHeld.2.below hbl hHeld.2.lt⟩ (fun hHeld2 => ?_)
            clear hK K hHeld
            have hHeld := hHeld2
            clear hHeld2
            try simp only [Act.put, List.setIfInBounds_toArray, List.set_cons_zero, List.set_cons_succ, List.getElem_toArray, List.getElem_cons_zero, List.getElem_cons_succ]
            clear hbl
            refine wpAnyH_ready (rs := [56]) (by as_aux_lemma => kernel_rfl) (by simp) ?_
            refine AllReadyH.cons rfl (fun K hK => ?_) AllReadyH.nil
            try simp only [Act.put, List.setIfInBounds_toArray, List.set_cons_zero, List.set_cons_succ, List.getElem_toArray, List.getElem_cons_zero, List.getElem_cons_succ]
            go_simp
            go_at_call 18
            refine (same_any AL (some ad2) ny cL ny cy (srtS l2) (srtS l2) _ HRL.out HLy.out y1 y2 (hHeld.1.pl.y.rd fun d hd => hd.1) HLy.out m3 m4).mono ?_
            rintro e w10 ⟨hev, hdw⟩
            have hev : e = .returned (.bool true) := hev.trans (by simp)
            subst hev
            refine hK.out _ _ ⟨hHeld.1.step hdw.below, hHeld.2.below hdw.below hHeld.2.lt⟩ (fun hHeld2 => ?_)
            clear hK K hHeld
            have hHeld := hHeld2
            clear hHeld2
            try simp only [Act.put, List.setIfInBounds_toArray, List.set_cons_zero, List.set_cons_succ, List.getElem_toArray, List.getElem_cons_zero, List.getElem_cons_succ]
            clear hdw HRL
            refine wpAnyH_puts [(57, 163), (58, 164)] [(163, .bool false), (164, .bool false)] [57, 58] 2 rfl (by as_aux_lemma => kernel_rfl) (by as_aux_lemma => kernel_rfl) (fun _ _ _ _ _ h => h) hHeld ?_
            simp only [putsOf, listsOf, List.setIfInBounds_toArray, List.set_cons_zero, List.set_cons_succ]
            refine wpAnyH_done (by as_aux_lemma => kernel_rfl) ?_ _
            have HF := hide hHeld.1.pl
            clear hHeld
            go_wp2
            go_roundw
            case rel => exact ⟨k + 1, v, v2, l, l2, Ax, (some ad2), 0, cx, ny, cy, by omega, by go_num, rfl, rfl, HNum, hide (by rw [HK.out]; exact HF.out)⟩
            case measure => simp [intOf]; omega
        · rcases by' with _ | _
          · have px : 0 < nx := of_decide_eq_true Hbx.out
            obtain ⟨s, X, hX⟩ := srtS_ne (l := l) (by omega)
            obtain ⟨e1, _, _, _⟩ := srtS_cons HB7.out.1.pl.hq hX
            obtain ⟨ad, rfl⟩ := RdR.some_of (hX ▸ HB7.out.1.pl.x)
            have HXs := hide (show (srtS l)[0]? = some ((s1, s2), s3) by rw [hX, ← e1, Hs.out]; rfl)
            clear e1 hX
            have hn1 := run_neq_spot s1 s2 s3 s1 s2 s3 (r := true) (by simp)
            have b2 : decide ((0 : Int) < nx) = true := by simp; omega
            have b3 : decide (0 < nx) = true := by simp; omega
            have b4 : (0 : Int) < nx := by omega
            have py : ny = 0 := by have := of_decide_eq_false Hby.out; omega
            subst py
            have k4 : ((0 : Int) == (K : Int)) = bf := k3
            refine wp_region_held_drew (S := fun W => BQ w Q P K v v2 l l2 (some ad) Ay (srtS l) (srtS l2) gs s1 s2 s3 W ∧ Blk W gw 33 #[.int .u64 t1, .int .u64 t2, .int .i64 t3]) (by as_aux_lemma => kernel_rfl) ⟨HB7.out.1.step (Below.refl _ _).drew, HB7.out.2.drew⟩ (fun hHeld => ?_)
            clear HB7
            generalize World.drew _ = wl1 at *
            refine wpAnyH_puts [(0, 106), (2, 108)] [(106, .pointer (some ⟨Q, 0, none⟩)), (108, .slice (some ad) nx cx)] [0, 2] 2 rfl (by as_aux_lemma => kernel_rfl) (by as_aux_lemma => kernel_rfl) (fun _ _ _ _ _ h => h) hHeld ?_
            simp only [putsOf, listsOf, List.setIfInBounds_toArray, List.set_cons_zero, List.set_cons_succ]
            refine wpAnyH_take (i := 3) (v := .int .i64 nx) rfl (by as_aux_lemma => kernel_rfl) (by as_aux_lemma => kernel_rfl) (by as_aux_lemma => kernel_rfl) (fun _ _ _ h => h) (Or.inl ⟨by as_aux_lemma => kernel_rfl, fun W hS => by clear hS hHeld; go_simp⟩) hHeld ?_
            try simp only [Act.put, List.setIfInBounds_toArray, List.set_cons_zero, List.set_cons_succ, List.getElem_toArray, List.getElem_cons_zero, List.getElem_cons_succ]
            refine wpAnyH_ready (rs := [1]) (by as_aux_lemma => kernel_rfl) (by simp) ?_
            refine AllReadyH.cons rfl (fun K hK => ?_) AllReadyH.nil
            try simp only [Act.put, List.setIfInBounds_toArray, List.set_cons_zero, List.set_cons_succ, List.getElem_toArray, List.getElem_cons_zero, List.getElem_cons_succ]
            go_simp
            go_at_call 15
            refine (CLe.out _ hHeld.1.pl).mono ?_
            rintro e _ ⟨rfl, rfl⟩
            refine hK.out _ _ hHeld (fun hHeld2 => ?_)
            clear hK K hHeld
            have hHeld := hHeld2
            clear hHeld2
            try simp only [Act.put, List.setIfInBounds_toArray, List.set_cons_zero, List.set_cons_succ, List.getElem_toArray, List.getElem_cons_zero, List.getElem_cons_succ]
            refine wpAnyH_take (i := 4) (v := .bool false) rfl (by as_aux_lemma => kernel_rfl) (by as_aux_lemma => kernel_rfl) (by as_aux_lemma => kernel_rfl) (fun _ _ _ h => h) (Or.inl ⟨by as_aux_lemma => kernel_rfl, fun W hS => by clear hS hHeld; go_simp⟩) hHeld ?_
            try simp only [Act.put, List.setIfInBounds_toArray, List.set_cons_zero, List.set_cons_succ, List.getElem_toArray, List.getElem_cons_zero, List.getElem_cons_succ]
            refine wpAnyH_puts [(5, 111), (6, 112), (7, 113)] [(111, .bool false), (112, .bool true), (113, .slice (some ad) nx cx)] [5, 6, 7] 3 rfl (by as_aux_lemma => kernel_rfl) (by as_aux_lemma => kernel_rfl) (fun _ _ _ _ _ h => h) hHeld ?_
            simp only [putsOf, listsOf, List.setIfInBounds_toArray, List.set_cons_zero, List.set_cons_succ]
            refine wpAnyH_take (i := 8) (v := .int .i64 nx) rfl (by as_aux_lemma => kernel_rfl) (by as_aux_lemma => kernel_rfl) (by as_aux_lemma => kernel_rfl) (fun _ _ _ h => h) (Or.inl ⟨by as_aux_lemma => kernel_rfl, fun W hS => by clear hS hHeld; go_simp⟩) hHeld ?_
            try simp only [Act.put, List.setIfInBounds_toArray, List.set_cons_zero, List.set_cons_succ, List.getElem_toArray, List.getElem_cons_zero, List.getElem_cons_succ]
            refine wpAnyH_take (i := 9) (v := .bool true) rfl (by as_aux_lemma => kernel_rfl) (by as_aux_lemma => kernel_rfl) (by as_aux_lemma => kernel_rfl) (fun _ _ _ h => h) (Or.inl ⟨by as_aux_lemma => kernel_rfl, fun W hS => by clear hS hHeld; go_simp⟩) hHeld ?_
            try simp only [Act.put, List.setIfInBounds_toArray, List.set_cons_zero, List.set_cons_succ, List.getElem_toArray, List.getElem_cons_zero, List.getElem_cons_succ]
            refine wpAnyH_take (i := 10) (v := .bool false) rfl (by as_aux_lemma => kernel_rfl) (by as_aux_lemma => kernel_rfl) (by as_aux_lemma => kernel_rfl) (fun _ _ _ h => h) (Or.inl ⟨by as_aux_lemma => kernel_rfl, fun W hS => by clear hS hHeld; go_simp⟩) hHeld ?_
            try simp only [Act.put, List.setIfInBounds_toArray, List.set_cons_zero, List.set_cons_succ, List.getElem_toArray, List.getElem_cons_zero, List.getElem_cons_succ]
            refine wpAnyH_puts [(11, 117), (12, 118), (13, 119), (14, 120)] [(117, .bool false), (118, .bool false), (119, .bool true), (120, .bool true)] [11, 12, 13, 14] 4 rfl (by as_aux_lemma => kernel_rfl) (by as_aux_lemma => kernel_rfl) (fun _ _ _ _ _ h => h) hHeld ?_
            simp only [putsOf, listsOf, List.setIfInBounds_toArray, List.set_cons_zero, List.set_cons_succ]
            refine wpAnyH_take (i := 15) (v := .agg #[.int .u64 s1, .int .u64 s2, .int .i64 s3]) rfl (by as_aux_lemma => kernel_rfl) (by as_aux_lemma => kernel_rfl) (by as_aux_lemma => kernel_rfl) (fun _ _ _ h => h) (Or.inl ⟨by as_aux_lemma => kernel_rfl, fun W hS => by obtain ⟨z0, z1, z2⟩ := cell3s hS.1.g; clear hS hHeld; go_simp⟩) hHeld ?_
            try simp only [Act.put, List.setIfInBounds_toArray, List.set_cons_zero, List.set_cons_succ, List.getElem_toArray, List.getElem_cons_zero, List.getElem_cons_succ]
            refine wpAnyH_puts [(16, 122)] [(122, .slice (some ad) nx cx)] [16] 1 rfl (by as_aux_lemma => kernel_rfl) (by as_aux_lemma => kernel_rfl) (fun _ _ _ _ _ h => h) hHeld ?_
            simp only [putsOf, listsOf, List.setIfInBounds_toArray, List.set_cons_zero, List.set_cons_succ]
            refine wpAnyH_take (i := 17) (v := .pointer (some ad)) rfl (by as_aux_lemma => kernel_rfl) (by as_aux_lemma => kernel_rfl) (by as_aux_lemma => kernel_rfl) (fun _ _ _ h => h) (Or.inl ⟨by as_aux_lemma => kernel_rfl, fun W hS => by clear hS hHeld; go_simp⟩) hHeld ?_
            try simp only [Act.put, List.setIfInBounds_toArray, List.set_cons_zero, List.set_cons_succ, List.getElem_toArray, List.getElem_cons_zero, List.getElem_cons_succ]
            refine wpAnyH_take (i := 18) (v := .agg #[.int .u64 s1, .int .u64 s2, .int .i64 s3]) rfl (by as_aux_lemma => kernel_rfl) (by as_aux_lemma => kernel_rfl) (by as_aux_lemma => kernel_rfl) (fun _ _ _ h => h) (Or.inl ⟨by as_aux_lemma => kernel_rfl, fun W hS => by obtain ⟨z0, z1, z2⟩ := RdR.scell_at hS.1.pl.x HXs.out; rw [Nat.zero_mul, add_zero'] at z0 z1 z2; simp only at z0 z1 z2; clear hS hHeld; go_simp⟩) hHeld ?_
            try simp only [Act.put, List.setIfInBounds_toArray, List.set_cons_zero, List.set_cons_succ, List.getElem_toArray, List.getElem_cons_zero, List.getElem_cons_succ]
            refine wpAnyH_take (i := 19) (v := .bool false) rfl (by as_aux_lemma => kernel_rfl) (by as_aux_lemma => kernel_rfl) (by as_aux_lemma => kernel_rfl) (fun _ _ _ h => h) (Or.inl ⟨by as_aux_lemma => kernel_rfl, fun W hS => by clear hS hHeld; go_simp⟩) hHeld ?_
            try simp only [Act.put, List.setIfInBounds_toArray, List.set_cons_zero, List.set_cons_succ, List.getElem_toArray, List.getElem_cons_zero, List.getElem_cons_succ]
            refine wpAnyH_puts [(20, 126), (21, 127), (22, 128), (23, 129), (24, 130)] [(126, .bool false), (127, .bool false), (128, .bool false), (129, .bool false), (130, .slice Ay 0 cy)] [20, 21, 22, 23, 24] 5 rfl (by as_aux_lemma => kernel_rfl) (by as_aux_lemma => kernel_rfl) (fun _ _ _ _ _ h => h) hHeld ?_
            simp only [putsOf, listsOf, List.setIfInBounds_toArray, List.set_cons_zero, List.set_cons_succ]
            refine wpAnyH_take (i := 25) (v := .int .i64 0) rfl (by as_aux_lemma => kernel_rfl) (by as_aux_lemma => kernel_rfl) (by as_aux_lemma => kernel_rfl) (fun _ _ _ h => h) (Or.inl ⟨by as_aux_lemma => kernel_rfl, fun W hS => by clear hS hHeld; go_simp⟩) hHeld ?_
            try simp only [Act.put, List.setIfInBounds_toArray, List.set_cons_zero, List.set_cons_succ, List.getElem_toArray, List.getElem_cons_zero, List.getElem_cons_succ]
            refine wpAnyH_take (i := 26) (v := .bool false) rfl (by as_aux_lemma => kernel_rfl) (by as_aux_lemma => kernel_rfl) (by as_aux_lemma => kernel_rfl) (fun _ _ _ h => h) (Or.inl ⟨by as_aux_lemma => kernel_rfl, fun W hS => by clear hS hHeld; go_simp⟩) hHeld ?_
            try simp only [Act.put, List.setIfInBounds_toArray, List.set_cons_zero, List.set_cons_succ, List.getElem_toArray, List.getElem_cons_zero, List.getElem_cons_succ]
            refine wpAnyH_take (i := 27) (v := .bool false) rfl (by as_aux_lemma => kernel_rfl) (by as_aux_lemma => kernel_rfl) (by as_aux_lemma => kernel_rfl) (fun _ _ _ h => h) (Or.inl ⟨by as_aux_lemma => kernel_rfl, fun W hS => by clear hS hHeld; go_simp⟩) hHeld ?_
            try simp only [Act.put, List.setIfInBounds_toArray, List.set_cons_zero, List.set_cons_succ, List.getElem_toArray, List.getElem_cons_zero, List.getElem_cons_succ]
            refine wpAnyH_puts [(28, 134), (29, 135), (30, 136), (31, 137), (32, 138), (33, 139), (34, 140), (35, 141), (36, 142), (37, 143), (38, 144), (39, 145), (40, 146), (41, 147), (42, 148), (43, 149), (45, 151)] [(134, .bool false), (135, .bool false), (136, .bool false), (137, .bool false), (138, undef), (139, undef), (140, undef), (141, undef), (142, undef), (143, undef), (144, undef), (145, undef), (146, .bool false), (147, .bool false), (148, .bool false), (149, .pointer (some ⟨P, 0, none⟩)), (151, .slice Ay 0 cy)] [28, 29, 30, 31, 32, 33, 34, 35, 36, 37, 38, 39, 40, 41, 42, 43, 45] 17 rfl (by as_aux_lemma => kernel_rfl) (by as_aux_lemma => kernel_rfl) (fun _ _ _ _ _ h => h) hHeld ?_
            simp only [putsOf, listsOf, List.setIfInBounds_toArray, List.set_cons_zero, List.set_cons_succ]
            refine wpAnyH_take (i := 46) (v := .int .i64 0) rfl (by as_aux_lemma => kernel_rfl) (by as_aux_lemma => kernel_rfl) (by as_aux_lemma => kernel_rfl) (fun _ _ _ h => h) (Or.inl ⟨by as_aux_lemma => kernel_rfl, fun W hS => by clear hS hHeld; go_simp⟩) hHeld ?_
            try simp only [Act.put, List.setIfInBounds_toArray, List.set_cons_zero, List.set_cons_succ, List.getElem_toArray, List.getElem_cons_zero, List.getElem_cons_succ]
            refine wpAnyH_puts [(47, 153)] [(153, .int .i64 most)] [47] 1 rfl (by as_aux_lemma => kernel_rfl) (by as_aux_lemma => kernel_rfl) (fun _ _ _ _ _ h => h) hHeld ?_
            simp only [putsOf, listsOf, List.setIfInBounds_toArray, List.set_cons_zero, List.set_cons_succ]
            refine wpAnyH_ready (rs := [44]) (by as_aux_lemma => kernel_rfl) (by simp) ?_
            refine AllReadyH.cons rfl (fun K hK => ?_) AllReadyH.nil
            try simp only [Act.put, List.setIfInBounds_toArray, List.set_cons_zero, List.set_cons_succ, List.getElem_toArray, List.getElem_cons_zero, List.getElem_cons_succ]
            go_simp
            go_at_call 16
            refine (CFu.out _ hHeld.1.pl).mono ?_
            rintro e w8 ⟨rfl, hdw⟩
            refine hK.out _ _ ⟨hHeld.1.step hdw.below, hHeld.2.below hdw.below hHeld.2.lt⟩ (fun hHeld2 => ?_)
            clear hK K hHeld
            have hHeld := hHeld2
            clear hHeld2
            try simp only [Act.put, List.setIfInBounds_toArray, List.set_cons_zero, List.set_cons_succ, List.getElem_toArray, List.getElem_cons_zero, List.getElem_cons_succ]
            clear hdw
            refine wpAnyH_ready (rs := [48]) (by as_aux_lemma => kernel_rfl) (by simp) ?_
            refine AllReadyH.cons rfl (fun K hK => ?_) AllReadyH.nil
            try simp only [Act.put, List.setIfInBounds_toArray, List.set_cons_zero, List.set_cons_succ, List.getElem_toArray, List.getElem_cons_zero, List.getElem_cons_succ]
            go_simp
            go_at_call 17
            refine (CMo.out _).mono ?_
            rintro e _ ⟨rfl, rfl⟩
            refine hK.out _ _ hHeld (fun hHeld2 => ?_)
            clear hK K hHeld
            have hHeld := hHeld2
            clear hHeld2
            try simp only [Act.put, List.setIfInBounds_toArray, List.set_cons_zero, List.set_cons_succ, List.getElem_toArray, List.getElem_cons_zero, List.getElem_cons_succ]
            refine wpAnyH_take (i := 49) (v := .bool bf) rfl (by as_aux_lemma => kernel_rfl) (by as_aux_lemma => kernel_rfl) (by as_aux_lemma => kernel_rfl) (fun _ _ _ h => h) (Or.inl ⟨by as_aux_lemma => kernel_rfl, fun W hS => by clear hS hHeld; go_simp⟩) hHeld ?_
            try simp only [Act.put, List.setIfInBounds_toArray, List.set_cons_zero, List.set_cons_succ, List.getElem_toArray, List.getElem_cons_zero, List.getElem_cons_succ]
            refine wpAnyH_take (i := 50) (v := .bool false) rfl (by as_aux_lemma => kernel_rfl) (by as_aux_lemma => kernel_rfl) (by as_aux_lemma => kernel_rfl) (fun _ _ _ h => h) (Or.inl ⟨by as_aux_lemma => kernel_rfl, fun W hS => by clear hS hHeld; go_simp⟩) hHeld ?_
            try simp only [Act.put, List.setIfInBounds_toArray, List.set_cons_zero, List.set_cons_succ, List.getElem_toArray, List.getElem_cons_zero, List.getElem_cons_succ]
            refine wpAnyH_puts [(51, 157), (52, 158), (53, 159), (55, 161)] [(157, .bool false), (158, .bool false), (159, .pointer (some ⟨P, 0, none⟩)), (161, .slice Ay 0 cy)] [51, 52, 53, 55] 4 rfl (by as_aux_lemma => kernel_rfl) (by as_aux_lemma => kernel_rfl) (fun _ _ _ _ _ h => h) hHeld ?_
            simp only [putsOf, listsOf, List.setIfInBounds_toArray, List.set_cons_zero, List.set_cons_succ]
            refine wpAnyH_ready (rs := [54]) (by as_aux_lemma => kernel_rfl) (by simp) ?_
            refine AllReadyH.cons rfl (fun K hK => ?_) AllReadyH.nil
            try simp only [Act.put, List.setIfInBounds_toArray, List.set_cons_zero, List.set_cons_succ, List.getElem_toArray, List.getElem_cons_zero, List.getElem_cons_succ]
            go_simp
            go_at_call 19
            refine (CLi.out _ hHeld.1.pl).mono ?_
            rintro e w9 ⟨AL, cL, rfl, y1, y2, hr, hbl⟩
            have HRL := hide hr
            clear hr
            refine hK.out _ _ ⟨hHeld.1.step hbl, hHeld.2.below hbl hHeld.2.lt⟩ (fun hHeld2 => ?_)
            clear hK K hHeld
            have hHeld := hHeld2
            clear hHeld2
            try simp only [Act.put, List.setIfInBounds_toArray, List.set_cons_zero, List.set_cons_succ, List.getElem_toArray, List.getElem_cons_zero, List.getElem_cons_succ]
            clear hbl
            refine wpAnyH_ready (rs := [56]) (by as_aux_lemma => kernel_rfl) (by simp) ?_
            refine AllReadyH.cons rfl (fun K hK => ?_) AllReadyH.nil
            try simp only [Act.put, List.setIfInBounds_toArray, List.set_cons_zero, List.set_cons_succ, List.getElem_toArray, List.getElem_cons_zero, List.getElem_cons_succ]
            go_simp
            go_at_call 18
            refine (same_any AL Ay 0 cL 0 cy (srtS l2) (srtS l2) _ HRL.out HLy.out y1 y2 (hHeld.1.pl.y.rd fun d hd => hd.1) HLy.out m3 m4).mono ?_
            rintro e w10 ⟨hev, hdw⟩
            have hev : e = .returned (.bool true) := hev.trans (by simp)
            subst hev
            refine hK.out _ _ ⟨hHeld.1.step hdw.below, hHeld.2.below hdw.below hHeld.2.lt⟩ (fun hHeld2 => ?_)
            clear hK K hHeld
            have hHeld := hHeld2
            clear hHeld2
            try simp only [Act.put, List.setIfInBounds_toArray, List.set_cons_zero, List.set_cons_succ, List.getElem_toArray, List.getElem_cons_zero, List.getElem_cons_succ]
            clear hdw HRL
            refine wpAnyH_puts [(57, 163), (58, 164)] [(163, .bool false), (164, .bool false)] [57, 58] 2 rfl (by as_aux_lemma => kernel_rfl) (by as_aux_lemma => kernel_rfl) (fun _ _ _ _ _ h => h) hHeld ?_
            simp only [putsOf, listsOf, List.setIfInBounds_toArray, List.set_cons_zero, List.set_cons_succ]
            refine wpAnyH_done (by as_aux_lemma => kernel_rfl) ?_ _
            have HF := hide hHeld.1.pl
            clear hHeld
            go_wp2
            go_roundw
            case rel => exact ⟨k + 1, v, v2, l, l2, (some ad), Ay, nx, cx, 0, cy, by omega, by go_num, rfl, rfl, HNum, hide (by rw [HK.out]; exact HF.out)⟩
            case measure => simp [intOf]; omega
          · have px : 0 < nx := of_decide_eq_true Hbx.out
            obtain ⟨s, X, hX⟩ := srtS_ne (l := l) (by omega)
            obtain ⟨e1, _, _, _⟩ := srtS_cons HB7.out.1.pl.hq hX
            obtain ⟨ad, rfl⟩ := RdR.some_of (hX ▸ HB7.out.1.pl.x)
            have HXs := hide (show (srtS l)[0]? = some ((s1, s2), s3) by rw [hX, ← e1, Hs.out]; rfl)
            clear e1 hX
            have hn1 := run_neq_spot s1 s2 s3 s1 s2 s3 (r := true) (by simp)
            have b2 : decide ((0 : Int) < nx) = true := by simp; omega
            have b3 : decide (0 < nx) = true := by simp; omega
            have b4 : (0 : Int) < nx := by omega
            have py : 0 < ny := of_decide_eq_true Hby.out
            obtain ⟨m, hm⟩ : ∃ m, ny = m + 1 := ⟨ny - 1, by omega⟩
            obtain ⟨t, Y, hY⟩ := srtS_ne (l := l2) (by omega)
            obtain ⟨ad2, rfl⟩ := RdR.some_of (hY ▸ HB7.out.1.pl.y)
            have HYs := hide (show (srtS l2)[m]? = some ((t1, t2), t3) by
              have e := lstS_worst HB7.out.1.pl.hb (by omega)
              unfold lstS at e
              rw [HLy.out, hm, Nat.add_sub_cancel, Ht.out] at e
              have hi : m < (srtS l2).length := by rw [HLy.out]; omega
              rw [List.getElem?_eq_getElem hi] at e ⊢
              exact congrArg some e)
            clear hY
            have hn2 := run_neq_spot t1 t2 t3 t1 t2 t3 (r := true) (by simp)
            have c2 : decide ((0 : Int) < ny) = true := by simp; omega
            have c3 : decide (0 < ny) = true := by simp; omega
            have hw1 : (ny : Int) - 1 = m := by omega
            have hm0 : (0 : Int) ≤ m := by omega
            have hwm : IntKind.i64.wrap (m : Int) = m := IntWalk.i64_in _ (by omega)
            have hmn : (m : Int) < ny := by omega
            have Hm := hide hm
            clear hm
            refine wp_region_held_drew (S := fun W => BQ w Q P K v v2 l l2 (some ad) (some ad2) (srtS l) (srtS l2) gs s1 s2 s3 W ∧ Blk W gw 33 #[.int .u64 t1, .int .u64 t2, .int .i64 t3]) (by as_aux_lemma => kernel_rfl) ⟨HB7.out.1.step (Below.refl _ _).drew, HB7.out.2.drew⟩ (fun hHeld => ?_)
            clear HB7
            generalize World.drew _ = wl1 at *
            refine wpAnyH_puts [(0, 106), (2, 108)] [(106, .pointer (some ⟨Q, 0, none⟩)), (108, .slice (some ad) nx cx)] [0, 2] 2 rfl (by as_aux_lemma => kernel_rfl) (by as_aux_lemma => kernel_rfl) (fun _ _ _ _ _ h => h) hHeld ?_
            simp only [putsOf, listsOf, List.setIfInBounds_toArray, List.set_cons_zero, List.set_cons_succ]
            refine wpAnyH_take (i := 3) (v := .int .i64 nx) rfl (by as_aux_lemma => kernel_rfl) (by as_aux_lemma => kernel_rfl) (by as_aux_lemma => kernel_rfl) (fun _ _ _ h => h) (Or.inl ⟨by as_aux_lemma => kernel_rfl, fun W hS => by clear hS hHeld; go_simp⟩) hHeld ?_
            try simp only [Act.put, List.setIfInBounds_toArray, List.set_cons_zero, List.set_cons_succ, List.getElem_toArray, List.getElem_cons_zero, List.getElem_cons_succ]
            refine wpAnyH_ready (rs := [1]) (by as_aux_lemma => kernel_rfl) (by simp) ?_
            refine AllReadyH.cons rfl (fun K hK => ?_) AllReadyH.nil
            try simp only [Act.put, List.setIfInBounds_toArray, List.set_cons_zero, List.set_cons_succ, List.getElem_toArray, List.getElem_cons_zero, List.getElem_cons_succ]
            go_simp
            go_at_call 15
            refine (CLe.out _ hHeld.1.pl).mono ?_
            rintro e _ ⟨rfl, rfl⟩
            refine hK.out _ _ hHeld (fun hHeld2 => ?_)
            clear hK K hHeld
            have hHeld := hHeld2
            clear hHeld2
            try simp only [Act.put, List.setIfInBounds_toArray, List.set_cons_zero, List.set_cons_succ, List.getElem_toArray, List.getElem_cons_zero, List.getElem_cons_succ]
            refine wpAnyH_take (i := 4) (v := .bool false) rfl (by as_aux_lemma => kernel_rfl) (by as_aux_lemma => kernel_rfl) (by as_aux_lemma => kernel_rfl) (fun _ _ _ h => h) (Or.inl ⟨by as_aux_lemma => kernel_rfl, fun W hS => by clear hS hHeld; go_simp⟩) hHeld ?_
            try simp only [Act.put, List.setIfInBounds_toArray, List.set_cons_zero, List.set_cons_succ, List.getElem_toArray, List.getElem_cons_zero, List.getElem_cons_succ]
            refine wpAnyH_puts [(5, 111), (6, 112), (7, 113)] [(111, .bool false), (112, .bool true), (113, .slice (some ad) nx cx)] [5, 6, 7] 3 rfl (by as_aux_lemma => kernel_rfl) (by as_aux_lemma => kernel_rfl) (fun _ _ _ _ _ h => h) hHeld ?_
            simp only [putsOf, listsOf, List.setIfInBounds_toArray, List.set_cons_zero, List.set_cons_succ]
            refine wpAnyH_take (i := 8) (v := .int .i64 nx) rfl (by as_aux_lemma => kernel_rfl) (by as_aux_lemma => kernel_rfl) (by as_aux_lemma => kernel_rfl) (fun _ _ _ h => h) (Or.inl ⟨by as_aux_lemma => kernel_rfl, fun W hS => by clear hS hHeld; go_simp⟩) hHeld ?_
            try simp only [Act.put, List.setIfInBounds_toArray, List.set_cons_zero, List.set_cons_succ, List.getElem_toArray, List.getElem_cons_zero, List.getElem_cons_succ]
            refine wpAnyH_take (i := 9) (v := .bool true) rfl (by as_aux_lemma => kernel_rfl) (by as_aux_lemma => kernel_rfl) (by as_aux_lemma => kernel_rfl) (fun _ _ _ h => h) (Or.inl ⟨by as_aux_lemma => kernel_rfl, fun W hS => by clear hS hHeld; go_simp⟩) hHeld ?_
            try simp only [Act.put, List.setIfInBounds_toArray, List.set_cons_zero, List.set_cons_succ, List.getElem_toArray, List.getElem_cons_zero, List.getElem_cons_succ]
            refine wpAnyH_take (i := 10) (v := .bool false) rfl (by as_aux_lemma => kernel_rfl) (by as_aux_lemma => kernel_rfl) (by as_aux_lemma => kernel_rfl) (fun _ _ _ h => h) (Or.inl ⟨by as_aux_lemma => kernel_rfl, fun W hS => by clear hS hHeld; go_simp⟩) hHeld ?_
            try simp only [Act.put, List.setIfInBounds_toArray, List.set_cons_zero, List.set_cons_succ, List.getElem_toArray, List.getElem_cons_zero, List.getElem_cons_succ]
            refine wpAnyH_puts [(11, 117), (12, 118), (13, 119), (14, 120)] [(117, .bool false), (118, .bool false), (119, .bool true), (120, .bool true)] [11, 12, 13, 14] 4 rfl (by as_aux_lemma => kernel_rfl) (by as_aux_lemma => kernel_rfl) (fun _ _ _ _ _ h => h) hHeld ?_
            simp only [putsOf, listsOf, List.setIfInBounds_toArray, List.set_cons_zero, List.set_cons_succ]
            refine wpAnyH_take (i := 15) (v := .agg #[.int .u64 s1, .int .u64 s2, .int .i64 s3]) rfl (by as_aux_lemma => kernel_rfl) (by as_aux_lemma => kernel_rfl) (by as_aux_lemma => kernel_rfl) (fun _ _ _ h => h) (Or.inl ⟨by as_aux_lemma => kernel_rfl, fun W hS => by obtain ⟨z0, z1, z2⟩ := cell3s hS.1.g; clear hS hHeld; go_simp⟩) hHeld ?_
            try simp only [Act.put, List.setIfInBounds_toArray, List.set_cons_zero, List.set_cons_succ, List.getElem_toArray, List.getElem_cons_zero, List.getElem_cons_succ]
            refine wpAnyH_puts [(16, 122)] [(122, .slice (some ad) nx cx)] [16] 1 rfl (by as_aux_lemma => kernel_rfl) (by as_aux_lemma => kernel_rfl) (fun _ _ _ _ _ h => h) hHeld ?_
            simp only [putsOf, listsOf, List.setIfInBounds_toArray, List.set_cons_zero, List.set_cons_succ]
            refine wpAnyH_take (i := 17) (v := .pointer (some ad)) rfl (by as_aux_lemma => kernel_rfl) (by as_aux_lemma => kernel_rfl) (by as_aux_lemma => kernel_rfl) (fun _ _ _ h => h) (Or.inl ⟨by as_aux_lemma => kernel_rfl, fun W hS => by clear hS hHeld; go_simp⟩) hHeld ?_
            try simp only [Act.put, List.setIfInBounds_toArray, List.set_cons_zero, List.set_cons_succ, List.getElem_toArray, List.getElem_cons_zero, List.getElem_cons_succ]
            refine wpAnyH_take (i := 18) (v := .agg #[.int .u64 s1, .int .u64 s2, .int .i64 s3]) rfl (by as_aux_lemma => kernel_rfl) (by as_aux_lemma => kernel_rfl) (by as_aux_lemma => kernel_rfl) (fun _ _ _ h => h) (Or.inl ⟨by as_aux_lemma => kernel_rfl, fun W hS => by obtain ⟨z0, z1, z2⟩ := RdR.scell_at hS.1.pl.x HXs.out; rw [Nat.zero_mul, add_zero'] at z0 z1 z2; simp only at z0 z1 z2; clear hS hHeld; go_simp⟩) hHeld ?_
            try simp only [Act.put, List.setIfInBounds_toArray, List.set_cons_zero, List.set_cons_succ, List.getElem_toArray, List.getElem_cons_zero, List.getElem_cons_succ]
            refine wpAnyH_take (i := 19) (v := .bool false) rfl (by as_aux_lemma => kernel_rfl) (by as_aux_lemma => kernel_rfl) (by as_aux_lemma => kernel_rfl) (fun _ _ _ h => h) (Or.inl ⟨by as_aux_lemma => kernel_rfl, fun W hS => by clear hS hHeld; go_simp⟩) hHeld ?_
            try simp only [Act.put, List.setIfInBounds_toArray, List.set_cons_zero, List.set_cons_succ, List.getElem_toArray, List.getElem_cons_zero, List.getElem_cons_succ]
            refine wpAnyH_puts [(20, 126), (21, 127), (22, 128), (23, 129), (24, 130)] [(126, .bool false), (127, .bool false), (128, .bool false), (129, .bool true), (130, .slice (some ad2) ny cy)] [20, 21, 22, 23, 24] 5 rfl (by as_aux_lemma => kernel_rfl) (by as_aux_lemma => kernel_rfl) (fun _ _ _ _ _ h => h) hHeld ?_
            simp only [putsOf, listsOf, List.setIfInBounds_toArray, List.set_cons_zero, List.set_cons_succ]
            refine wpAnyH_take (i := 25) (v := .int .i64 ny) rfl (by as_aux_lemma => kernel_rfl) (by as_aux_lemma => kernel_rfl) (by as_aux_lemma => kernel_rfl) (fun _ _ _ h => h) (Or.inl ⟨by as_aux_lemma => kernel_rfl, fun W hS => by clear hS hHeld; go_simp⟩) hHeld ?_
            try simp only [Act.put, List.setIfInBounds_toArray, List.set_cons_zero, List.set_cons_succ, List.getElem_toArray, List.getElem_cons_zero, List.getElem_cons_succ]
            refine wpAnyH_take (i := 26) (v := .bool true) rfl (by as_aux_lemma => kernel_rfl) (by as_aux_lemma => kernel_rfl) (by as_aux_lemma => kernel_rfl) (fun _ _ _ h => h) (Or.inl ⟨by as_aux_lemma => kernel_rfl, fun W hS => by clear hS hHeld; go_simp⟩) hHeld ?_
            try simp only [Act.put, List.setIfInBounds_toArray, List.set_cons_zero, List.set_cons_succ, List.getElem_toArray, List.getElem_cons_zero, List.getElem_cons_succ]
            refine wpAnyH_take (i := 27) (v := .bool false) rfl (by as_aux_lemma => kernel_rfl) (by as_aux_lemma => kernel_rfl) (by as_aux_lemma => kernel_rfl) (fun _ _ _ h => h) (Or.inl ⟨by as_aux_lemma => kernel_rfl, fun W hS => by clear hS hHeld; go_simp⟩) hHeld ?_
            try simp only [Act.put, List.setIfInBounds_toArray, List.set_cons_zero, List.set_cons_succ, List.getElem_toArray, List.getElem_cons_zero, List.getElem_cons_succ]
            refine wpAnyH_puts [(28, 134), (29, 135), (30, 136), (31, 137)] [(134, .bool false), (135, .bool false), (136, .bool true), (137, .bool true)] [28, 29, 30, 31] 4 rfl (by as_aux_lemma => kernel_rfl) (by as_aux_lemma => kernel_rfl) (fun _ _ _ _ _ h => h) hHeld ?_
            simp only [putsOf, listsOf, List.setIfInBounds_toArray, List.set_cons_zero, List.set_cons_succ]
            refine wpAnyH_take (i := 32) (v := .agg #[.int .u64 t1, .int .u64 t2, .int .i64 t3]) rfl (by as_aux_lemma => kernel_rfl) (by as_aux_lemma => kernel_rfl) (by as_aux_lemma => kernel_rfl) (fun _ _ _ h => h) (Or.inl ⟨by as_aux_lemma => kernel_rfl, fun W hS => by obtain ⟨z0, z1, z2⟩ := cell3s hS.2; clear hS hHeld; go_simp⟩) hHeld ?_
            try simp only [Act.put, List.setIfInBounds_toArray, List.set_cons_zero, List.set_cons_succ, List.getElem_toArray, List.getElem_cons_zero, List.getElem_cons_succ]
            refine wpAnyH_puts [(33, 139), (34, 140)] [(139, .slice (some ad2) ny cy), (140, .slice (some ad2) ny cy)] [33, 34] 2 rfl (by as_aux_lemma => kernel_rfl) (by as_aux_lemma => kernel_rfl) (fun _ _ _ _ _ h => h) hHeld ?_
            simp only [putsOf, listsOf, List.setIfInBounds_toArray, List.set_cons_zero, List.set_cons_succ]
            refine wpAnyH_take (i := 35) (v := .int .i64 ny) rfl (by as_aux_lemma => kernel_rfl) (by as_aux_lemma => kernel_rfl) (by as_aux_lemma => kernel_rfl) (fun _ _ _ h => h) (Or.inl ⟨by as_aux_lemma => kernel_rfl, fun W hS => by clear hS hHeld; go_simp⟩) hHeld ?_
            try simp only [Act.put, List.setIfInBounds_toArray, List.set_cons_zero, List.set_cons_succ, List.getElem_toArray, List.getElem_cons_zero, List.getElem_cons_succ]
            refine wpAnyH_take (i := 36) (v := .int .i64 m) rfl (by as_aux_lemma => kernel_rfl) (by as_aux_lemma => kernel_rfl) (by as_aux_lemma => kernel_rfl) (fun _ _ _ h => h) (Or.inl ⟨by as_aux_lemma => kernel_rfl, fun W hS => by clear hS hHeld; go_simp⟩) hHeld ?_
            try simp only [Act.put, List.setIfInBounds_toArray, List.set_cons_zero, List.set_cons_succ, List.getElem_toArray, List.getElem_cons_zero, List.getElem_cons_succ]
            refine wpAnyH_take (i := 37) (v := .pointer (some (ad2.add (m * 3)))) rfl (by as_aux_lemma => kernel_rfl) (by as_aux_lemma => kernel_rfl) (by as_aux_lemma => kernel_rfl) (fun _ _ _ h => h) (Or.inl ⟨by as_aux_lemma => kernel_rfl, fun W hS => by clear hS hHeld; go_simp⟩) hHeld ?_
            try simp only [Act.put, List.setIfInBounds_toArray, List.set_cons_zero, List.set_cons_succ, List.getElem_toArray, List.getElem_cons_zero, List.getElem_cons_succ]
            refine wpAnyH_take (i := 38) (v := .agg #[.int .u64 t1, .int .u64 t2, .int .i64 t3]) rfl (by as_aux_lemma => kernel_rfl) (by as_aux_lemma => kernel_rfl) (by as_aux_lemma => kernel_rfl) (fun _ _ _ h => h) (Or.inl ⟨by as_aux_lemma => kernel_rfl, fun W hS => by obtain ⟨z0, z1, z2⟩ := RdR.scell_at hS.1.pl.y HYs.out; simp only at z0 z1 z2; clear hS hHeld; go_simp⟩) hHeld ?_
            try simp only [Act.put, List.setIfInBounds_toArray, List.set_cons_zero, List.set_cons_succ, List.getElem_toArray, List.getElem_cons_zero, List.getElem_cons_succ]
            refine wpAnyH_take (i := 39) (v := .bool false) rfl (by as_aux_lemma => kernel_rfl) (by as_aux_lemma => kernel_rfl) (by as_aux_lemma => kernel_rfl) (fun _ _ _ h => h) (Or.inl ⟨by as_aux_lemma => kernel_rfl, fun W hS => by clear hS hHeld; go_simp⟩) hHeld ?_
            try simp only [Act.put, List.setIfInBounds_toArray, List.set_cons_zero, List.set_cons_succ, List.getElem_toArray, List.getElem_cons_zero, List.getElem_cons_succ]
            refine wpAnyH_puts [(40, 146), (41, 147), (42, 148), (43, 149), (45, 151)] [(146, .bool false), (147, .bool false), (148, .bool false), (149, .pointer (some ⟨P, 0, none⟩)), (151, .slice (some ad2) ny cy)] [40, 41, 42, 43, 45] 5 rfl (by as_aux_lemma => kernel_rfl) (by as_aux_lemma => kernel_rfl) (fun _ _ _ _ _ h => h) hHeld ?_
            simp only [putsOf, listsOf, List.setIfInBounds_toArray, List.set_cons_zero, List.set_cons_succ]
            refine wpAnyH_take (i := 46) (v := .int .i64 ny) rfl (by as_aux_lemma => kernel_rfl) (by as_aux_lemma => kernel_rfl) (by as_aux_lemma => kernel_rfl) (fun _ _ _ h => h) (Or.inl ⟨by as_aux_lemma => kernel_rfl, fun W hS => by clear hS hHeld; go_simp⟩) hHeld ?_
            try simp only [Act.put, List.setIfInBounds_toArray, List.set_cons_zero, List.set_cons_succ, List.getElem_toArray, List.getElem_cons_zero, List.getElem_cons_succ]
            refine wpAnyH_puts [(47, 153)] [(153, .int .i64 most)] [47] 1 rfl (by as_aux_lemma => kernel_rfl) (by as_aux_lemma => kernel_rfl) (fun _ _ _ _ _ h => h) hHeld ?_
            simp only [putsOf, listsOf, List.setIfInBounds_toArray, List.set_cons_zero, List.set_cons_succ]
            refine wpAnyH_ready (rs := [44]) (by as_aux_lemma => kernel_rfl) (by simp) ?_
            refine AllReadyH.cons rfl (fun K hK => ?_) AllReadyH.nil
            try simp only [Act.put, List.setIfInBounds_toArray, List.set_cons_zero, List.set_cons_succ, List.getElem_toArray, List.getElem_cons_zero, List.getElem_cons_succ]
            go_simp
            go_at_call 16
            refine (CFu.out _ hHeld.1.pl).mono ?_
            rintro e w8 ⟨rfl, hdw⟩
            refine hK.out _ _ ⟨hHeld.1.step hdw.below, hHeld.2.below hdw.below hHeld.2.lt⟩ (fun hHeld2 => ?_)
            clear hK K hHeld
            have hHeld := hHeld2
            clear hHeld2
            try simp only [Act.put, List.setIfInBounds_toArray, List.set_cons_zero, List.set_cons_succ, List.getElem_toArray, List.getElem_cons_zero, List.getElem_cons_succ]
            clear hdw
            refine wpAnyH_ready (rs := [48]) (by as_aux_lemma => kernel_rfl) (by simp) ?_
            refine AllReadyH.cons rfl (fun K hK => ?_) AllReadyH.nil
            try simp only [Act.put, List.setIfInBounds_toArray, List.set_cons_zero, List.set_cons_succ, List.getElem_toArray, List.getElem_cons_zero, List.getElem_cons_succ]
            go_simp
            go_at_call 17
            refine (CMo.out _).mono ?_
            rintro e _ ⟨rfl, rfl⟩
            refine hK.out _ _ hHeld (fun hHeld2 => ?_)
            clear hK K hHeld
            have hHeld := hHeld2
            clear hHeld2
            try simp only [Act.put, List.setIfInBounds_toArray, List.set_cons_zero, List.set_cons_succ, List.getElem_toArray, List.getElem_cons_zero, List.getElem_cons_succ]
            refine wpAnyH_take (i := 49) (v := .bool bf) rfl (by as_aux_lemma => kernel_rfl) (by as_aux_lemma => kernel_rfl) (by as_aux_lemma => kernel_rfl) (fun _ _ _ h => h) (Or.inl ⟨by as_aux_lemma => kernel_rfl, fun W hS => by clear hS hHeld; go_simp⟩) hHeld ?_
            try simp only [Act.put, List.setIfInBounds_toArray, List.set_cons_zero, List.set_cons_succ, List.getElem_toArray, List.getElem_cons_zero, List.getElem_cons_succ]
            refine wpAnyH_take (i := 50) (v := .bool false) rfl (by as_aux_lemma => kernel_rfl) (by as_aux_lemma => kernel_rfl) (by as_aux_lemma => kernel_rfl) (fun _ _ _ h => h) (Or.inl ⟨by as_aux_lemma => kernel_rfl, fun W hS => by clear hS hHeld; go_simp⟩) hHeld ?_
            try simp only [Act.put, List.setIfInBounds_toArray, List.set_cons_zero, List.set_cons_succ, List.getElem_toArray, List.getElem_cons_zero, List.getElem_cons_succ]
            refine wpAnyH_puts [(51, 157), (52, 158), (53, 159), (55, 161)] [(157, .bool false), (158, .bool false), (159, .pointer (some ⟨P, 0, none⟩)), (161, .slice (some ad2) ny cy)] [51, 52, 53, 55] 4 rfl (by as_aux_lemma => kernel_rfl) (by as_aux_lemma => kernel_rfl) (fun _ _ _ _ _ h => h) hHeld ?_
            simp only [putsOf, listsOf, List.setIfInBounds_toArray, List.set_cons_zero, List.set_cons_succ]
            refine wpAnyH_ready (rs := [54]) (by as_aux_lemma => kernel_rfl) (by simp) ?_
            refine AllReadyH.cons rfl (fun K hK => ?_) AllReadyH.nil
            try simp only [Act.put, List.setIfInBounds_toArray, List.set_cons_zero, List.set_cons_succ, List.getElem_toArray, List.getElem_cons_zero, List.getElem_cons_succ]
            go_simp
            go_at_call 19
            refine (CLi.out _ hHeld.1.pl).mono ?_
            rintro e w9 ⟨AL, cL, rfl, y1, y2, hr, hbl⟩
            have HRL := hide hr
            clear hr
            refine hK.out _ _ ⟨hHeld.1.step hbl, hHeld.2.below hbl hHeld.2.lt⟩ (fun hHeld2 => ?_)
            clear hK K hHeld
            have hHeld := hHeld2
            clear hHeld2
            try simp only [Act.put, List.setIfInBounds_toArray, List.set_cons_zero, List.set_cons_succ, List.getElem_toArray, List.getElem_cons_zero, List.getElem_cons_succ]
            clear hbl
            refine wpAnyH_ready (rs := [56]) (by as_aux_lemma => kernel_rfl) (by simp) ?_
            refine AllReadyH.cons rfl (fun K hK => ?_) AllReadyH.nil
            try simp only [Act.put, List.setIfInBounds_toArray, List.set_cons_zero, List.set_cons_succ, List.getElem_toArray, List.getElem_cons_zero, List.getElem_cons_succ]
            go_simp
            go_at_call 18
            refine (same_any AL (some ad2) ny cL ny cy (srtS l2) (srtS l2) _ HRL.out HLy.out y1 y2 (hHeld.1.pl.y.rd fun d hd => hd.1) HLy.out m3 m4).mono ?_
            rintro e w10 ⟨hev, hdw⟩
            have hev : e = .returned (.bool true) := hev.trans (by simp)
            subst hev
            refine hK.out _ _ ⟨hHeld.1.step hdw.below, hHeld.2.below hdw.below hHeld.2.lt⟩ (fun hHeld2 => ?_)
            clear hK K hHeld
            have hHeld := hHeld2
            clear hHeld2
            try simp only [Act.put, List.setIfInBounds_toArray, List.set_cons_zero, List.set_cons_succ, List.getElem_toArray, List.getElem_cons_zero, List.getElem_cons_succ]
            clear hdw HRL
            refine wpAnyH_puts [(57, 163), (58, 164)] [(163, .bool false), (164, .bool false)] [57, 58] 2 rfl (by as_aux_lemma => kernel_rfl) (by as_aux_lemma => kernel_rfl) (fun _ _ _ _ _ h => h) hHeld ?_
            simp only [putsOf, listsOf, List.setIfInBounds_toArray, List.set_cons_zero, List.set_cons_succ]
            refine wpAnyH_done (by as_aux_lemma => kernel_rfl) ?_ _
            have HF := hide hHeld.1.pl
            clear hHeld
            go_wp2
            go_roundw
            case rel => exact ⟨k + 1, v, v2, l, l2, (some ad), (some ad2), nx, cx, ny, cy, by omega, by go_num, rfl, rfl, HNum, hide (by rw [HK.out]; exact HF.out)⟩
            case measure => simp [intOf]; omega
    · have hge : (len : Int) ≤ k := by omega
      go_wp2_with (go_at_call 5; refine (lives_any _).mono ?_; rintro e w2 ⟨rfl, hb2⟩; have hb3 := Below.step HPl.out.bel hb2)
      go_ret
      exact ⟨rfl, hb3⟩
end Go.Proofs.Ytknljldmjicfgae
