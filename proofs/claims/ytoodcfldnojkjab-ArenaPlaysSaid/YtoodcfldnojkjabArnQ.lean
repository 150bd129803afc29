/-
  The law ArenaPlays: the arena and the document's, side by side. Conditions: they lie as said.
-/
import Derived.Test.YtoodcfldnojkjabArnLives
namespace Go.Proofs.Ytoodcfldnojkjab
open Go.RowKit

def FreeB (w : World) (P Q X : Nat) (fv : Value) (b : Nat) : Prop := b < w.heap.size ∧ b ≠ P ∧ b ≠ Q ∧ b ≠ X ∧ some b ≠ fv.ownBlock
/-- the arena (state sa) and the document's, kept in the variable at X (state sr) -/
structure Pl (w wr : World) (P Q X : Nat) (fv a b c : Value) (sa sr : Arn) : Prop where
  arn : ArnAt wr w.heap.size P Q fv sa
  x : Blk wr X 30 #[a, b, c]
  ref : RefAt wr (FreeB wr P Q X fv) sr (.agg #[a, b, c])
  hb : Below w.heap.size w wr
  hx : w.heap.size ≤ X
section
variable {w wr wr' : World} {P Q X : Nat} {fv fv' a b c : Value} {sa sa' sr sr' : Arn}
theorem Pl.below (h : Pl w wr P Q X fv a b c sa sr) (hb : Below wr.heap.size wr wr') : Pl w wr' P Q X fv a b c sa sr :=
  ⟨arn_below h.arn hb, h.x.below hb h.x.lt, (h.ref.below hb fun _ hb' => hb'.1).more fun _ hb' => ⟨Nat.lt_of_lt_of_le hb'.1 hb.size, hb'.2⟩, Below.step h.hb hb, h.hx⟩
theorem Pl.alloc (h : Pl w wr P Q X fv a b c sa sr) (o : Obj) : Pl w (wr.alloc o) P Q X fv a b c sa sr := h.below ((Below.refl _ _).alloc (Nat.le_refl _) o)
theorem Pl.drew (h : Pl w wr P Q X fv a b c sa sr) : Pl w wr.drew P Q X fv a b c sa sr := h.below (Below.refl _ _).drew
theorem Pl.lt (h : Pl w wr P Q X fv a b c sa sr) : ∀ d, FreeB wr P Q X fv d → d < wr.heap.size := fun _ hd => hd.1
theorem Pl.grow (h : Pl w wr P Q X fv a b c sa sr) (hs : wr.heap.size ≤ wr'.heap.size) {d : Nat} (hd : Grow (FreeB wr P Q X fv) wr wr' d) : FreeB wr' P Q X fv d := by
  rcases hd with hd | hd
  · exact ⟨Nat.lt_of_lt_of_le hd.1 hs, hd.2⟩
  · have l1 := h.arn.two.lt.1
    have l2 := h.arn.two.lt.2
    have l3 := h.x.lt
    refine ⟨hd.2, by omega, by omega, by omega, fun e => ?_⟩
    have := (h.arn.own.lt d e.symm).2
    omega
theorem Pl.turned (h : Pl w wr P Q X fv a b c sa sr) (ht : Turned wr wr' P Q fv) (ha : ArnAt wr' w.heap.size P Q fv' sa') (hf : fv'.ownBlock = fv.ownBlock ∨ ∃ g, fv'.ownBlock = some g ∧ wr.heap.size ≤ g) : Pl w wr' P Q X fv' a b c sa' sr :=
  ⟨ha, turned_blk ht h.arn h.x (by decide) (by decide) (by decide), (h.ref.keep fun d hd => ht.block d hd.1 hd.2.1 hd.2.2.1 hd.2.2.2.2).more fun d hd => ⟨Nat.lt_of_lt_of_le hd.1 ht.size, hd.2.1, hd.2.2.1, hd.2.2.2.1, by
    rcases hf with e | ⟨g, e, hg⟩
    · rw [e]; exact hd.2.2.2.2
    · rw [e]; intro e'; injection e' with e'; have := hd.1; omega⟩,
   ht.below h.hb h.arn h.hb.size, h.hx⟩
theorem Pl.storeX {a' b' c' : Value} (h : Pl w wr P Q X fv a b c sa sr) (hr : RefAt wr (FreeB wr P Q X fv) sr' (.agg #[a', b', c'])) :
    Pl w (((wr.setCell ⟨X, 0, none⟩ a').setCell ⟨X, 1, none⟩ b').setCell ⟨X, 2, none⟩ c') P Q X fv a' b' c' sa sr' := by
  have hk : ∀ d, d ≠ X → (((wr.setCell ⟨X, 0, none⟩ a').setCell ⟨X, 1, none⟩ b').setCell ⟨X, 2, none⟩ c').heap[d]? = wr.heap[d]? := fun d hd => by
    rw [Below.heap_setCell _ _ _ _ hd, Below.heap_setCell _ _ _ _ hd, Below.heap_setCell _ _ _ _ hd]
  have hs : (((wr.setCell ⟨X, 0, none⟩ a').setCell ⟨X, 1, none⟩ b').setCell ⟨X, 2, none⟩ c').heap.size = wr.heap.size := by simp
  have nP : P ≠ X := h.arn.two.hP.ne_ h.x (by decide)
  have nQ : Q ≠ X := h.arn.two.hQ.ne_ h.x (by decide)
  have nF : fv.ownBlock ≠ some X := own_blk_ne h.arn.own h.x (by decide)
  refine ⟨⟨⟨(hk P nP).trans h.arn.two.hP, (hk Q nQ).trans h.arn.two.hQ⟩, own_keep h.arn.own fun g hg => hk g (by rintro rfl; exact nF hg), h.arn.hP, h.arn.hQ⟩, ?_, ?_, ?_, h.hx⟩
  · exact ((h.x.set_ 0 a').set_ 1 b').set_ 2 c'
  · exact (hr.keep fun d hd => hk d hd.2.2.2.1).more fun d hd => ⟨by rw [hs]; exact hd.1, hd.2⟩
  · exact ((h.hb.setCell h.hx _).setCell h.hx _).setCell h.hx _
end

theorem refAt_abc {w : World} {R : Nat → Prop} {s : Arn} {a b c : Value} (h : RefAt w R s (.agg #[a, b, c])) : ∃ AS nS cS AG nG cG AK nK cK, a = .slice AS nS cS ∧ b = .slice AG nG cG ∧ c = .slice AK nK cK ∧ nK = s.K.length := by
  obtain ⟨AS, cS, AG, cG, AK, cK, e, _⟩ := h
  injection e with e
  simp at e
  obtain ⟨rfl, rfl, rfl⟩ := e
  exact ⟨_, _, _, _, _, _, _, _, _, rfl, rfl, rfl, rfl⟩
theorem ok_more {s : Arn} {n m m' : Nat} (ok : s.Ok n m) (h : m ≤ m') : s.Ok n m' := ⟨ok.hS, ok.hG, ok.n1, ok.n4, ok.st, fun i x hx => by have := ok.gn i x hx; omega, ok.fr, ok.nd, ok.ct⟩
theorem ok_len {s : Arn} {n m : Nat} (ok : s.Ok n m) : s.S.length ≤ 5000 ∧ s.G.length ≤ 5000 ∧ s.K.length ≤ 4096 := by
  have h1 := ok.hS
  have h2 := ok.hG
  have h4 := ok.n4
  have h5 := ok.ct
  refine ⟨by omega, by omega, ?_⟩
  rw [← h5]
  have : cnt s.S 0 ≤ s.S.tail.length := List.count_le_length
  simp at this
  omega
/-- the deeds that came in -/
def Deeds (w : World) (A : Option Addr) (ds : List (Int × Int × Int)) : Prop := ∀ k, k < ds.length → ∃ ad a b c, A = some ad ∧ ad.block < w.heap.size ∧ ds[k]? = some (a, b, c) ∧
  w.cell? (ad.add (k * 3)) = some (.int .i64 a) ∧ w.cell? (ad.add (k * 3 + 1)) = some (.int .i64 b) ∧ w.cell? (ad.add (k * 3 + 2)) = some (.int .i64 c)

def SS (w : World) (P Q X g : Nat) (fv a b c : Value) (s : Arn) (x y z : Int) (w' : World) : Prop := Pl w w' P Q X fv a b c s s ∧ Blk w' g 34 #[.int .i64 x, .int .i64 y, .int .i64 z]
def SC (P Q X g : Nat) (a b c : Value) (y z : Int) (w' : World) : Prop := w'.cell? ⟨X, 0, none⟩ = some a ∧ w'.cell? ⟨X, 1, none⟩ = some b ∧ w'.cell? ⟨X, 2, none⟩ = some c ∧ w'.cell? ⟨g, 1, none⟩ = some (.int .i64 y) ∧ w'.cell? ⟨g, 2, none⟩ = some (.int .i64 z)
section
variable {w w1 w2 : World} {P Q X g : Nat} {fv a b c : Value} {s : Arn} {x y z : Int}
theorem SS.cells (h : SS w P Q X g fv a b c s x y z w1) : w1.cell? ⟨X, 0, none⟩ = some a ∧ w1.cell? ⟨X, 1, none⟩ = some b ∧ w1.cell? ⟨X, 2, none⟩ = some c ∧ w1.cell? ⟨g, 1, none⟩ = some (.int .i64 y) ∧ w1.cell? ⟨g, 2, none⟩ = some (.int .i64 z) ∧ SS w P Q X g fv a b c s x y z w1 :=
  ⟨by rw [h.1.x.cell]; rfl, by rw [h.1.x.cell]; rfl, by rw [h.1.x.cell]; rfl, by rw [h.2.cell]; rfl, by rw [h.2.cell]; rfl, h⟩
theorem SS.below (h : SS w P Q X g fv a b c s x y z w1) (hb : Below w1.heap.size w1 w2) : SS w P Q X g fv a b c s x y z w2 := ⟨h.1.below hb, h.2.below hb h.2.lt⟩
theorem SS.below_ (hb : Below w1.heap.size w1 w2) (h : SS w P Q X g fv a b c s x y z w1) : SS w P Q X g fv a b c s x y z w2 := h.below hb
theorem SS.drew (h : SS w P Q X g fv a b c s x y z w1) : SS w P Q X g fv a b c s x y z w1.drew := h.below (Below.refl _ _).drew
end
theorem and6 {A B C D E F : Prop} (h : A ∧ B ∧ C ∧ D ∧ E ∧ F) : F := h.2.2.2.2.2
set_option maxHeartbeats 4000000 in
set_option maxRecDepth 100000 in
theorem plays_any (n : Int) (A : Option Addr) (len cap : Nat) (ds : List (Int × Int × Int)) (w : World) (hd : Deeds w A ds) (hl : ds.length = len) (hc : len ≤ cap) (hm : cap ≤ 9223372036854775807) :
    Calls Try.prog 3 #[.int .i64 n, .slice A len cap] w fun e w' => e = .returned (.bool true) ∧ Below w.heap.size w w' := by
  have HL := hide hl
  clear hl
  have three : 60 < (len : Int) ∨ ((len : Int) ≤ 60 ∧ (n < 1 ∨ 4096 < n)) ∨ ((len : Int) ≤ 60 ∧ 1 ≤ n ∧ n ≤ 4096) := by omega
  rcases three with h60 | ⟨h60, hn⟩ | ⟨h60, hn1, hn2⟩
  · go_enter Try.func3, Try.ntmps3
    go_wp2_with fail
    refine (lives_any _).mono ?_
    rintro e w1 ⟨rfl, hb⟩
    go_wp2_with fail
    go_ret
    exact ⟨rfl, hb⟩
  · have HNo := hide hn
    clear hn
    go_enter Try.func3, Try.ntmps3
    go_wp2_with fail
    refine (new_no n _ HNo.out).mono ?_
    rintro e _ ⟨rfl, rfl⟩
    go_wp2_with fail
    refine (refNew_no n _ HNo.out).mono ?_
    rintro e w1 ⟨rfl, hb⟩
    have hb1 := hb.alloc hb.size (.cells nil3 30)
    unfold nil3 at *
    have HB := hide hb1
    clear hb1 hb
    go_wp2_with fail
    refine (lives_any _).mono ?_
    rintro e w2 ⟨rfl, hb2⟩
    have hb3 := Below.step HB.out hb2
    go_wp2_with fail
    go_ret
    exact ⟨rfl, hb3⟩
  · obtain ⟨n, rfl⟩ := Int.eq_ofNat_of_zero_le (show 0 ≤ n by omega)
    go_enter Try.func3, Try.ntmps3
    go_wp2_with fail
    refine (new_yes n _ (by omega) (by omega)).mono ?_
    rintro e w1 ⟨P, Q, fv, rfl, hA, hb⟩
    go_wp2_with fail
    refine (refNew_yes n _ (by omega) (by omega)).mono ?_
    rintro e w2 ⟨v, rfl, hR, hb2⟩
    obtain ⟨a, b, c, rfl⟩ := refAt_len hR
    obtain ⟨AS, nS, cS, AG, nG, cG, AK, nK, cK, rfl, rfl, rfl, hnK⟩ := refAt_abc hR
    clear hnK
    have hA2 := arn_below hA hb2
    have P0 : Hid (Pl w (w2.alloc (.cells #[.slice AS nS cS, .slice AG nG cG, .slice AK nK cK] 30)) P Q w2.heap.size fv (.slice AS nS cS) (.slice AG nG cG) (.slice AK nK cK) (Arn.init n) (Arn.init n)) := hide ⟨arn_alloc hA2 _, Blk.new _ _ _,
      (hR.below ((Below.refl _ _).alloc (Nat.le_refl _) _) fun _ hd => hd.2).more fun d hd => ⟨by simp; omega, by have := hA.two.lt.1; omega, by have := hA.two.lt.2; omega, by omega, fun e => by have := (hA.own.lt d e.symm).2; omega⟩,
      ((Below.step hb hb2).alloc (Below.step hb hb2).size _), (Below.step hb hb2).size⟩
    clear hA hR hb hb2 hA2
    go_wp2_with fail
    generalize World.alloc w2 _ = w3 at *
    generalize w2.heap.size = X at *
    go_loopw [50] (fun i wr => ∃ (k : Nat) (fv a b c : Value) (s : Arn), k ≤ len ∧ i = .int .i64 k ∧ s.Ok n k ∧ Pl w wr P Q X fv a b c s s) (fun i _ => len - (intOf i).toNat)
    case atStart => exact ⟨0, _, _, _, _, _, by omega, rfl, init_ok (by omega) (by omega), P0.out⟩
    case round =>
      obtain ⟨k, fv, a, b, c, s, hk, rfl, ok, hP⟩ := hrel
      have OK := hide ok
      clear ok P0
      by_cases hlt : k < len
      · obtain ⟨ad, x, y, z, rfl, hbl, hds, c0, c1, c2⟩ := hd k (by have := HL.out; omega)
        have e0 := (hP.hb.cell (p := ad.add (k * 3)) (by rw [block_of_add]; exact hbl)).trans c0
        have e1 := (hP.hb.cell (p := ad.add (k * 3 + 1)) (by rw [block_of_add]; exact hbl)).trans c1
        have e2 := (hP.hb.cell (p := ad.add (k * 3 + 2)) (by rw [block_of_add]; exact hbl)).trans c2
        rw [← add_of_add] at e1 e2
        have e1' : wr.cell? ⟨(ad.add (k * 3)).block, (ad.add (k * 3)).off + 1, none⟩ = some (.int .i64 y) := e1
        have e2' : wr.cell? ⟨(ad.add (k * 3)).block, (ad.add (k * 3)).off + 2, none⟩ = some (.int .i64 z) := e2
        clear e1 e2
        have hk0 : (0 : Int) ≤ k := by omega
        have hkl : (k : Int) < len := by omega
        have HP := hide hP
        clear hP c0 c1 c2 hd hds
        go_upto_block 2 with fail
        have PW := HP.out.alloc (.cells #[.int .i64 x, .int .i64 y, .int .i64 z] 34)
        have DW := Blk.new wr 34 #[.int .i64 x, .int .i64 y, .int .i64 z]
        generalize World.alloc wr (.cells #[.int .i64 x, .int .i64 y, .int .i64 z] 34) = W at *
        generalize wr.heap.size = g at *
        have HPW := hide PW
        have HDW := hide DW
        clear HP PW DW e0 e1' e2'
        go_cut [11] (fun s11 wx => s11 = .bool true ∧ Blk wx g 34 #[.int .i64 x, .int .i64 y, .int .i64 z] ∧ ∃ fv a b c s, Arn.Ok n (k + 1) s ∧ Pl w wx P Q X fv a b c s s)
        case first =>
          have kinds : x = 0 ∨ x = 1 ∨ (x ≠ 0 ∧ x ≠ 1) := by omega
          rcases kinds with rfl | rfl | ⟨hx0, hx1⟩
          · skip
            -- Alloc
            have hR := HPW.out.ref
            obtain ⟨AS, nS, cS, AG, nG, cG, AK, nK, cK, rfl, rfl, rfl, hnK⟩ := refAt_abc hR
            have x0 : W.cell? ⟨X, 0, none⟩ = some (.slice AS nS cS) := by rw [HPW.out.x.cell]; rfl
            have x1 : W.cell? ⟨X, 1, none⟩ = some (.slice AG nG cG) := by rw [HPW.out.x.cell]; rfl
            have x2 : W.cell? ⟨X, 2, none⟩ = some (.slice AK nK cK) := by rw [HPW.out.x.cell]; rfl
            have HRR := hide hR
            clear hR hnK
            have key : ∃ (s' : Arn) (r1 r2 : Int) (bo : Bool), Arn.Ok n (k + 1) s' ∧ (∀ (W' : World) (R : Nat → Prop) (v : Value), RefAt W' R s v → (∀ b, R b → b < W'.heap.size) → Calls Try.prog 8 #[v] W' (RefGives W' R s' fun v => .tuple #[v, .agg #[.int .i64 r1, .int .i64 r2], .bool bo])) ∧
                (∀ (W' : World) (fv : Value), ArnAt W' w.heap.size P Q fv s → Calls Try.prog 9 #[.pointer (some ⟨P, 0, none⟩)] W' (ArnDone W' w.heap.size P Q fv s' (.tuple #[.agg #[.int .i64 r1, .int .i64 r2], .bool bo]))) := by
              have ok := OK.out
              obtain ⟨l1, l2, l3⟩ := ok_len ok
              by_cases hK : s.K = []
              · exact ⟨s, 0, 0, false, ok_more ok (by omega), fun W' R v h hR => refAlloc_no W' h hR hK, fun W' fv h => alloc_no W' h ok hK⟩
              · obtain ⟨K', q, g', hK', q1, ql, qS, qG⟩ := last_of ok hK
                exact ⟨s.alloc q, q, g', true, ok_more (alloc_ok ok hK') (by omega), fun W' R v h hR => refAlloc_yes W' h hR l1 (by omega) K' q hK' g' qG ql, fun W' fv h => alloc_yes W' h ok K' q hK' g' qG⟩
            obtain ⟨s', r1, r2, bo, ok', C1, C2⟩ := key
            have HC1 := hide C1
            have HC2 := hide C2
            have HO := hide ok'
            clear C1 C2 ok'
            go_upto_region 19 with (go_at_call 8; refine (HC1.out _ _ _ HRR.out HPW.out.lt).mono ?_; rintro e w4 ⟨v', rfl, hr4, hb4⟩; have P4 := hide (HPW.out.below hb4); have D4 := hide (HDW.out.below hb4 HDW.out.lt); obtain ⟨a', b', c', rfl⟩ := refAt_len hr4; obtain ⟨AS', nS', cS', AG', nG', cG', AK', nK', cK', rfl, rfl, rfl, hnK'⟩ := refAt_abc hr4; have R4 := hide (hr4.more (R' := FreeB w4 P Q X fv) fun d hd => HPW.out.grow hb4.size hd); clear hr4 hb4 hnK')
            have P5 := (P4.out.alloc (.cells #[.slice AS' nS' cS', .slice AG' nG' cG', .slice AK' nK' cK'] 30)).alloc (.cells #[.int .i64 r1, .int .i64 r2] 36)
            have R5 := (R4.out.below (((Below.refl w4.heap.size w4).alloc (Nat.le_refl _) (.cells #[.slice AS' nS' cS', .slice AG' nG' cG', .slice AK' nK' cK'] 30)).alloc (by simp) (.cells #[.int .i64 r1, .int .i64 r2] 36)) fun d hd => hd.1).more (R' := FreeB ((w4.alloc (.cells #[.slice AS' nS' cS', .slice AG' nG' cG', .slice AK' nK' cK'] 30)).alloc (.cells #[.int .i64 r1, .int .i64 r2] 36)) P Q X fv) fun d hd => ⟨by have := hd.1; simp; omega, hd.2⟩
            have D5 := (D4.out.alloc (.cells #[.slice AS' nS' cS', .slice AG' nG' cG', .slice AK' nK' cK'] 30)).alloc (.cells #[.int .i64 r1, .int .i64 r2] 36)
            obtain ⟨E5, F5, -⟩ := blk2 w4 #[.slice AS' nS' cS', .slice AG' nG' cG', .slice AK' nK' cK'] #[.int .i64 r1, .int .i64 r2] 30 36
            have nX : X ≠ w4.heap.size := by have := P4.out.x.lt; omega
            have nX1 : X ≠ w4.heap.size + 1 := by have := P4.out.x.lt; omega
            generalize World.alloc (World.alloc w4 _) _ = w5 at P5 R5 D5 E5 F5 ⊢
            generalize hq : w4.heap.size = q at *
            have y0 : w5.cell? ⟨q, 0, none⟩ = some (.slice AS' nS' cS') := by rw [E5.cell]; rfl
            have y1 : w5.cell? ⟨q, 1, none⟩ = some (.slice AG' nG' cG') := by rw [E5.cell]; rfl
            have y2 : w5.cell? ⟨q, 2, none⟩ = some (.slice AK' nK' cK') := by rw [E5.cell]; rfl
            have v0 : w5.cell? ⟨X, 0, none⟩ = some (.slice AS nS cS) := by rw [P5.x.cell]; rfl
            have v1 : w5.cell? ⟨X, 1, none⟩ = some (.slice AG nG cG) := by rw [P5.x.cell]; rfl
            have v2 : w5.cell? ⟨X, 2, none⟩ = some (.slice AK nK cK) := by rw [P5.x.cell]; rfl
            have f0 := P5.x.frozen 0
            have f1 := P5.x.frozen 1
            have f2 := P5.x.frozen 2
            have HP5 := hide P5
            have HR5 := hide R5
            have HD5 := hide D5
            have HF5 := hide F5
            have gX : X ≠ g := P5.x.ne_ D5 (by decide)
            clear P5 R5 D5 E5 F5 x0 x1 x2 P4 D4 R4 hq
            go_upto_region 20 with fail
            have P6 := HP5.out.storeX HR5.out
            have D6 := (HD5.out.far (p := ⟨X, 0, none⟩) (fun e => gX e.symm) (.slice AS' nS' cS')).far (p := ⟨X, 1, none⟩) (fun e => gX e.symm) (.slice AG' nG' cG') |>.far (p := ⟨X, 2, none⟩) (fun e => gX e.symm) (.slice AK' nK' cK')
            have F6 := (HF5.out.far (p := ⟨X, 0, none⟩) (fun e => nX1 e.symm) (.slice AS' nS' cS')).far (p := ⟨X, 1, none⟩) (fun e => nX1 e.symm) (.slice AG' nG' cG') |>.far (p := ⟨X, 2, none⟩) (fun e => nX1 e.symm) (.slice AK' nK' cK')
            generalize World.setCell (World.setCell (World.setCell w5 _ _) _ _) _ _ = w6 at P6 D6 F6 ⊢
            have HP6 := hide P6
            have HD6 := hide D6
            have HF6 := hide F6
            clear P6 D6 F6 y0 y1 y2 v0 v1 v2 f0 f1 f2 HP5 HR5 HD5 HF5
            go_upto_region 21 with (go_at_call 9; refine (HC2.out _ _ HP6.out.arn).mono ?_; rintro e w7 ⟨fv', rfl, hA7, hT7, hf7⟩; have P7 := hide (HP6.out.turned hT7 hA7 hf7); have D7 := hide (turned_blk hT7 HP6.out.arn HD6.out (by decide) (by decide) (by decide)); have F7 := (turned_blk hT7 HP6.out.arn HF6.out (by decide) (by decide) (by decide)); have l7 := F7.lt; have z0 : w7.cell? ⟨q + 1, 0, none⟩ = some (.int .i64 r1) := (by rw [F7.cell]; rfl); have z1 : w7.cell? ⟨q + 1, 1, none⟩ = some (.int .i64 r2) := (by rw [F7.cell]; rfl); clear F7 hA7 hT7 hf7)
            have heq := run_eql_ref
            have hqg : Try.prog.eqGuardType Try.prog.depth 36 = false := by kernel_rfl
            go_wp2_with fail
            go_meet
            case rel => exact ⟨rfl, D7.out.alloc _, _, _, _, _, _, HO.out, P7.out.alloc _⟩
          · skip
            -- Move
            have hR := HPW.out.ref
            obtain ⟨AS, nS, cS, AG, nG, cG, AK, nK, cK, rfl, rfl, rfl, hnK⟩ := refAt_abc hR
            have x0 : W.cell? ⟨X, 0, none⟩ = some (.slice AS nS cS) := by rw [HPW.out.x.cell]; rfl
            have x1 : W.cell? ⟨X, 1, none⟩ = some (.slice AG nG cG) := by rw [HPW.out.x.cell]; rfl
            have x2 : W.cell? ⟨X, 2, none⟩ = some (.slice AK nK cK) := by rw [HPW.out.x.cell]; rfl
            have d1 : W.cell? ⟨g, 1, none⟩ = some (.int .i64 y) := by rw [HDW.out.cell]; rfl
            have d2 : W.cell? ⟨g, 2, none⟩ = some (.int .i64 z) := by rw [HDW.out.cell]; rfl
            have HRR := hide hR
            clear hR hnK
            have key : ∃ (s' : Arn) (bo : Bool), Arn.Ok n (k + 1) s' ∧ (∀ (W' : World) (R : Nat → Prop) (v : Value), RefAt W' R s v → (∀ b, R b → b < W'.heap.size) → Calls Try.prog 10 #[v, .int .i64 y, .int .i64 z] W' (RefGives W' R s' fun v => .tuple #[v, .bool bo])) ∧
                (∀ (W' : World) (fv : Value), ArnAt W' w.heap.size P Q fv s → w.heap.size ≤ W'.heap.size → Calls Try.prog 11 #[.pointer (some ⟨P, 0, none⟩), .int .i64 y, .int .i64 z] W' (ArnDone W' w.heap.size P Q fv s' (.bool bo))) := by
              have ok := OK.out
              obtain ⟨l1, l2, l3⟩ := ok_len ok
              cases hm : moves s.S y z
              · exact ⟨s, false, ok_more ok (by omega), fun W' R v h hR => refMove_no W' h hR l1 y z hm, fun W' fv h _ => (move_no W' h ok y z hm).mono fun e w' ⟨e1, e2⟩ => ⟨fv, e1, by rw [← e2]; exact h, by rw [← e2]; exact Turned.refl _ _ _ _, .inl rfl⟩⟩
              · have hmm := of_decide_eq_true hm
                rcases slot_or (S := s.S) y with hi | ⟨q, u, rfl, q1, ql, hq⟩
                · rw [stateOf_out hi] at hmm; omega
                · rw [stateOf_at q1 hq] at hmm
                  obtain ⟨u1, u3, rfl⟩ := hmm
                  obtain ⟨u, rfl⟩ := Int.eq_ofNat_of_zero_le (show 0 ≤ u by omega)
                  exact ⟨_, true, ok_more (move_ok ok q1 hq (by omega) (by omega)) (by omega), fun W' R v h hR => refMove_yes W' h hR l1 q u q1 hq (by omega) (by omega), fun W' fv h _ => (move_yes W' h ok q u q1 hq (by omega) (by omega)).mono fun e w' ⟨e1, e2, e3⟩ => ⟨fv, e1, e2, e3, .inl rfl⟩⟩
            obtain ⟨s', bo, ok', C1, C2⟩ := key
            have HC1 := hide C1
            have HC2 := hide C2
            have HO := hide ok'
            clear C1 C2 ok'
            go_upto_region 24 with (go_at_call 10; refine (HC1.out _ _ _ HRR.out HPW.out.lt).mono ?_; rintro e w4 ⟨v', rfl, hr4, hb4⟩; have P4 := hide (HPW.out.below hb4); have D4 := hide (HDW.out.below hb4 HDW.out.lt); obtain ⟨a', b', c', rfl⟩ := refAt_len hr4; obtain ⟨AS', nS', cS', AG', nG', cG', AK', nK', cK', rfl, rfl, rfl, hnK'⟩ := refAt_abc hr4; have R4 := hide (hr4.more (R' := FreeB w4 P Q X fv) fun d hd => HPW.out.grow hb4.size hd); clear hr4 hb4 hnK')
            have P5 := P4.out.alloc (.cells #[.slice AS' nS' cS', .slice AG' nG' cG', .slice AK' nK' cK'] 30)
            have R5 := (R4.out.below ((Below.refl w4.heap.size w4).alloc (Nat.le_refl _) (.cells #[.slice AS' nS' cS', .slice AG' nG' cG', .slice AK' nK' cK'] 30)) fun d hd => hd.1).more (R' := FreeB (w4.alloc (.cells #[.slice AS' nS' cS', .slice AG' nG' cG', .slice AK' nK' cK'] 30)) P Q X fv) fun d hd => ⟨by have := hd.1; simp; omega, hd.2⟩
            have D5 := D4.out.alloc (.cells #[.slice AS' nS' cS', .slice AG' nG' cG', .slice AK' nK' cK'] 30)
            have E5 := Blk.new w4 30 #[.slice AS' nS' cS', .slice AG' nG' cG', .slice AK' nK' cK']
            generalize World.alloc w4 _ = w5 at P5 R5 D5 E5 ⊢
            generalize hq : w4.heap.size = q at *
            have y0 : w5.cell? ⟨q, 0, none⟩ = some (.slice AS' nS' cS') := by rw [E5.cell]; rfl
            have y1 : w5.cell? ⟨q, 1, none⟩ = some (.slice AG' nG' cG') := by rw [E5.cell]; rfl
            have y2 : w5.cell? ⟨q, 2, none⟩ = some (.slice AK' nK' cK') := by rw [E5.cell]; rfl
            have v0 : w5.cell? ⟨X, 0, none⟩ = some (.slice AS nS cS) := by rw [P5.x.cell]; rfl
            have v1 : w5.cell? ⟨X, 1, none⟩ = some (.slice AG nG cG) := by rw [P5.x.cell]; rfl
            have v2 : w5.cell? ⟨X, 2, none⟩ = some (.slice AK nK cK) := by rw [P5.x.cell]; rfl
            have f0 := P5.x.frozen 0
            have f1 := P5.x.frozen 1
            have f2 := P5.x.frozen 2
            have HP5 := hide P5
            have HR5 := hide R5
            have HD5 := hide D5
            have gX : X ≠ g := P5.x.ne_ D5 (by decide)
            clear P5 R5 D5 E5 x0 x1 x2 d1 d2 P4 D4 R4 hq
            go_upto_region 25 with fail
            have P6 := HP5.out.storeX HR5.out
            have D6 := (HD5.out.far (p := ⟨X, 0, none⟩) (fun e => gX e.symm) (.slice AS' nS' cS')).far (p := ⟨X, 1, none⟩) (fun e => gX e.symm) (.slice AG' nG' cG') |>.far (p := ⟨X, 2, none⟩) (fun e => gX e.symm) (.slice AK' nK' cK')
            generalize World.setCell (World.setCell (World.setCell w5 _ _) _ _) _ _ = w6 at P6 D6 ⊢
            have d1 : w6.cell? ⟨g, 1, none⟩ = some (.int .i64 y) := by rw [D6.cell]; rfl
            have d2 : w6.cell? ⟨g, 2, none⟩ = some (.int .i64 z) := by rw [D6.cell]; rfl
            have HP6 := hide P6
            have HD6 := hide D6
            clear P6 D6 y0 y1 y2 v0 v1 v2 f0 f1 f2 HP5 HR5 HD5
            go_wp2_with (go_at_call 11; refine (HC2.out _ _ HP6.out.arn HP6.out.hb.size).mono ?_; rintro e w7 ⟨fv', rfl, hA7, hT7, hf7⟩; have P7 := hide (HP6.out.turned hT7 hA7 hf7); have D7 := hide (turned_blk hT7 HP6.out.arn HD6.out (by decide) (by decide) (by decide)); clear hA7 hT7 hf7)
            go_meet
            case rel => exact ⟨rfl, D7.out, _, _, _, _, _, HO.out, P7.out⟩
          · have bx0 : (x == 0) = false := by rw [beq_eq_false_iff_ne]; exact hx0
            have bx1 : (x == 1) = false := by rw [beq_eq_false_iff_ne]; exact hx1
            clear hx0 hx1
            -- Free
            have hR := HPW.out.ref
            obtain ⟨AS, nS, cS, AG, nG, cG, AK, nK, cK, rfl, rfl, rfl, hnK⟩ := refAt_abc hR
            have x0 : W.cell? ⟨X, 0, none⟩ = some (.slice AS nS cS) := by rw [HPW.out.x.cell]; rfl
            have x1 : W.cell? ⟨X, 1, none⟩ = some (.slice AG nG cG) := by rw [HPW.out.x.cell]; rfl
            have x2 : W.cell? ⟨X, 2, none⟩ = some (.slice AK nK cK) := by rw [HPW.out.x.cell]; rfl
            have d1 : W.cell? ⟨g, 1, none⟩ = some (.int .i64 y) := by rw [HDW.out.cell]; rfl
            have d2 : W.cell? ⟨g, 2, none⟩ = some (.int .i64 z) := by rw [HDW.out.cell]; rfl
            have HRR := hide hR
            clear hR hnK
            have key : ∃ (s' : Arn) (bo : Bool), Arn.Ok n (k + 1) s' ∧ (∀ (W' : World) (R : Nat → Prop) (v : Value), RefAt W' R s v → (∀ b, R b → b < W'.heap.size) → Calls Try.prog 12 #[v, .int .i64 y] W' (RefGives W' R s' fun v => .tuple #[v, .bool bo])) ∧
                (∀ (W' : World) (fv : Value), ArnAt W' w.heap.size P Q fv s → w.heap.size ≤ W'.heap.size → Calls Try.prog 13 #[.pointer (some ⟨P, 0, none⟩), .int .i64 y] W' (ArnDone W' w.heap.size P Q fv s' (.bool bo))) := by
              have ok := OK.out
              obtain ⟨l1, l2, l3⟩ := ok_len ok
              by_cases hm : stateOf s.S y = 1 ∨ stateOf s.S y = 4
              · rcases slot_or (S := s.S) y with hi | ⟨q, u, rfl, q1, ql, hq⟩
                · rw [stateOf_out hi] at hm; omega
                · rw [stateOf_at q1 hq] at hm
                  obtain ⟨u, rfl⟩ := Int.eq_ofNat_of_zero_le (show 0 ≤ u by omega)
                  have hu : u = 1 ∨ u = 4 := by omega
                  have hS := ok.hS
                  have hG := ok.hG
                  obtain ⟨g', hg⟩ : ∃ g', s.G[q]? = some g' := ⟨_, List.getElem?_eq_getElem (by omega)⟩
                  obtain ⟨g0, gm⟩ := ok.gn q g' hg
                  exact ⟨_, true, free_ok ok q1 hq hu hg, fun W' R v h hR => refFree_yes W' h hR l1 l2 (by omega) q u q1 hq hu g' hg g0 (by omega), fun W' fv h hB => free_yes W' h ok q u q1 hq hu g' hg (by omega) l3 hB⟩
              · exact ⟨s, false, ok_more ok (by omega), fun W' R v h hR => refFree_no W' h hR l1 y hm, fun W' fv h _ => (free_no W' h ok y hm).mono fun e w' ⟨e1, e2⟩ => ⟨fv, e1, by rw [← e2]; exact h, by rw [← e2]; exact Turned.refl _ _ _ _, .inl rfl⟩⟩
            obtain ⟨s', bo, ok', C1, C2⟩ := key
            have HC1 := hide C1
            have HC2 := hide C2
            have HO := hide ok'
            clear C1 C2 ok'
            go_upto_region 15 with (go_at_call 12; refine (HC1.out _ _ _ HRR.out HPW.out.lt).mono ?_; rintro e w4 ⟨v', rfl, hr4, hb4⟩; have P4 := hide (HPW.out.below hb4); have D4 := hide (HDW.out.below hb4 HDW.out.lt); obtain ⟨a', b', c', rfl⟩ := refAt_len hr4; obtain ⟨AS', nS', cS', AG', nG', cG', AK', nK', cK', rfl, rfl, rfl, hnK'⟩ := refAt_abc hr4; have R4 := hide (hr4.more (R' := FreeB w4 P Q X fv) fun d hd => HPW.out.grow hb4.size hd); clear hr4 hb4 hnK')
            have P5 := P4.out.alloc (.cells #[.slice AS' nS' cS', .slice AG' nG' cG', .slice AK' nK' cK'] 30)
            have R5 := (R4.out.below ((Below.refl w4.heap.size w4).alloc (Nat.le_refl _) (.cells #[.slice AS' nS' cS', .slice AG' nG' cG', .slice AK' nK' cK'] 30)) fun d hd => hd.1).more (R' := FreeB (w4.alloc (.cells #[.slice AS' nS' cS', .slice AG' nG' cG', .slice AK' nK' cK'] 30)) P Q X fv) fun d hd => ⟨by have := hd.1; simp; omega, hd.2⟩
            have D5 := D4.out.alloc (.cells #[.slice AS' nS' cS', .slice AG' nG' cG', .slice AK' nK' cK'] 30)
            have E5 := Blk.new w4 30 #[.slice AS' nS' cS', .slice AG' nG' cG', .slice AK' nK' cK']
            generalize World.alloc w4 _ = w5 at P5 R5 D5 E5 ⊢
            generalize hq : w4.heap.size = q at *
            have y0 : w5.cell? ⟨q, 0, none⟩ = some (.slice AS' nS' cS') := by rw [E5.cell]; rfl
            have y1 : w5.cell? ⟨q, 1, none⟩ = some (.slice AG' nG' cG') := by rw [E5.cell]; rfl
            have y2 : w5.cell? ⟨q, 2, none⟩ = some (.slice AK' nK' cK') := by rw [E5.cell]; rfl
            have v0 : w5.cell? ⟨X, 0, none⟩ = some (.slice AS nS cS) := by rw [P5.x.cell]; rfl
            have v1 : w5.cell? ⟨X, 1, none⟩ = some (.slice AG nG cG) := by rw [P5.x.cell]; rfl
            have v2 : w5.cell? ⟨X, 2, none⟩ = some (.slice AK nK cK) := by rw [P5.x.cell]; rfl
            have f0 := P5.x.frozen 0
            have f1 := P5.x.frozen 1
            have f2 := P5.x.frozen 2
            have HP5 := hide P5
            have HR5 := hide R5
            have HD5 := hide D5
            have gX : X ≠ g := P5.x.ne_ D5 (by decide)
            clear P5 R5 D5 E5 x0 x1 x2 d1 d2 P4 D4 R4 hq
            go_upto_region 16 with fail
            have P6 := HP5.out.storeX HR5.out
            have D6 := (HD5.out.far (p := ⟨X, 0, none⟩) (fun e => gX e.symm) (.slice AS' nS' cS')).far (p := ⟨X, 1, none⟩) (fun e => gX e.symm) (.slice AG' nG' cG') |>.far (p := ⟨X, 2, none⟩) (fun e => gX e.symm) (.slice AK' nK' cK')
            generalize World.setCell (World.setCell (World.setCell w5 _ _) _ _) _ _ = w6 at P6 D6 ⊢
            have d1 : w6.cell? ⟨g, 1, none⟩ = some (.int .i64 y) := by rw [D6.cell]; rfl
            have d2 : w6.cell? ⟨g, 2, none⟩ = some (.int .i64 z) := by rw [D6.cell]; rfl
            have HP6 := hide P6
            have HD6 := hide D6
            clear P6 D6 y0 y1 y2 v0 v1 v2 f0 f1 f2 HP5 HR5 HD5
            go_wp2_with (go_at_call 13; refine (HC2.out _ _ HP6.out.arn HP6.out.hb.size).mono ?_; rintro e w7 ⟨fv', rfl, hA7, hT7, hf7⟩; have P7 := hide (HP6.out.turned hT7 hA7 hf7); have D7 := hide (turned_blk hT7 HP6.out.arn HD6.out (by decide) (by decide) (by decide)); clear hA7 hT7 hf7)
            go_meet
            case rel => exact ⟨rfl, D7.out, _, _, _, _, _, HO.out, P7.out⟩
        case rest =>
          obtain ⟨rfl, hD, fv, a, b, c, s, ok, hP⟩ := hcut
          obtain ⟨AS, nS, cS, AG, nG, cG, AK, nK, cK, rfl, rfl, rfl, hnK⟩ := refAt_abc hP.ref
          have HS := hide (⟨hP, hD⟩ : SS w P Q X g fv (.slice AS nS cS) (.slice AG nG cG) (.slice AK nK cK) s x y z wc)
          obtain ⟨l1, l2, l3⟩ := ok_len ok
          have hst : ∀ (i : Nat) (u : Int), s.S[i]? = some u → 0 ≤ u := fun i u hu => (ok.st i u hu).1
          have hGS : s.G.length = s.S.length := by rw [ok.hG, ok.hS]
          have CG := hide (fun (W : World) (h : SS w P Q X g fv (.slice AS nS cS) (.slice AG nG cG) (.slice AK nK cK) s x y z W) => gen_any W h.1.arn ok y)
          have CS := hide (fun (W : World) (h : SS w P Q X g fv (.slice AS nS cS) (.slice AG nG cG) (.slice AK nK cK) s x y z W) => state_any W h.1.arn ok y)
          have CC : Hid (∀ (W : World) (h : SS w P Q X g fv (.slice AS nS cS) (.slice AG nG cG) (.slice AK nK cK) s x y z W), Calls Try.prog 18 #[.pointer (some ⟨P, 0, none⟩), .int .i64 z] W fun e w' => e = .returned (.int .i64 (cnt s.S z)) ∧ W = w') := hide (fun W h => by have := count_any W h.1.arn z; rwa [count_same ok] at this)
          have C0 : Hid (∀ (W : World) (h : SS w P Q X g fv (.slice AS nS cS) (.slice AG nG cG) (.slice AK nK cK) s x y z W), Calls Try.prog 18 #[.pointer (some ⟨P, 0, none⟩), .int .i64 0] W fun e w' => e = .returned (.int .i64 nK) ∧ W = w') := hide (fun W h => by have := count_any W h.1.arn 0; rwa [count_same ok, ok.ct, ← hnK] at this)
          have RS := hide (fun (W : World) (h : SS w P Q X g fv (.slice AS nS cS) (.slice AG nG cG) (.slice AK nK cK) s x y z W) => refState_any W h.1.ref h.1.lt l1 y)
          have RG := hide (fun (W : World) (h : SS w P Q X g fv (.slice AS nS cS) (.slice AG nG cG) (.slice AK nK cK) s x y z W) => refGen_any W h.1.ref h.1.lt l1 hGS hst y)
          have RC := hide (fun (W : World) (h : SS w P Q X g fv (.slice AS nS cS) (.slice AG nG cG) (.slice AK nK cK) s x y z W) => refCount_any W h.1.ref h.1.lt l1 z)
          have HO := hide ok
          clear hP hD hnK l1 l2 l3 hst hGS ok
          go_wp2_with fail
          go_region_held3 (fun w' => w'.cell? ⟨X, 0, none⟩ = some (.slice AS nS cS) ∧ w'.cell? ⟨X, 1, none⟩ = some (.slice AG nG cG) ∧ w'.cell? ⟨X, 2, none⟩ = some (.slice AK nK cK) ∧ w'.cell? ⟨g, 1, none⟩ = some (.int .i64 y) ∧ w'.cell? ⟨g, 2, none⟩ = some (.int .i64 z) ∧ SS w P Q X g fv (.slice AS nS cS) (.slice AG nG cG) (.slice AK nK cK) s x y z w')
            (first | assumption | exact SS.cells (SS.drew HS.out) | exact (SS.below_ (by assumption) (and6 (by assumption))).cells)
            (first
              | (go_at_call 14; refine (CS.out _ (and6 (by assumption))).mono ?_; rintro e _ ⟨rfl, rfl⟩)
              | (go_at_call 16; refine (CG.out _ (and6 (by assumption))).mono ?_; rintro e _ ⟨rfl, rfl⟩)
              | (go_at_call 18; ((with_reducible refine (CC.out _ (and6 (by assumption))).mono ?_); rintro e _ ⟨rfl, rfl⟩))
              | (go_at_call 18; ((with_reducible refine (C0.out _ (and6 (by assumption))).mono ?_); rintro e _ ⟨rfl, rfl⟩))
              | (go_at_call 15; refine (RS.out _ (and6 (by assumption))).mono ?_; rintro e w4 ⟨rfl, hb4⟩)
              | (go_at_call 17; refine (RG.out _ (and6 (by assumption))).mono ?_; rintro e w4 ⟨rfl, hb4⟩)
              | (go_at_call 19; refine (RC.out _ (and6 (by assumption))).mono ?_; rintro e w4 ⟨rfl, hb4⟩))
          rename_i hF
          have HF := hide (and6 hF)
          clear hF
          go_wp2_with fail
          go_roundw
          case rel => exact ⟨k + 1, fv, _, _, _, s, by omega, by go_num, HO.out, HF.out.1⟩
          case measure => first | (simp [intOf]; done) | (simp [intOf]; omega)
      · have hge : (len : Int) ≤ k := by omega
        have HP := hide hP
        clear hP
        go_wp2_with fail
        refine (lives_any _).mono ?_
        rintro e w2 ⟨rfl, hb2⟩
        have hb3 := Below.step HP.out.hb hb2
        go_wp2_with fail
        go_ret
        exact ⟨rfl, hb3⟩
end Go.Proofs.Ytoodcfldnojkjab
