/-
  The walk of ProbePlays. Conditions: the slices read as lists.
-/
import Derived.Test.YtphbdffgeeicaaaPrbX
namespace Go.Proofs.Ytphbdffgeeicaaa
set_option linter.unusedSimpArgs false
set_option linter.unusedVariables false
open Go.RowKit

/-- a deed: is it asked what it wants, a slot, an item -/
abbrev DeedP := Bool × Int × ItemP
def SDP : Sh DeedP := Sh.pair Sh.bool (Sh.pair (Sh.int .i64) SItem)
theorem RdR.deedp {w : World} {R : Nat → Prop} {A : Option Addr} {l : List DeedP} (h : RdR SDP w R A l) {k : Nat} (hk : k < l.length) : ∃ ad d V c, A = some ad ∧ R ad.block ∧ l[k]? = some d ∧ w.cell? (ad.add (k * 5)) = some (.bool d.1) ∧ w.cell? ⟨(ad.add (k * 5)).block, (ad.add (k * 5)).off + 1, none⟩ = some (.int .i64 d.2.1) ∧ w.cell? ⟨(ad.add (k * 5)).block, (ad.add (k * 5)).off + 2, none⟩ = some (.int .u64 d.2.2.1) ∧
    w.cell? ⟨(ad.add (k * 5)).block, (ad.add (k * 5)).off + 3, none⟩ = some (.slice V d.2.2.2.1.length c) ∧ w.cell? ⟨(ad.add (k * 5)).block, (ad.add (k * 5)).off + 4, none⟩ = some (.int .u64 d.2.2.2.2) ∧ d.2.2.2.1.length ≤ c ∧ c ≤ 9223372036854775807 ∧ RdR (Sh.int .i32) w R V d.2.2.2.1 := by
  obtain ⟨ad, x, cs, e, hb, hx, hr, hc⟩ := h.at_ hk
  obtain ⟨b, d, rfl, hr1, b2, d2, rfl, hr2, b3, d3, rfl, hr3, b4, d4, rfl, ⟨V, c, hr4, h4, h5, h6⟩, hr5⟩ := hr
  have h1 : b = [.bool x.1] := hr1
  have h2 : b2 = [.int .i64 x.2.1] := hr2
  have h3 : b3 = [.int .u64 x.2.2.1] := hr3
  have h5' : d4 = [.int .u64 x.2.2.2.2] := hr5
  subst h1 h2 h3 hr4 h5'
  have c0 := hc 0 _ rfl
  have c1 := hc 1 _ rfl
  have c2 := hc 2 _ rfl
  have c3 := hc 3 _ rfl
  have c4 := hc 4 _ rfl
  rw [show SDP.size = 5 from rfl, ← add_of_add] at c1 c2 c3 c4
  refine ⟨ad, x, V, c, e, hb, hx, ?_, c1, c2, c3, c4, h4, h5, h6⟩
  simpa [SDP, SItem, Sh.pair, Sh.int, Sh.bool, Sh.list] using c0
/-- a deed that can be -/
def OkD (d : DeedP) : Prop := (Lit.int .i64 d.2.1).wf = true ∧ I32 d.2.2.2.1
section
variable {w : World} {R : Nat → Prop} {Aq Ak Aw Ab V : Option Addr} {nq cq nk ck nw cw nb cb nv cv : Nat} {mask ef s id tags : Int} {wt bs : List Spt} {qs kn vs : List Int}
theorem refWant_done (hR : ∀ d, R d → d < w.heap.size) (hw : RdR SP w R Aw wt) (hnw : wt.length = nw) (hcw : nw ≤ cw) (hcw2 : cw ≤ 9223372036854775807) (hb : RdR SP w R Ab bs) (hnb : bs.length = nb) (hcb : nb ≤ cb) (hcb2 : cb ≤ 9223372036854775807) (hd : doneR (mostB ef) wt bs = true) :
    Calls Try.prog 7 #[.agg #[.slice Aq nq cq, .int .u64 mask, .int .i64 ef, .slice Ak nk ck, .slice Aw nw cw, .slice Ab nb cb]] w fun e w' => e = .returned (.tuple #[.agg #[.slice Aq nq cq, .int .u64 mask, .int .i64 ef, .slice Ak nk ck, .slice Aw nw cw, .slice Ab nb cb], .int .i64 0, .bool false]) ∧ Below w.heap.size w w' := by
  refine (refWantP_any hR Aq nq cq mask ef Ak nk ck Aw nw cw wt Ab nb cb bs hw hnw hcw hcw2 hb hnb hcb hcb2).mono ?_
  rintro e w' ⟨h1, ⟨_, rfl⟩ | ⟨h2, _⟩⟩
  · exact ⟨rfl, h1⟩
  · rw [hd] at h2; cases h2
theorem refWant_more (hR : ∀ d, R d → d < w.heap.size) (hw : RdR SP w R Aw wt) (hnw : wt.length = nw) (hcw : nw ≤ cw) (hcw2 : cw ≤ 9223372036854775807) (hb : RdR SP w R Ab bs) (hnb : bs.length = nb) (hcb : nb ≤ cb) (hcb2 : cb ≤ 9223372036854775807) (hd : doneR (mostB ef) wt bs = false) :
    Calls Try.prog 7 #[.agg #[.slice Aq nq cq, .int .u64 mask, .int .i64 ef, .slice Ak nk ck, .slice Aw nw cw, .slice Ab nb cb]] w fun e w' => ∃ A' c', e = .returned (.tuple #[.agg #[.slice Aq nq cq, .int .u64 mask, .int .i64 ef, .slice Ak nk ck, .slice A' (nw - 1) c', .slice Ab nb cb], .int .i64 (fstS wt).2, .bool true]) ∧ nw - 1 ≤ c' ∧ c' ≤ 9223372036854775807 ∧ RdR SP w' (Grow R w w') A' (wt.drop 1) ∧ Below w.heap.size w w' := by
  refine (refWantP_any hR Aq nq cq mask ef Ak nk ck Aw nw cw wt Ab nb cb bs hw hnw hcw hcw2 hb hnb hcb hcb2).mono ?_
  rintro e w' ⟨h1, ⟨h2, _⟩ | ⟨_, A', c', rfl, h3, h4, h5⟩⟩
  · rw [hd] at h2; cases h2
  · exact ⟨A', c', rfl, h3, h4, h5, h1⟩
theorem vWant_done {wr : World} {X M Q P n : Nat} {A : Option Addr} {c : Nat} {v v2 : Value} (h : PrV w wr X M Q P mask ef A c qs v v2 n kn wt bs) (hn : n ≤ 1000) (hd : doneR (mostB ef) wt bs = true) : Calls Try.prog 8 #[.pointer (some ⟨X, 0, none⟩)] wr fun e w' => e = .returned (.tuple #[.int .i64 0, .bool false]) ∧ PrV w w' X M Q P mask ef A c qs v v2 n kn wt bs ∧ TurnP wr w' M Q P v v2 v v2 := by
  refine (vWant h hn).mono ?_
  rintro e w' (⟨_, rfl, h1⟩ | ⟨h2, _⟩)
  · exact ⟨rfl, h1⟩
  · rw [hd] at h2; cases h2
theorem vWant_more {wr : World} {X M Q P n : Nat} {A : Option Addr} {c : Nat} {v v2 : Value} (h : PrV w wr X M Q P mask ef A c qs v v2 n kn wt bs) (hn : n ≤ 1000) (hd : doneR (mostB ef) wt bs = false) : Calls Try.prog 8 #[.pointer (some ⟨X, 0, none⟩)] wr fun e w' => e = .returned (.tuple #[.int .i64 (fstS wt).2, .bool true]) ∧ ∃ v', PrV w w' X M Q P mask ef A c qs v' v2 n kn (wt.drop 1) bs ∧ TurnP wr w' M Q P v v2 v' v2 := by
  refine (vWant h hn).mono ?_
  rintro e w' (⟨h2, _⟩ | ⟨_, rfl, h1⟩)
  · rw [hd] at h2; cases h2
  · exact ⟨rfl, h1⟩
theorem vWant_moreE {wr : World} {X M Q P n : Nat} {A : Option Addr} {c : Nat} {v v2 : Value} (h : PrV w wr X M Q P mask ef A c qs v v2 n kn wt bs) (hn : n ≤ 1000) (hd : doneR (mostB ef) wt bs = false) {sl : Int} (hs : (fstS wt).2 = sl) : Calls Try.prog 8 #[.pointer (some ⟨X, 0, none⟩)] wr fun e w' => e = .returned (.tuple #[.int .i64 sl, .bool true]) ∧ ∃ v', PrV w w' X M Q P mask ef A c qs v' v2 n kn (wt.drop 1) bs ∧ TurnP wr w' M Q P v v2 v' v2 := by
  subst hs
  exact vWant_more h hn hd
/-- what the document's Offer gives, by one form -/
def GivesP (w : World) (R : Nat → Prop) (Aq : Option Addr) (nq cq : Nat) (mask ef : Int) (kn' : List Int) (wt' bs' : List Spt) (b : Bool) (e : Ending) (w' : World) : Prop :=
  ∃ (Ak : Option Addr) (nk ck : Nat) (Aw : Option Addr) (nw cw : Nat) (Ab : Option Addr) (nb cb : Nat), e = .returned (.tuple #[.agg #[.slice Aq nq cq, .int .u64 mask, .int .i64 ef, .slice Ak nk ck, .slice Aw nw cw, .slice Ab nb cb], .bool b]) ∧ (kn'.length = nk ∧ nk ≤ ck ∧ ck ≤ 9223372036854775807) ∧ (wt'.length = nw ∧ nw ≤ cw ∧ cw ≤ 9223372036854775807) ∧ (bs'.length = nb ∧ nb ≤ cb ∧ cb ≤ 9223372036854775807) ∧
    RdR (Sh.int .i64) w' (Grow R w w') Ak kn' ∧ RdR SP w' (Grow R w w') Aw wt' ∧ RdR SP w' (Grow R w w') Ab bs' ∧ Below w.heap.size w w'
theorem refOffer_all (hR : ∀ d, R d → d < w.heap.size)
    (hq : RdR (Sh.int .i32) w R Aq qs) (hnq : qs.length = nq) (hcq : nq ≤ cq) (hcq2 : cq ≤ 9223372036854775807) (hqi : I32 qs)
    (hk : RdR (Sh.int .i64) w R Ak kn) (hnk : kn.length = nk) (hck : nk ≤ ck) (hck2 : ck ≤ 9223372036854775807) (hk6 : nk ≤ 100000)
    (hw : RdR SP w R Aw wt) (hnw : wt.length = nw) (hcw : nw ≤ cw) (hcw2 : cw ≤ 9223372036854775807) (hw6 : nw ≤ 100000)
    (hb : RdR SP w R Ab bs) (hnb : bs.length = nb) (hcb : nb ≤ cb) (hcb2 : cb ≤ 9223372036854775807) (hb6 : nb ≤ 100000)
    (hv : RdR (Sh.int .i32) w R V vs) (hnv : vs.length = nv) (hcv : nv ≤ cv) (hcv2 : cv ≤ 9223372036854775807) (hvi : I32 vs) (hmask : 0 ≤ mask ∧ mask ≤ 18446744073709551615) {bo : Bool} (hbo : decide (s ∉ kn) = bo) :
    Calls Try.prog 9 #[.agg #[.slice Aq nq cq, .int .u64 mask, .int .i64 ef, .slice Ak nk ck, .slice Aw nw cw, .slice Ab nb cb], .int .i64 s, .agg #[.int .u64 id, .slice V nv cv, .int .u64 tags]] w (GivesP w R Aq nq cq mask ef (offKn kn s) (offWt kn wt ((distOf qs vs, id), s)) (offBs (mostB ef) (hasB mask tags) kn bs ((distOf qs vs, id), s)) bo) := by
  subst hbo
  refine (refOfferP_any hR Aq nq cq qs mask ef Ak nk ck kn Aw nw cw wt Ab nb cb bs s id tags V nv cv vs hq hnq hcq hcq2 hqi hk hnk hck hck2 hk6 hw hnw hcw hcw2 hw6 hb hnb hcb hcb2 hb6 hv hnv hcv hcv2 hvi hmask).mono ?_
  unfold offKn offWt offBs
  rintro e w' ⟨h1, ⟨hs, rfl⟩ | ⟨hs, A1, c1, A2, c2, A3, n3, c3, rfl, g1, g2, g3, g4, g5, g6, g7, g8, g9, g10⟩⟩
  · have hs : s ∈ kn := hs
    rw [if_pos hs, if_pos hs, if_pos hs]
    have hm : ∀ d, R d → Grow R w w' d := fun d hd => .inl hd
    exact ⟨Ak, nk, ck, Aw, nw, cw, Ab, nb, cb, by rw [decide_eq_false (by simpa using hs)]; rfl, ⟨hnk, hck, hck2⟩, ⟨hnw, hcw, hcw2⟩, ⟨hnb, hcb, hcb2⟩, (hk.below h1 hR).more hm, (hw.below h1 hR).more hm, (hb.below h1 hR).more hm, h1⟩
  · have hs : s ∉ kn := hs
    rw [if_neg hs, if_neg hs, if_neg hs]
    exact ⟨A1, nk + 1, c1, A2, nw + 1, c2, A3, n3, c3, by rw [decide_eq_true hs]; rfl, ⟨by rw [List.length_append, hnk]; rfl, g1, g2⟩, ⟨by rw [srtS_len, List.length_append, hnw]; rfl, g3, g4⟩, ⟨g7, g5, g6⟩, g8, g9, g10, h1⟩
theorem sameB (A B : Option Addr) (n c d : Nat) (xs : List Spt) (w : World) (hx : Rd SP w w.heap.size A xs) (hn : xs.length = n) (hc : n ≤ c) (hm : c ≤ 9223372036854775807) (hy : Rd SP w w.heap.size B xs) (hd : n ≤ d) (hm' : d ≤ 9223372036854775807) :
    Calls Try.prog 13 #[.slice A n c, .slice B n d] w fun e w' => e = .returned (.bool true) ∧ Below w.heap.size w w' :=
  (same_any A B n c n d xs xs w hx hn hc hm hy hn hd hm').mono fun e w' h => ⟨by rw [h.1]; simp, h.2.below⟩
end
/-- what was there ahead of the call stays -/
theorem oldAt {α : Type} {S : Sh α} {w w1 w2 : World} {B : Option Addr} {xs : List α} (h1 : Below w.heap.size w w1) (h2 : Below w.heap.size w w2) (hv : RdR S w1 (fun d => d < w.heap.size) B xs) : RdR S w2 (fun d => d < w.heap.size) B xs := hv.keepBlocks fun d hd => (h2.block d hd).trans (h1.block d hd).symm
theorem PrL.oldv {α : Type} {S : Sh α} {xs : List α} {w W : World} {X M Q P n gx : Nat} {mask ef : Int} {A B Ak Aw Ab : Option Addr} {c : Nat} {qs kn kr : List Int} {v v2 : Value} {wt bs tr br : List Spt} {cx : Array Value} {bx : List (Nat × TypeId × Array Value)} (h : PrL w X M Q P mask ef A c qs gx v v2 n kn wt bs cx bx Ak kr Aw tr Ab br W) (hx : RdR S W (fun d => d < w.heap.size) B xs) : RdR S W (FrL M Q P v v2 gx W) B xs := hx.more fun d hd => ⟨h.pv.old hd, by have := h.hx; omega⟩
theorem vOfferB {w wr : World} {X M Q P n : Nat} {mask ef : Int} {A : Option Addr} {c : Nat} {qs kn : List Int} {v v2 : Value} {wt bs : List Spt} (h : PrV w wr X M Q P mask ef A c qs v v2 n kn wt bs) (hn6 : n ≤ 1000) {s : Int} (hw : (Lit.int .i64 s).wf = true) (id tags : Int)
    (V : Option Addr) (nv cv : Nat) (vs : List Int) (hv : RdR (Sh.int .i32) wr (FreeP wr M Q P v v2) V vs) (hn : vs.length = nv) (hc : nv ≤ cv) (hm : cv ≤ 9223372036854775807) (hvi : I32 vs) (hqi : I32 qs) {bo : Bool} (hbo : decide (s ∉ kn) = bo) :
    Calls Try.prog 10 #[.pointer (some ⟨X, 0, none⟩), .int .i64 s, .agg #[.int .u64 id, .slice V nv cv, .int .u64 tags]] wr fun e w' => e = .returned (.bool bo) ∧ ∃ v' v2',
      PrV w w' X M Q P mask ef A c qs v' v2' (n + 1) (offKn kn s) (offWt kn wt ((distOf qs vs, id), s)) (offBs (mostB ef) (hasB mask tags) kn bs ((distOf qs vs, id), s)) ∧ TurnP wr w' M Q P v v2 v' v2' := by
  subst hbo
  exact vOffer h hn6 hw id tags V nv cv vs hv hn hc hm hvi hqi
theorem mem_offKn (kn : List Int) (s : Int) : decide (s ∈ offKn kn s) = true := by
  refine decide_eq_true ?_
  unfold offKn
  split
  · assumption
  · simp
/-- the slices' numbers -/
structure NumP (n k : Nat) (kn : List Int) (wt bs : List Spt) (nk ck nw cw nb cb : Nat) : Prop where
  n : n ≤ k
  k1 : kn.length = nk
  k2 : nk ≤ ck
  k3 : ck ≤ 9223372036854775807
  k4 : nk ≤ k
  w1 : wt.length = nw
  w2 : nw ≤ cw
  w3 : cw ≤ 9223372036854775807
  b1 : bs.length = nb
  b2 : nb ≤ cb
  b3 : cb ≤ 9223372036854775807
theorem offKn_len (kn : List Int) (s : Int) : (offKn kn s).length ≤ kn.length + 1 := by unfold offKn; split <;> simp
set_option maxHeartbeats 16000000 in
set_option maxRecDepth 100000 in
theorem prPlays_any (Aq : Option Addr) (nq cq : Nat) (qs : List Int) (mask ef : Int) (A : Option Addr) (len cap : Nat) (ds : List DeedP) (w : World) (hq : Rd (Sh.int .i32) w w.heap.size Aq qs) (hnq : qs.length = nq) (hcq : nq ≤ cq) (hcq2 : cq ≤ 9223372036854775807) (hqi : I32 qs) (hq6 : nq ≤ 35184372088832) (hmask : 0 ≤ mask ∧ mask ≤ 18446744073709551615)
    (hd : Rd SDP w w.heap.size A ds) (hl : ds.length = len) (hc : len ≤ cap) (hm : cap ≤ 9223372036854775807) (hok : ∀ d ∈ ds, OkD d) :
    Calls Try.prog 3 #[.slice Aq nq cq, .int .u64 mask, .int .i64 ef, .slice A len cap] w fun e w' => e = .returned (.bool true) ∧ Below w.heap.size w w' := by
  rcases Nat.lt_or_ge 100 len with h1 | h1
  · have b1 : decide ((100 : Int) < len) = true := by simp; omega
    have b0 : decide (100 < len) = true := by simp; omega
    clear hd hl hq hok
    go_enter Try.func3, Try.ntmps3
    go_wp2_with (go_at_call 5; refine (lives_any _).mono ?_; rintro e w1 ⟨rfl, hb⟩)
    go_ret
    exact ⟨rfl, hb⟩
  have b1 : decide ((100 : Int) < len) = false := by simp; omega
  have b0 : decide (100 < len) = false := by simp; omega
  have HD := hide hd
  have HL := hide hl
  have HQ := hide hq
  have HNq := hide hnq
  have HQI := hide hqi
  have HOk := hide hok
  have HMk := hide hmask
  clear hd hl hq hqi hok hmask hnq
  go_enter Try.func3, Try.ntmps3
  go_upto_region 4 with (go_at_call 6; refine (vNew_any Aq nq cq qs mask ef _ HQ.out HNq.out hq6).mono ?_; rintro e w1 ⟨X, M, Q, P, A0, c0, rfl, hX, hp⟩; have HP0 := hide hp; clear hp hX)
  have HPS := hide (PrL.start HP0.out #[.slice Aq nq cq, .int .u64 mask, .int .i64 ef, .slice none 0 0, .slice none 0 0, .slice none 0 0] HP0.out.bel.size)
  clear HP0
  generalize World.alloc w1 _ = w2 at *
  generalize w1.heap.size = gx at *
  go_wp2
  go_loopw [36] (fun i wr => ∃ (k n : Nat) (kn : List Int) (wt bs : List Spt) (v v2 : Value) (Ak Aw Ab : Option Addr) (nk ck nw cw nb cb : Nat), k ≤ len ∧ i = .int .i64 k ∧ Hid (NumP n k kn wt bs nk ck nw cw nb cb) ∧ Hid (PrL w X M Q P mask ef A0 c0 qs gx v v2 n kn wt bs #[.slice Aq nq cq, .int .u64 mask, .int .i64 ef, .slice Ak nk ck, .slice Aw nw cw, .slice Ab nb cb] [] Ak kn Aw wt Ab bs wr)) (fun i _ => len - (intOf i).toNat)
  case atStart => exact ⟨0, 0, [], [], [], _, _, none, none, none, 0, 0, 0, 0, 0, 0, by omega, rfl, hide ⟨by omega, rfl, by omega, by omega, by omega, rfl, by omega, by omega, rfl, by omega, by omega⟩, HPS⟩
  case round =>
    obtain ⟨k, n, kn, wt, bs, v, v2, Ak, Aw, Ab, nk, ck, nw, cw, nb, cb, hk, rfl, HNum, HPl⟩ := hrel
    clear HPS
    by_cases hlt : k < len
    · obtain ⟨ad, ⟨wd, s, id, vs, tg⟩, V, cV, rfl, hbl, hds, z0, z1, z2, z3, z4, u1, u2, hv⟩ := RdR.deedp (HD.out.below HPl.out.pv.bel (Nat.le_refl _)) (k := k) (by have := HL.out; omega)
      simp only at z0 z1 z2 z3 z4 u1 u2 hv
      have HO := hide (HOk.out _ (List.mem_of_getElem? hds))
      have hk0 : (0 : Int) ≤ k := by omega
      have hkl : (k : Int) < len := by omega
      have HV0 := hide (show RdR (Sh.int .i32) wr (fun d => d < w.heap.size) V vs from hv)
      clear hds hbl hv
      go_upto_if 41 with fail
      have HBw := hide HPl.out.pv.bel
      have HB := hide (HPl.out.box 35 #[.bool wd, .int .i64 s, .int .u64 id, .slice V vs.length cV, .int .u64 tg])
      clear z0 z1 z2 z3 z4 HPl
      generalize World.alloc wr _ = W at *
      generalize wr.heap.size = g at *
      have HN := hide (show n ≤ 1000 from by have := HNum.out.n; omega)
      go_cut [36] (fun i wx => i = .int .i64 k ∧ ∃ (n : Nat) (kn : List Int) (wt bs : List Spt) (v v2 : Value) (Ak Aw Ab : Option Addr) (nk ck nw cw nb cb : Nat), Hid (NumP n (k + 1) kn wt bs nk ck nw cw nb cb) ∧ Hid (PrL w X M Q P mask ef A0 c0 qs gx v v2 n kn wt bs #[.slice Aq nq cq, .int .u64 mask, .int .i64 ef, .slice Ak nk ck, .slice Aw nw cw, .slice Ab nb cb] [] Ak kn Aw wt Ab bs wx))
      case first =>
        rcases wd with _ | _
        · -- it is offered something
          have HV := hide (oldAt HBw.out HB.out.pv.bel HV0.out)
          obtain ⟨bo, hbo⟩ : ∃ b, decide (s ∉ kn) = b := ⟨_, rfl⟩
          have HBo := hide hbo
          clear hbo
          have c0 := (HB.out.x).cell 0; have c1 := (HB.out.x).cell 1; have c2 := (HB.out.x).cell 2; have c3 := (HB.out.x).cell 3; have c4 := (HB.out.x).cell 4; have c5 := (HB.out.x).cell 5; simp at c0 c1 c2 c3 c4 c5
          have y0 := (HB.out.blk (List.mem_cons_self ..)).cell 0; have y1 := (HB.out.blk (List.mem_cons_self ..)).cell 1; have y2 := (HB.out.blk (List.mem_cons_self ..)).cell 2; have y3 := (HB.out.blk (List.mem_cons_self ..)).cell 3; have y4 := (HB.out.blk (List.mem_cons_self ..)).cell 4; simp at y0 y1 y2 y3 y4
          go_upto_region 16 with (go_at_call 9; refine (refOffer_all (R := FrL M Q P v v2 gx W) HB.out.low (HB.out.old HQ.out) HNq.out hcq hcq2 HQI.out HB.out.kr HNum.out.k1 HNum.out.k2 HNum.out.k3 (by have := HNum.out.k4; omega) HB.out.tr HNum.out.w1 HNum.out.w2 HNum.out.w3 (by have := HB.out.pv.lens.1; have := HNum.out.w1; have := HN.out; omega) HB.out.br HNum.out.b1 HNum.out.b2 HNum.out.b3 (by have := HB.out.pv.lens.2.1; have := HNum.out.b1; have := HN.out; omega) (HB.out.oldv HV.out) rfl u1 u2 HO.out.2 HMk.out HBo.out).mono ?_; rintro e w5 ⟨Ak5, nk5, ck5, Aw5, nw5, cw5, Ab5, nb5, cb5, rfl, m1, m2, m3, r1, r2, r3, hb5⟩; have H5 := hide ((((HB.out.step hb5).kr_ (HB.out.grow hb5.size r1)).tr_ (HB.out.grow hb5.size r2)).br_ (HB.out.grow hb5.size r3)); have HM5 := hide (And.intro m1 (And.intro m2 m3)); clear m1 m2 m3 r1 r2 r3 hb5 c0 c1 c2 c3 c4 c5 y0 y1 y2 y3 y4 HB HV)
          have H6 := hide (H5.out.box 31 #[.slice Aq nq cq, .int .u64 mask, .int .i64 ef, .slice Ak5 nk5 ck5, .slice Aw5 nw5 cw5, .slice Ab5 nb5 cb5])
          clear H5
          generalize World.alloc w5 _ = w6 at *
          generalize w5.heap.size = g6 at *
          have c0 := (H6.out.x).cell 0; have c1 := (H6.out.x).cell 1; have c2 := (H6.out.x).cell 2; have c3 := (H6.out.x).cell 3; have c4 := (H6.out.x).cell 4; have c5 := (H6.out.x).cell 5; simp at c0 c1 c2 c3 c4 c5
          have f0 := H6.out.x.frozen 0; have f1 := H6.out.x.frozen 1; have f2 := H6.out.x.frozen 2; have f3 := H6.out.x.frozen 3; have f4 := H6.out.x.frozen 4; have f5 := H6.out.x.frozen 5
          have x0 := (H6.out.blk (List.mem_cons_self ..)).cell 0; have x1 := (H6.out.blk (List.mem_cons_self ..)).cell 1; have x2 := (H6.out.blk (List.mem_cons_self ..)).cell 2; have x3 := (H6.out.blk (List.mem_cons_self ..)).cell 3; have x4 := (H6.out.blk (List.mem_cons_self ..)).cell 4; have x5 := (H6.out.blk (List.mem_cons_self ..)).cell 5; simp at x0 x1 x2 x3 x4 x5
          go_upto_region 17 with fail
          have H7 := hide ((H6.out.all_ rfl (.slice Aq nq cq) (.int .u64 mask) (.int .i64 ef) (.slice Ak5 nk5 ck5) (.slice Aw5 nw5 cw5) (.slice Ab5 nb5 cb5)).drop (bx' := [(g, 35, #[.bool false, .int .i64 s, .int .u64 id, .slice V vs.length cV, .int .u64 tg])]) (fun q hq => List.mem_cons_of_mem _ hq))
          clear c0 c1 c2 c3 c4 c5 f0 f1 f2 f3 f4 f5 x0 x1 x2 x3 x4 x5 H6
          generalize World.setCell (World.setCell (World.setCell (World.setCell (World.setCell (World.setCell w6 _ _) _ _) _ _) _ _) _ _) _ _ = w7 at *
          have HV := hide (oldAt HBw.out H7.out.pv.bel HV0.out)
          have y0 := (H7.out.blk (List.mem_cons_self ..)).cell 0; have y1 := (H7.out.blk (List.mem_cons_self ..)).cell 1; have y2 := (H7.out.blk (List.mem_cons_self ..)).cell 2; have y3 := (H7.out.blk (List.mem_cons_self ..)).cell 3; have y4 := (H7.out.blk (List.mem_cons_self ..)).cell 4; simp at y0 y1 y2 y3 y4
          have hbb : (bo != bo) = false := by simp
          have hbb2 : (bo == bo) = true := by simp
          go_wp2_with (first
            | (go_at_call 10; refine (vOfferB H7.out.pv HN.out HO.out.1 id tg V vs.length cV vs ((H7.out.oldv HV.out).more fun d hd => hd.1) rfl u1 u2 HO.out.2 HQI.out HBo.out).mono ?_; rintro e w8 ⟨rfl, v8, v82, hp8, ht8⟩; have H8 := hide (H7.out.turn hp8 ht8); clear hp8 ht8 y0 y1 y2 y3 y4 H7 HV; have y0 := (H8.out.blk (List.mem_cons_self ..)).cell 0; have y1 := (H8.out.blk (List.mem_cons_self ..)).cell 1; have y2 := (H8.out.blk (List.mem_cons_self ..)).cell 2; have y3 := (H8.out.blk (List.mem_cons_self ..)).cell 3; have y4 := (H8.out.blk (List.mem_cons_self ..)).cell 4; simp at y0 y1 y2 y3 y4)
            | (go_at_call 11; refine (vKnowsE H8.out.pv HO.out.1 (b := true) (mem_offKn kn s)).mono ?_; rintro e _ ⟨rfl, rfl⟩))
          go_meet
          case rel => exact ⟨rfl, n + 1, offKn kn s, offWt kn wt ((distOf qs vs, id), s), offBs (mostB ef) (hasB mask tg) kn bs ((distOf qs vs, id), s), v8, v82, Ak5, Aw5, Ab5, nk5, ck5, nw5, cw5, nb5, cb5, hide ⟨by have := HNum.out.n; omega, HM5.out.1.1, HM5.out.1.2.1, HM5.out.1.2.2, by have := HNum.out.k4; have := HNum.out.k1; have := offKn_len kn s; have := HM5.out.1.1; omega, HM5.out.2.1.1, HM5.out.2.1.2.1, HM5.out.2.1.2.2, HM5.out.2.2.1, HM5.out.2.2.2.1, HM5.out.2.2.2.2⟩, hide (H8.out.drop (bx' := []) (fun q hq => by simp at hq))⟩
        · -- it is asked
          rcases hdn : doneR (mostB ef) wt bs with _ | _
          · have HDn := hide hdn
            clear hdn
            obtain ⟨sl, hsl⟩ : ∃ x, (fstS wt).2 = x := ⟨_, rfl⟩
            have HSl := hide hsl
            have CR := hide (refWant_more (Aq := Aq) (nq := nq) (cq := cq) (mask := mask) (Ak := Ak) (nk := nk) (ck := ck) HB.out.low HB.out.tr HNum.out.w1 HNum.out.w2 HNum.out.w3 HB.out.br HNum.out.b1 HNum.out.b2 HNum.out.b3 HDn.out)
            rw [hsl] at CR
            clear hsl
            have c0 := (HB.out.x).cell 0; have c1 := (HB.out.x).cell 1; have c2 := (HB.out.x).cell 2; have c3 := (HB.out.x).cell 3; have c4 := (HB.out.x).cell 4; have c5 := (HB.out.x).cell 5; simp at c0 c1 c2 c3 c4 c5
            go_upto_region 11 with (go_at_call 7; refine CR.out.mono ?_; rintro e w5 ⟨Aw5, cw5, rfl, m1, m2, r1, hb5⟩; have H5 := hide ((HB.out.step hb5).tr_ (HB.out.grow hb5.size r1)); clear r1 hb5 c0 c1 c2 c3 c4 c5 CR HB)
            have H6 := hide (H5.out.box 31 #[.slice Aq nq cq, .int .u64 mask, .int .i64 ef, .slice Ak nk ck, .slice Aw5 (nw - 1) cw5, .slice Ab nb cb])
            clear H5
            generalize World.alloc w5 _ = w6 at *
            generalize w5.heap.size = g6 at *
            have c0 := (H6.out.x).cell 0; have c1 := (H6.out.x).cell 1; have c2 := (H6.out.x).cell 2; have c3 := (H6.out.x).cell 3; have c4 := (H6.out.x).cell 4; have c5 := (H6.out.x).cell 5; simp at c0 c1 c2 c3 c4 c5
            have f0 := H6.out.x.frozen 0; have f1 := H6.out.x.frozen 1; have f2 := H6.out.x.frozen 2; have f3 := H6.out.x.frozen 3; have f4 := H6.out.x.frozen 4; have f5 := H6.out.x.frozen 5
            have x0 := (H6.out.blk (List.mem_cons_self ..)).cell 0; have x1 := (H6.out.blk (List.mem_cons_self ..)).cell 1; have x2 := (H6.out.blk (List.mem_cons_self ..)).cell 2; have x3 := (H6.out.blk (List.mem_cons_self ..)).cell 3; have x4 := (H6.out.blk (List.mem_cons_self ..)).cell 4; have x5 := (H6.out.blk (List.mem_cons_self ..)).cell 5; simp at x0 x1 x2 x3 x4 x5
            go_upto_region 12 with fail
            have H7 := hide ((H6.out.all_ rfl (.slice Aq nq cq) (.int .u64 mask) (.int .i64 ef) (.slice Ak nk ck) (.slice Aw5 (nw - 1) cw5) (.slice Ab nb cb)).drop (bx' := [(g, 35, #[.bool true, .int .i64 s, .int .u64 id, .slice V vs.length cV, .int .u64 tg])]) (fun q hq => List.mem_cons_of_mem _ hq))
            clear c0 c1 c2 c3 c4 c5 f0 f1 f2 f3 f4 f5 x0 x1 x2 x3 x4 x5 H6
            generalize World.setCell (World.setCell (World.setCell (World.setCell (World.setCell (World.setCell w6 _ _) _ _) _ _) _ _) _ _) _ _ = w7 at *
            have hs1 : (sl != sl) = false := by simp
            have hs2 : (sl == sl) = true := by simp
            go_wp2_with (go_at_call 8; refine (vWant_moreE H7.out.pv HN.out HDn.out HSl.out).mono ?_; rintro e w8 ⟨rfl, v8, hp8, ht8⟩; have H8 := hide (H7.out.turn hp8 ht8); clear hp8 ht8 H7)
            go_meet
            case rel => exact ⟨rfl, n, kn, wt.drop 1, bs, v8, v2, Ak, Aw5, Ab, nk, ck, nw - 1, cw5, nb, cb, hide ⟨by have := HNum.out.n; omega, HNum.out.k1, HNum.out.k2, HNum.out.k3, by have := HNum.out.k4; omega, by rw [List.length_drop, HNum.out.w1], m1, m2, HNum.out.b1, HNum.out.b2, HNum.out.b3⟩, hide (H8.out.drop (bx' := []) (fun q hq => by simp at hq))⟩
          · have HDn := hide hdn
            clear hdn
            have c0 := (HB.out.x).cell 0; have c1 := (HB.out.x).cell 1; have c2 := (HB.out.x).cell 2; have c3 := (HB.out.x).cell 3; have c4 := (HB.out.x).cell 4; have c5 := (HB.out.x).cell 5; simp at c0 c1 c2 c3 c4 c5
            go_upto_region 11 with (go_at_call 7; refine (refWant_done HB.out.low HB.out.tr HNum.out.w1 HNum.out.w2 HNum.out.w3 HB.out.br HNum.out.b1 HNum.out.b2 HNum.out.b3 HDn.out).mono ?_; rintro e w5 ⟨rfl, hb5⟩; have H5 := hide (HB.out.step hb5); clear hb5 c0 c1 c2 c3 c4 c5 HB)
            have H6 := hide (H5.out.box 31 #[.slice Aq nq cq, .int .u64 mask, .int .i64 ef, .slice Ak nk ck, .slice Aw nw cw, .slice Ab nb cb])
            clear H5
            generalize World.alloc w5 _ = w6 at *
            generalize w5.heap.size = g6 at *
            have c0 := (H6.out.x).cell 0; have c1 := (H6.out.x).cell 1; have c2 := (H6.out.x).cell 2; have c3 := (H6.out.x).cell 3; have c4 := (H6.out.x).cell 4; have c5 := (H6.out.x).cell 5; simp at c0 c1 c2 c3 c4 c5
            have f0 := H6.out.x.frozen 0; have f1 := H6.out.x.frozen 1; have f2 := H6.out.x.frozen 2; have f3 := H6.out.x.frozen 3; have f4 := H6.out.x.frozen 4; have f5 := H6.out.x.frozen 5
            have x0 := (H6.out.blk (List.mem_cons_self ..)).cell 0; have x1 := (H6.out.blk (List.mem_cons_self ..)).cell 1; have x2 := (H6.out.blk (List.mem_cons_self ..)).cell 2; have x3 := (H6.out.blk (List.mem_cons_self ..)).cell 3; have x4 := (H6.out.blk (List.mem_cons_self ..)).cell 4; have x5 := (H6.out.blk (List.mem_cons_self ..)).cell 5; simp at x0 x1 x2 x3 x4 x5
            go_upto_region 12 with fail
            have H7 := hide ((H6.out.all_ rfl (.slice Aq nq cq) (.int .u64 mask) (.int .i64 ef) (.slice Ak nk ck) (.slice Aw nw cw) (.slice Ab nb cb)).drop (bx' := [(g, 35, #[.bool true, .int .i64 s, .int .u64 id, .slice V vs.length cV, .int .u64 tg])]) (fun q hq => List.mem_cons_of_mem _ hq))
            clear c0 c1 c2 c3 c4 c5 f0 f1 f2 f3 f4 f5 x0 x1 x2 x3 x4 x5 H6
            generalize World.setCell (World.setCell (World.setCell (World.setCell (World.setCell (World.setCell w6 _ _) _ _) _ _) _ _) _ _) _ _ = w7 at *
            go_wp2_with (go_at_call 8; refine (vWant_done H7.out.pv HN.out HDn.out).mono ?_; rintro e w8 ⟨rfl, hp8, ht8⟩; have H8 := hide (H7.out.turn hp8 ht8); clear hp8 ht8 H7)
            go_meet
            case rel => exact ⟨rfl, n, kn, wt, bs, v, v2, Ak, Aw, Ab, nk, ck, nw, cw, nb, cb, hide ⟨by have := HNum.out.n; omega, HNum.out.k1, HNum.out.k2, HNum.out.k3, by have := HNum.out.k4; omega, HNum.out.w1, HNum.out.w2, HNum.out.w3, HNum.out.b1, HNum.out.b2, HNum.out.b3⟩, hide (H8.out.drop (bx' := []) (fun q hq => by simp at hq))⟩
      case rest =>
        obtain ⟨rfl, n, kn, wt, bs, v, v2, Ak, Aw, Ab, nk, ck, nw, cw, nb, cb, HNum, HB⟩ := hcut
        have HN := hide (show n ≤ 1000 from by have := HNum.out.n; omega)
        have CW := hide (fun W (h : PrL w X M Q P mask ef A0 c0 qs gx v v2 n kn wt bs #[.slice Aq nq cq, .int .u64 mask, .int .i64 ef, .slice Ak nk ck, .slice Aw nw cw, .slice Ab nb cb] [] Ak kn Aw wt Ab bs W) => vWaitsE h.pv (z := (nw : Int)) (by rw [HNum.out.w1]))
        have CF := hide (fun W (h : PrL w X M Q P mask ef A0 c0 qs gx v v2 n kn wt bs #[.slice Aq nq cq, .int .u64 mask, .int .i64 ef, .slice Ak nk ck, .slice Aw nw cw, .slice Ab nb cb] [] Ak kn Aw wt Ab bs W) => vFoundE h.pv HN.out HNum.out.b1)
        have CS := hide (fun W A9 c9 (h : PrL w X M Q P mask ef A0 c0 qs gx v v2 n kn wt bs #[.slice Aq nq cq, .int .u64 mask, .int .i64 ef, .slice Ak nk ck, .slice Aw nw cw, .slice Ab nb cb] [] Ak kn Aw wt Ab bs W) (hr : RdR SP W (Btw 0 W.heap.size) A9 bs) (q1 : nb ≤ c9) (q2 : c9 ≤ 9223372036854775807) => sameB A9 Ab nb c9 cb bs W (hr.rd fun d hd => hd.2) HNum.out.b1 q1 q2 (h.br.rd h.low) HNum.out.b2 HNum.out.b3)
        go_upto_region 19 with fail
        refine startO (S := (fun W => PrL w X M Q P mask ef A0 c0 qs gx v v2 n kn wt bs #[.slice Aq nq cq, .int .u64 mask, .int .i64 ef, .slice Ak nk ck, .slice Aw nw cw, .slice Ab nb cb] [] Ak kn Aw wt Ab bs W)) 14 (by as_aux_lemma => kernel_rfl) (by as_aux_lemma => kernel_rfl) (HB.out.step (Below.refl _ _).drew) (fun hHeld => ?_)
        clear HB
        generalize World.drew _ = Wd at *
        refine putsO [0] [0] [(87, .pointer (some ⟨X, 0, none⟩))] 1 rfl [87] (by as_aux_lemma => kernel_rfl) (by as_aux_lemma => kernel_rfl) rfl (fun _ _ _ _ _ h => h) hHeld ?_
        refine takeO 2 89 (.fieldAddr 31 (.const (.pointer (some ⟨gx, 0, none⟩))) 4) 0 (.pointer (some ⟨gx, 4, none⟩)) (by as_aux_lemma => kernel_rfl) (by as_aux_lemma => kernel_rfl) (by as_aux_lemma => kernel_rfl) (fun _ _ _ _ _ h => h) (fun W hS => by clear hS hHeld; unfold cEv opC; as_aux_lemma => first | (go_simp; done) | (go_simp <;> rfl)) hHeld ?_
        refine takeO 3 90 (.load 29 (.const (.pointer (some ⟨gx, 4, none⟩)))) 29 (.slice Aw nw cw) (by as_aux_lemma => kernel_rfl) (by as_aux_lemma => kernel_rfl) (by as_aux_lemma => kernel_rfl) (fun _ _ _ _ _ h => h) (fun W hS => by have z4 := hS.x.cell 4; have z5 := hS.x.cell 5; simp at z4 z5; clear hS hHeld; unfold cEv opC; as_aux_lemma => first | (go_simp; done) | (go_simp <;> rfl)) hHeld ?_
        refine takeO 4 91 (.call { callee := .builtin .len, args := #[.const (.slice Aw nw cw)], argTypes := #[29] }) 3 (.int .i64 nw) (by as_aux_lemma => kernel_rfl) (by as_aux_lemma => kernel_rfl) (by as_aux_lemma => kernel_rfl) (fun _ _ _ _ _ h => h) (fun W hS => by clear hS hHeld; unfold cEv opC; as_aux_lemma => first | (go_simp; done) | (go_simp <;> rfl)) hHeld ?_
        refine readyO [1] (by as_aux_lemma => kernel_rfl) (by simp) ?_
        refine callO 1 88 (.call { callee := .value (.func 12), args := #[.const (.pointer (some ⟨X, 0, none⟩))], argTypes := #[26] }) 3 12 #[.pointer (some ⟨X, 0, none⟩)] (by as_aux_lemma => kernel_rfl) (by as_aux_lemma => kernel_rfl) (by unfold cEv opC; go_simp) ?_ AllReadyH.nil
        refine (CW.out _ hHeld).mono ?_
        rintro e _ ⟨rfl, rfl⟩
        refine ⟨_, rfl, hHeld, fun hHeld2 => ?_⟩
        clear hHeld
        have hHeld := hHeld2
        clear hHeld2
        refine takeO 5 92 (.binOp .neq 3 (.const (.int .i64 nw)) (.const (.int .i64 nw)) 3) 4 (.bool false) (by as_aux_lemma => kernel_rfl) (by as_aux_lemma => kernel_rfl) (by as_aux_lemma => kernel_rfl) (fun _ _ _ _ _ h => h) (fun W hS => by clear hS hHeld; unfold cEv opC; as_aux_lemma => first | (go_simp; done) | (go_simp <;> rfl)) hHeld ?_
        refine putsO [6, 7] [7, 6] [(94, .pointer (some ⟨X, 0, none⟩)), (93, .bool false)] 2 rfl [93, 94] (by as_aux_lemma => kernel_rfl) (by as_aux_lemma => kernel_rfl) rfl (fun _ _ _ _ _ h => h) hHeld ?_
        refine takeO 9 96 (.fieldAddr 31 (.const (.pointer (some ⟨gx, 0, none⟩))) 5) 0 (.pointer (some ⟨gx, 5, none⟩)) (by as_aux_lemma => kernel_rfl) (by as_aux_lemma => kernel_rfl) (by as_aux_lemma => kernel_rfl) (fun _ _ _ _ _ h => h) (fun W hS => by clear hS hHeld; unfold cEv opC; as_aux_lemma => first | (go_simp; done) | (go_simp <;> rfl)) hHeld ?_
        refine takeO 10 97 (.load 29 (.const (.pointer (some ⟨gx, 5, none⟩)))) 29 (.slice Ab nb cb) (by as_aux_lemma => kernel_rfl) (by as_aux_lemma => kernel_rfl) (by as_aux_lemma => kernel_rfl) (fun _ _ _ _ _ h => h) (fun W hS => by have z4 := hS.x.cell 4; have z5 := hS.x.cell 5; simp at z4 z5; clear hS hHeld; unfold cEv opC; as_aux_lemma => first | (go_simp; done) | (go_simp <;> rfl)) hHeld ?_
        refine readyO [8] (by as_aux_lemma => kernel_rfl) (by simp) ?_
        refine callO 8 95 (.call { callee := .value (.func 14), args := #[.const (.pointer (some ⟨X, 0, none⟩))], argTypes := #[26] }) 29 14 #[.pointer (some ⟨X, 0, none⟩)] (by as_aux_lemma => kernel_rfl) (by as_aux_lemma => kernel_rfl) (by unfold cEv opC; go_simp) ?_ AllReadyH.nil
        refine (CF.out _ hHeld).mono ?_
        rintro e wf ⟨A9, c9, rfl, q1, q2, hr, hbf⟩
        refine ⟨_, rfl, (hHeld.step hbf), fun hHeld2 => ?_⟩
        clear hHeld
        have hHeld := hHeld2
        clear hHeld2
        have HR := hide (hr.more (R' := Btw 0 wf.heap.size) fun d hd => ⟨Nat.zero_le _, hd.2⟩)
        clear hr hbf
        refine readyO [11] (by as_aux_lemma => kernel_rfl) (by simp) ?_
        refine callO 11 98 (.call { callee := .value (.func 13), args := #[.const (.slice A9 nb c9), .const (.slice Ab nb cb)], argTypes := #[29, 29] }) 4 13 #[.slice A9 nb c9, .slice Ab nb cb] (by as_aux_lemma => kernel_rfl) (by as_aux_lemma => kernel_rfl) (by unfold cEv opC; go_simp) ?_ AllReadyH.nil
        refine (CS.out _ A9 c9 hHeld HR.out q1 q2).mono ?_
        rintro e wg ⟨rfl, hbg⟩
        refine ⟨_, rfl, (hHeld.step hbg), fun hHeld2 => ?_⟩
        clear hHeld
        have hHeld := hHeld2
        clear hHeld2
        clear hbg HR
        refine putsO [12, 13] [13, 12] [(100, .bool false), (99, .bool false)] 2 rfl [99, 100] (by as_aux_lemma => kernel_rfl) (by as_aux_lemma => kernel_rfl) rfl (fun _ _ _ _ _ h => h) hHeld ?_
        refine doneO [(87, .pointer (some ⟨X, 0, none⟩)), (0, .int .i64 nw), (0, .pointer (some ⟨gx, 4, none⟩)), (0, .slice Aw nw cw), (0, .int .i64 nw), (0, .bool false), (0, .bool false), (0, .pointer (some ⟨X, 0, none⟩)), (0, .slice A9 nb c9), (0, .pointer (some ⟨gx, 5, none⟩)), (0, .slice Ab nb cb), (0, .bool true), (0, .bool false), (0, .bool false)] (by as_aux_lemma => kernel_rfl) (by as_aux_lemma => kernel_rfl) ?_
        simp only [fillG]
        have HPn := hide hHeld
        clear hHeld
        go_wp2
        go_roundw
        case rel => exact ⟨k + 1, n, kn, wt, bs, v, v2, Ak, Aw, Ab, nk, ck, nw, cw, nb, cb, by omega, by go_num, HNum, HPn⟩
        case measure => simp [intOf]; omega
    · obtain rfl : len = k := by omega
      have hkl : ¬ ((len : Int) < len) := by omega
      go_wp2_with (go_at_call 5; refine (lives_any _).mono ?_; rintro e w9 ⟨rfl, hb⟩; have HB9 := hide (Below.step HPl.out.pv.bel hb); clear hb)
      go_ret
      exact ⟨rfl, HB9.out⟩
end Go.Proofs.Ytphbdffgeeicaaa
