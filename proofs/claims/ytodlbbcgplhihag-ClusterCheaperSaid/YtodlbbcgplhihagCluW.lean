/-
  The document's clusters: members, costs. Conditions: the slices read as lists of int32s, not too many.
-/
import Derived.Test.YtodlbbcgplhihagCluV
namespace Go.Proofs.Ytodlbbcgplhihag
open Go.RowKit

/-- a list of lists that may lie anywhere -/
def GivesLL (w : World) (xss : List (List Int)) (e : Ending) (w' : World) : Prop := ∃ A n c, e = .returned (.slice A n c) ∧ xss.length = n ∧ n ≤ c ∧ c ≤ 9223372036854775807 ∧ LL w' w'.heap.size A xss ∧ Below w.heap.size w w'
set_option maxHeartbeats 2000000 in
theorem refMembers_any (A B : Option Addr) (n c m d : Nat) (l cs : List (List Int)) (g : Nat) (w : World) (hx : LL w w.heap.size A l) (hn : l.length = n) (hc : n ≤ c) (hm : c ≤ 9223372036854775807) (hi : ∀ v ∈ l, I32 v)
    (hy : LL w w.heap.size B cs) (hn' : cs.length = m) (hyi : ∀ u ∈ cs, I32 u) (hd : m ≤ d) (hm' : d ≤ 9223372036854775807) (h6 : n ≤ 1000000) :
    Calls Try.prog 31 #[.slice A n c, .slice B m d, .int .i64 g] w (GivesLL w (memb l cs g)) := by
  have HX := hide hx
  have HY := hide hy
  have HI := hide hi
  have HYI := hide hyi
  have Hn := hide hn
  have Hm := hide hn'
  obtain ⟨hs, hh1, hh2⟩ := LL.hdrs hx
  have HH := hide hh1
  have HC := hide hh2
  clear hx hy hi hyi hn hn' hh1 hh2
  go_enter Try.func31, Try.ntmps31
  go_wp2
  go_loopw [7, 12] (fun v i wr => ∃ k : Nat, k ≤ n ∧ i = .int .i64 k ∧ Hid (wr.ownsRow w.heap.size 27 1 v (ofGroup l cs g k).length ((ofGroup l cs g k).map (hdAt hs))) ∧ Hid (Below w.heap.size w wr)) (fun _ i _ => n - (intOf i).toNat)
  case atStart => exact ⟨0, by omega, rfl, hide ⟨rfl, .inl ⟨rfl, rfl⟩⟩, hide (Below.refl _ _)⟩
  case round =>
    obtain ⟨k, hk, rfl, hO, hB⟩ := hrel
    by_cases hlt : k < n
    · have hkl : k < l.length := by have := Hn.out; omega
      have hgl : k < hs.length := by rw [HH.out.1]; exact hkl
      obtain ⟨ad, rfl, hbA, cA⟩ := HC.out k (hs[k]) (List.getElem?_eq_getElem hgl)
      have hd1 : hdAt hs k = hs[k] := by simp [hdAt, List.getD_eq_getElem?_getD, hgl]
      have hv : l[k]? = some (cAt l k) := by simp [cAt, List.getD_eq_getElem?_getD, hkl]
      obtain ⟨A', c', hA', a1, a2, a3⟩ := HH.out.2 k (cAt l k) hv
      have hd2 : hs[k] = .slice A' (cAt l k).length c' := by rw [List.getElem?_eq_getElem hgl] at hA'; injection hA'
      rw [hd2] at cA hd1
      have HD := hide hd1
      have hvi := hide (i32_get HI.out hv)
      have q0 : wr.cell? (ad.add k) = some (.slice A' (cAt l k).length c') := (hB.out.cell (by rw [block_of_add]; exact hbA)).trans cA
      have HG := hide (refGroup_any A' B (cAt l k).length c' m d (cAt l k) cs wr (show I32s wr wr.heap.size A' (cAt l k) from ((a3.rd (B := w.heap.size) fun b hb => hb).below hB.out (Nat.le_refl _)).more hB.out.size) rfl hvi.out a1 a2 (HY.out.at_world hB.out) Hm.out HYI.out hd hm')
      have hnY := hide (fun h : best (cAt l k) cs = g => (show ofGroup l cs g (k + 1) = ofGroup l cs g k ++ [k] by rw [ofGroup_next, if_pos h]))
      have hnN := hide (fun h : best (cAt l k) cs ≠ g => (show ofGroup l cs g (k + 1) = ofGroup l cs g k by rw [ofGroup_next, if_neg h, List.append_nil]))
      have hol := ofGroup_len l cs g k
      have g0 : (0 : Int) ≤ k := by omega
      have g1 : (k : Int) < n := by omega
      clear hv a3 hA' hd2 cA hd1
      generalize hlv : (cAt l k).length = lv at *
      generalize best (cAt l k) cs = q at *
      clear hlv
      by_cases hqg : q = g
      · subst hqg
        have hbb : ((q : Int) == q) = true := by simp
        go_wp2_with (first
          | (go_at_call 28; refine HG.out.mono ?_; rintro e w4 ⟨rfl, hd4⟩; have HO4 := hide (own_keep hO.out fun g hg => hd4.below.block g (hO.out.lt g hg).2); have HB4 := hide (Below.step hB.out hd4.below); clear hd4)
          | (at_builtin; refine wpList_append_elem rfl _ _ 22 rfl w.heap.size Try.underlying22 info_sl rfl (by decide) _ _ _ rfl HO4.out _ _ rfl rfl (by simp [Value.oneCell']) (by simp only [maxLen]; omega) (by omega) HB4.out.size ?_; intro v' w9 hown9 hgr9 hat9; have HO9 := hide hown9; have HB9 := hide (below_own HB4.out HO4.out HB4.out.size hgr9); clear hown9 hgr9 hat9))
        go_roundw
        case rel => exact ⟨k + 1, by omega, by go_num, hide (by rw [hnY.out (by first | rfl | trivial), List.length_append, List.map_append]; have := HO9.out; simpa [HD.out] using this), HB9⟩
        case measure => simp [intOf]; omega
      · have hbb : ((q : Int) == g) = false := by rw [beq_eq_false_iff_ne]; omega
        go_wp2_with (first
          | (go_at_call 28; refine HG.out.mono ?_; rintro e w4 ⟨rfl, hd4⟩; have HO4 := hide (own_keep hO.out fun g hg => hd4.below.block g (hO.out.lt g hg).2); have HB4 := hide (Below.step hB.out hd4.below); clear hd4))
        go_roundw
        case rel => exact ⟨k + 1, by omega, by go_num, hide (by rw [hnN.out hqg]; exact HO4.out), HB4⟩
        case measure => simp [intOf]; omega
    · obtain rfl : n = k := by omega
      have hl : (ofGroup l cs g n).length = (memb l cs g).length := by rw [← ofGroup_memb, Hn.out]; simp
      obtain ⟨A9, c9, rfl, o1, o2⟩ := own_form hO.out
      have hp := HH.out.pick (ofGroup l cs g n) (fun j hj => by rw [Hn.out]; exact ofGroup_lt hj)
      have hpm : (ofGroup l cs g n).map (cAt l) = memb l cs g := by rw [← ofGroup_memb, Hn.out]
      rw [hpm] at hp
      have hr := hide ((((hp.keep fun b hb' => hB.out.block b hb').more fun b hb' => Nat.lt_of_lt_of_le hb' hB.out.size) : HdR .i32 wr (fun b => b < wr.heap.size) _ _).own hO.out fun b _ hb' => hb')
      have HL := hide hl
      clear hp hl hpm
      go_wp2
      go_ret
      exact ⟨A9, _, c9, rfl, HL.out.symm, o1, o2, hr.out, hB.out⟩

set_option maxHeartbeats 2000000 in
theorem refCost_any (A B : Option Addr) (n c m d : Nat) (l cs : List (List Int)) (w : World) (hx : LL w w.heap.size A l) (hn : l.length = n) (hc : n ≤ c) (hm : c ≤ 9223372036854775807) (hi : ∀ v ∈ l, I32 v)
    (hy : LL w w.heap.size B cs) (hn' : cs.length = m) (hyi : ∀ u ∈ cs, I32 u) (hd : m ≤ d) (hm' : d ≤ 9223372036854775807) (h6 : n ≤ 1000000) :
    Calls Try.prog 16 #[.slice A n c, .slice B m d] w fun e w' => e = .returned (.int .u64 (costOf l cs)) ∧ Below w.heap.size w w' := by
  have HX := hide hx
  have HY := hide hy
  have HI := hide hi
  have HYI := hide hyi
  have Hn := hide hn
  have Hm := hide hn'
  have HE : Hid (costOf l cs = held (partTo l cs m)) := hide (by
    unfold costOf
    by_cases h : cs = []
    · subst h; rw [if_pos rfl]; have : m = 0 := by rw [← hn']; rfl
      subst this; rfl
    · rw [if_neg h, ← hn', part_cost _ _ h])
  have HZ := hide (show held (partTo l cs 0) = 0 from rfl)
  clear hx hy hi hyi hn hn'
  go_enter Try.func16, Try.ntmps16
  go_wp2
  go_loopw [5, 10] (fun s i wr => ∃ k : Nat, k ≤ m ∧ i = .int .i64 k ∧ s = .int .u64 (held (partTo l cs k)) ∧ Hid (Below w.heap.size w wr)) (fun _ i _ => m - (intOf i).toNat)
  case atStart => exact ⟨0, by omega, rfl, by rw [HZ.out], hide (Below.refl _ _)⟩
  case round =>
    obtain ⟨k, hk, rfl, rfl, hB⟩ := hrel
    by_cases hlt : k < m
    · obtain ⟨ad', u, A', c', rfl, _, hu, q0, q1, q2, q3⟩ := (HY.out.below hB.out (Nat.le_refl _)).slc (k := k) (by have := Hm.out; omega)
      have hui := hide (i32_get HYI.out hu)
      have HQ := hide (show I32s wr wr.heap.size A' u from q3.more hB.out.size)
      have HM := hide (refMembers_any A (some ad') n c m d l cs k wr (HX.out.at_world hB.out) Hn.out hc hm HI.out (HY.out.at_world hB.out) Hm.out HYI.out hd hm' h6)
      have hnx := hide (show addH (held (partTo l cs k)) (held (farOf (memb l cs k) u)) = held (partTo l cs (k + 1)) by
        rw [addH_held2 (partTo_nonneg _ _ _) (by rw [farOf_sum]; exact farSum_nonneg _ _)]; simp only [partTo]; rw [cAt_of hu, farOf_sum])
      have Hgi := hide (memb_i32 (cs := cs) (i := k) HI.out)
      have f0 := held_lt (show 0 ≤ farOf (memb l cs k) u by rw [farOf_sum]; exact farSum_nonneg _ _)
      have p0 := held_lt (partTo_nonneg l cs k)
      have HF0 := hide f0
      have HP0 := hide p0
      have g0 : (0 : Int) ≤ k := by omega
      have g1 : (k : Int) < m := by omega
      clear hu q3 f0 p0
      go_wp2_with (first
        | (go_at_call 31; refine HM.out.mono ?_; rintro e w4 ⟨A4, n4, c4, rfl, l4, a1, a2, R4, b4⟩; have L4 := hide l4; have RR4 := hide R4; have B4 := hide b4; clear l4 R4 b4)
        | (go_at_call 30; refine (refSum_any A4 A' n4 c4 u.length c' (memb l cs k) u _ RR4.out L4.out a1 a2 Hgi.out (HQ.out.at_world B4.out) rfl hui.out q1 q2).mono ?_; rintro e _ ⟨rfl, rfl⟩)
        | (go_at_call 29; refine (refAdd_any _ _ _ HP0.out.1 HP0.out.2 HF0.out.1 HF0.out.2).mono ?_; rintro e _ ⟨rfl, rfl⟩))
      go_roundw
      case rel => exact ⟨k + 1, by omega, by go_num, by rw [hnx.out], hide (Below.step hB.out B4.out)⟩
      case measure => simp [intOf]; omega
    · obtain rfl : m = k := by omega
      go_wp2
      go_ret
      exact ⟨by rw [HE.out]; rfl, hB.out⟩

/-- the centers that are laid so far, one behind the other -/
structure OutR (w wr : World) (v : Value) (k : Nat) (hs : List Value) (xss : List (List Int)) : Prop where
  own : wr.ownsRow w.heap.size 27 1 v k hs
  hd : HdR .i32 wr (fun b => w.heap.size ≤ b ∧ b < wr.heap.size ∧ some b ≠ v.ownBlock) hs xss
  hb : Below w.heap.size w wr
section
variable {w wr wr' : World} {v : Value} {k : Nat} {hs : List Value} {xss : List (List Int)}
theorem OutR.start (w : World) : OutR w w (.slice none 0 0) 0 [] [] := ⟨⟨rfl, .inl ⟨rfl, rfl⟩⟩, HdR.nil, Below.refl _ _⟩
theorem OutR.below (h : OutR w wr v k hs xss) (hb : Below wr.heap.size wr wr') : OutR w wr' v k hs xss :=
  ⟨own_keep h.own fun g hg => hb.block g (h.own.lt g hg).2, (h.hd.keep fun b hb' => hb.block b hb'.2.1).more fun b hb' => ⟨hb'.1, Nat.lt_of_lt_of_le hb'.2.1 hb.size, hb'.2.2⟩, Below.step h.hb hb⟩
theorem OutR.push (h : OutR w wr v k hs xss) {A : Option Addr} {n c : Nat} {xs : List Int} (hl : xs.length = n) (hc : n ≤ c) (hm : c ≤ 9223372036854775807) (hr : RdR (Sh.int .i32) wr (fun b => w.heap.size ≤ b ∧ b < wr.heap.size ∧ some b ≠ v.ownBlock) A xs)
    {v' : Value} (ho : wr'.ownsRow w.heap.size 27 1 v' (k + 1) (hs ++ [.slice A n c])) (hg : wr.grownBy wr' v.ownBlock) (hat : v'.ownBlock = v.ownBlock ∨ v'.ownBlock = some (wr.heap.size + 1)) :
    OutR w wr' v' (k + 1) (hs ++ [.slice A n c]) (xss ++ [xs]) := by
  refine ⟨ho, ?_, below_own h.hb h.own h.hb.size hg⟩
  refine ((h.hd.snoc hl hc hm hr).keep fun b hb' => hg.block b hb'.2.1 hb'.2.2).more fun b hb' => ⟨hb'.1, Nat.lt_of_lt_of_le hb'.2.1 hg.size, ?_⟩
  rcases hat with e | e
  · rw [e]; exact hb'.2.2
  · rw [e]; intro e'; injection e' with e'; have := hb'.2.1; omega
theorem OutR.fresh (h : OutR w wr v k hs xss) (hb : Below wr.heap.size wr wr') {A : Option Addr} {xs : List Int} (hr : RdR (Sh.int .i32) wr' (Btw wr.heap.size wr'.heap.size) A xs) : RdR (Sh.int .i32) wr' (fun b => w.heap.size ≤ b ∧ b < wr'.heap.size ∧ some b ≠ v.ownBlock) A xs :=
  hr.more fun b hb' => ⟨Nat.le_trans h.hb.size hb'.1, hb'.2, fun e => by have := (h.own.lt b e.symm).2; have := hb'.1; omega⟩
theorem OutR.gives (h : OutR w wr v k hs xss) : NewLists .i32 w xss v wr := by
  obtain ⟨A, c, rfl, h1, h2⟩ := own_form h.own
  have hl : xss.length = k := by rw [← h.hd.1]; simpa using h.own.1
  exact ⟨A, k, c, rfl, hl, h1, h2, (h.hd.more (R' := Btw w.heap.size wr.heap.size) fun b hb' => ⟨hb'.1, hb'.2.1⟩).own h.own fun b hb1 hb2 => ⟨hb1, hb2⟩, h.hb⟩
end
end Go.Proofs.Ytodlbbcgplhihag
