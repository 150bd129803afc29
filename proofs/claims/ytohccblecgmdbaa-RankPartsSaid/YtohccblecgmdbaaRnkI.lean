/-
  The package rank: Rising, and the reference's. Conditions: the slice reads as a list of hits.
-/
import Derived.Test.YtohccblecgmdbaaRnkC
import Derived.Deep.RegionHeld3
namespace Go.Proofs.Ytohccblecgmdbaa
open Go.RowKit

/-- each one is ahead of the next -/
def ris : List Hit → Bool
  | x :: y :: l => hitLt x y && ris (y :: l)
  | _ => true
theorem ris_iff (l : List Hit) : ris l = true ↔ ∀ k x y, l[k]? = some x → l[k + 1]? = some y → hitLt x y = true := by
  induction l with
  | nil => simp [ris]
  | cons a l ih =>
    cases l with
    | nil => simp [ris]
    | cons b l =>
      rw [ris, Bool.and_eq_true, ih]
      constructor
      · rintro ⟨h1, h2⟩ k x y hx hy
        rcases k with _ | k
        · simp at hx hy; subst hx hy; exact h1
        · exact h2 k x y (by simpa using hx) (by simpa using hy)
      · intro h
        exact ⟨h 0 a b rfl rfl, fun k x y hx hy => h (k + 1) x y (by simpa using hx) (by simpa using hy)⟩
theorem ris_no {l : List Hit} {k : Nat} {x y : Hit} (hx : l[k]? = some x) (hy : l[k + 1]? = some y) (h : hitLt x y = false) : ris l = false := by
  cases e : ris l with
  | false => rfl
  | true => have := (ris_iff l).1 e k x y hx hy; rw [h] at this; cases this
def RisTo (l : List Hit) (n : Nat) : Prop := ∀ k x y, k + 1 < n → l[k]? = some x → l[k + 1]? = some y → hitLt x y = true
theorem RisTo.one (l : List Hit) : RisTo l 1 := fun k x y h => by omega
theorem RisTo.none (l : List Hit) : RisTo l 0 := fun k x y h => by omega
theorem RisTo.next {l : List Hit} {k : Nat} {x y : Hit} (h : RisTo l (k + 1)) (hx : l[k]? = some x) (hy : l[k + 1]? = some y) (e : hitLt x y = true) : RisTo l (k + 2) := fun j a b hj ha hb => by
  by_cases h1 : j = k
  · subst h1; rw [hx] at ha; rw [hy] at hb; injection ha with ha; injection hb with hb; subst ha hb; exact e
  · exact h j a b (by omega) ha hb
theorem RisTo.all {l : List Hit} {n : Nat} (h : RisTo l n) (hn : l.length ≤ n) : ris l = true := (ris_iff l).2 fun k x y hx hy => h k x y (by have := (List.getElem?_eq_some_iff.1 hy).1; omega) hx hy
set_option maxHeartbeats 4000000 in
set_option maxRecDepth 100000 in
theorem refRising_any (A : Option Addr) (n c : Nat) (l : List Hit) (w : World) (hx : Rd SH w w.heap.size A l) (hn : l.length = n) (hc : n ≤ c) (hm : c ≤ 9223372036854775807) (h6 : n ≤ 1000000) :
    Calls Try.prog 16 #[.slice A n c] w fun e w' => e = .returned (.bool (ris l)) ∧ Below w.heap.size w w' := by
  have HX := hide hx
  have Hn := hide hn
  clear hx hn
  go_enter Try.func16, Try.ntmps16
  go_wp2
  go_loopw [3] (fun kv wr => ∃ k : Nat, k ≤ n ∧ kv = .int .i64 (k + 1 : Nat) ∧ Hid (RisTo l (k + 1)) ∧ Hid (Below w.heap.size w wr)) (fun kv _ => n + 1 - (intOf kv).toNat)
  case atStart => exact ⟨0, by omega, rfl, hide (RisTo.one l), hide (Below.refl _ _)⟩
  case round =>
    obtain ⟨k, hk, rfl, HRt, HB⟩ := hrel
    by_cases hlt : k + 1 < n
    · obtain ⟨ad, x, rfl, hb, hx, q⟩ := (HX.out.below HB.out (Nat.le_refl _)).hcell (k := k) (by have := Hn.out; omega)
      obtain ⟨ad2, y, e2, _, hy, r⟩ := (HX.out.below HB.out (Nat.le_refl _)).hcell (k := k + 1) (by have := Hn.out; omega)
      injection e2 with e2
      subst e2
      have hb' : ad.block < wr.heap.size := Nat.lt_of_lt_of_le hb HB.out.size
      have HQ := hide q
      have HR := hide r
      have HC := hide fun W => refHit_any x y W
      have g0 : (0 : Int) ≤ k := by omega
      have g1 : (k : Int) < n := by omega
      have g2 : (k : Int) + 1 < n := by omega
      have g3 : ¬ ((k : Int) + 1 < 0) := by omega
      have g4 : (0 : Int) ≤ (k : Int) + 1 := by omega
      have gw : IntKind.i64.wrap (k : Int) = k := by simp [IntKind.wrap, IntKind.bits, IntKind.signed]; omega
      clear q r
      go_upto_region 4 with fail
      refine wp_region_held_drew (S := Below wr.heap.size wr) (by kernel_rfl) (Below.refl _ _).drew (fun hHeld => ?_)
      refine wpAnyH_take (i := 0) (v := .slice (some ad) n c) rfl (by kernel_rfl) (by kernel_rfl) (by kernel_rfl) (fun _ _ _ h => h) (Or.inl ⟨by rfl, fun W hS => by clear hS hHeld; go_simp⟩) hHeld ?_
      try simp only [Act.put, List.setIfInBounds_toArray, List.set_cons_zero, List.set_cons_succ, List.getElem_toArray, List.getElem_cons_zero, List.getElem_cons_succ]
      refine wpAnyH_take (i := 1) (v := .int .i64 (k + 1 : Nat)) rfl (by kernel_rfl) (by kernel_rfl) (by kernel_rfl) (fun _ _ _ h => h) (Or.inl ⟨by rfl, fun W hS => by clear hS hHeld; go_simp⟩) hHeld ?_
      try simp only [Act.put, List.setIfInBounds_toArray, List.set_cons_zero, List.set_cons_succ, List.getElem_toArray, List.getElem_cons_zero, List.getElem_cons_succ]
      refine wpAnyH_take (i := 2) (v := .int .i64 k) rfl (by kernel_rfl) (by kernel_rfl) (by kernel_rfl) (fun _ _ _ h => h) (Or.inl ⟨by rfl, fun W hS => by clear hS hHeld; go_simp⟩) hHeld ?_
      try simp only [Act.put, List.setIfInBounds_toArray, List.set_cons_zero, List.set_cons_succ, List.getElem_toArray, List.getElem_cons_zero, List.getElem_cons_succ]
      refine wpAnyH_take (i := 3) (v := .pointer (some (ad.add (k * 2)))) rfl (by kernel_rfl) (by kernel_rfl) (by kernel_rfl) (fun _ _ _ h => h) (Or.inl ⟨by rfl, fun W hS => by clear hS hHeld; go_simp⟩) hHeld ?_
      try simp only [Act.put, List.setIfInBounds_toArray, List.set_cons_zero, List.set_cons_succ, List.getElem_toArray, List.getElem_cons_zero, List.getElem_cons_succ]
      refine wpAnyH_take (i := 4) (v := .agg #[.int .u64 x.1, .int .u64 x.2]) rfl (by kernel_rfl) (by kernel_rfl) (by kernel_rfl) (fun _ _ _ h => h) (Or.inl ⟨by rfl, fun W hS => by have hk : ∀ p : Addr, p.block < wr.heap.size → W.cell? p = wr.cell? p := fun p hp => Below.cell hS hp; have z0 := (hk (ad.add ((k) * 2)) (by rw [block_of_add]; exact hb')).trans HQ.out.1; have z1 := (hk ⟨(ad.add ((k) * 2)).block, (ad.add ((k) * 2)).off + 1, none⟩ (by show (ad.add ((k) * 2)).block < _; rw [block_of_add]; exact hb')).trans HQ.out.2; clear hk; clear hS hHeld; go_simp⟩) hHeld ?_
      try simp only [Act.put, List.setIfInBounds_toArray, List.set_cons_zero, List.set_cons_succ, List.getElem_toArray, List.getElem_cons_zero, List.getElem_cons_succ]
      refine wpAnyH_take (i := 5) (v := .slice (some ad) n c) rfl (by kernel_rfl) (by kernel_rfl) (by kernel_rfl) (fun _ _ _ h => h) (Or.inl ⟨by rfl, fun W hS => by clear hS hHeld; go_simp⟩) hHeld ?_
      try simp only [Act.put, List.setIfInBounds_toArray, List.set_cons_zero, List.set_cons_succ, List.getElem_toArray, List.getElem_cons_zero, List.getElem_cons_succ]
      refine wpAnyH_take (i := 6) (v := .int .i64 (k + 1 : Nat)) rfl (by kernel_rfl) (by kernel_rfl) (by kernel_rfl) (fun _ _ _ h => h) (Or.inl ⟨by rfl, fun W hS => by clear hS hHeld; go_simp⟩) hHeld ?_
      try simp only [Act.put, List.setIfInBounds_toArray, List.set_cons_zero, List.set_cons_succ, List.getElem_toArray, List.getElem_cons_zero, List.getElem_cons_succ]
      refine wpAnyH_take (i := 7) (v := .pointer (some (ad.add ((k + 1) * 2)))) rfl (by kernel_rfl) (by kernel_rfl) (by kernel_rfl) (fun _ _ _ h => h) (Or.inl ⟨by rfl, fun W hS => by clear hS hHeld; go_simp⟩) hHeld ?_
      try simp only [Act.put, List.setIfInBounds_toArray, List.set_cons_zero, List.set_cons_succ, List.getElem_toArray, List.getElem_cons_zero, List.getElem_cons_succ]
      refine wpAnyH_take (i := 8) (v := .agg #[.int .u64 y.1, .int .u64 y.2]) rfl (by kernel_rfl) (by kernel_rfl) (by kernel_rfl) (fun _ _ _ h => h) (Or.inl ⟨by rfl, fun W hS => by have hk : ∀ p : Addr, p.block < wr.heap.size → W.cell? p = wr.cell? p := fun p hp => Below.cell hS hp; have z0 := (hk (ad.add ((k + 1) * 2)) (by rw [block_of_add]; exact hb')).trans HR.out.1; have z1 := (hk ⟨(ad.add ((k + 1) * 2)).block, (ad.add ((k + 1) * 2)).off + 1, none⟩ (by show (ad.add ((k + 1) * 2)).block < _; rw [block_of_add]; exact hb')).trans HR.out.2; clear hk; clear hS hHeld; go_simp⟩) hHeld ?_
      try simp only [Act.put, List.setIfInBounds_toArray, List.set_cons_zero, List.set_cons_succ, List.getElem_toArray, List.getElem_cons_zero, List.getElem_cons_succ]
      refine wpAnyH_ready (rs := [9]) (by kernel_rfl) (by simp) ?_
      refine AllReadyH.cons rfl (fun K hK => ?_) AllReadyH.nil
      try simp only [Act.put, List.setIfInBounds_toArray, List.set_cons_zero, List.set_cons_succ, List.getElem_toArray, List.getElem_cons_zero, List.getElem_cons_succ]
      go_simp
      go_at_call 27
      refine (HC.out _).mono ?_
      rintro e wq ⟨rfl, hbq⟩
      refine hK.out _ _ (hHeld.trans (hbq.mono hHeld.size)) (fun hHeld2 => ?_)
      clear hK K hHeld
      have hHeld := hHeld2
      clear hHeld2
      try simp only [Act.put, List.setIfInBounds_toArray, List.set_cons_zero, List.set_cons_succ, List.getElem_toArray, List.getElem_cons_zero, List.getElem_cons_succ]
      clear hbq
      refine wpAnyH_take (i := 10) (v := .bool (!hitLt x y)) rfl (by kernel_rfl) (by kernel_rfl) (by kernel_rfl) (fun _ _ _ h => h) (Or.inl ⟨by rfl, fun W hS => by clear hS hHeld; go_simp⟩) hHeld ?_
      try simp only [Act.put, List.setIfInBounds_toArray, List.set_cons_zero, List.set_cons_succ, List.getElem_toArray, List.getElem_cons_zero, List.getElem_cons_succ]
      refine wpAnyH_done (by kernel_rfl) ?_ _
      cases e : hitLt x y with
      | false =>
        have HF := hide (ris_no hx hy e)
        have HN := hide (HB.out.trans (hHeld.mono HB.out.size))
        clear hHeld hx hy e
        go_wp2
        go_ret
        exact ⟨by rw [HF.out]; rfl, HN.out⟩
      | true =>
        have HT := hide (HRt.out.next hx hy e)
        have HN := hide (HB.out.trans (hHeld.mono HB.out.size))
        clear hHeld hx hy e
        go_wp2
        go_roundw
        case rel => exact ⟨k + 1, by omega, by go_num, HT, HN⟩
        case measure => simp [intOf]; omega
    · have HF := hide (HRt.out.all (by have := Hn.out; omega))
      go_wp2
      go_ret
      exact ⟨by rw [HF.out]; rfl, HB.out⟩
set_option maxHeartbeats 4000000 in
set_option maxRecDepth 100000 in
theorem rising_any (A : Option Addr) (n c : Nat) (l : List Hit) (w : World) (hx : Rd SH w w.heap.size A l) (hn : l.length = n) (hc : n ≤ c) (hm : c ≤ 9223372036854775807) (h6 : n ≤ 1000000) :
    Calls Try.prog 15 #[.slice A n c] w fun e w' => e = .returned (.bool (ris l)) ∧ Below w.heap.size w w' := by
  have HX := hide hx
  have Hn := hide hn
  clear hx hn
  go_enter Try.func15, Try.ntmps15
  go_wp2
  go_loopw [3, 4, 7] (fun _ _ kv wr => ∃ k : Nat, k ≤ n ∧ kv = .int .i64 k ∧ Hid (RisTo l k) ∧ Hid (Below w.heap.size w wr)) (fun _ _ kv _ => n - (intOf kv).toNat)
  case atStart => exact ⟨0, by omega, rfl, hide (RisTo.none l), hide (Below.refl _ _)⟩
  case round =>
    obtain ⟨k, hk, rfl, HRt, HB⟩ := hrel
    by_cases hlt : k < n
    · obtain ⟨ad, y, rfl, hb, hy, r⟩ := (HX.out.below HB.out (Nat.le_refl _)).hcell (k := k) (by have := Hn.out; omega)
      have hb' : ad.block < wr.heap.size := Nat.lt_of_lt_of_le hb HB.out.size
      obtain ⟨r0, r1⟩ := r
      have g0 : (0 : Int) ≤ k := by omega
      have g1 : (k : Int) < n := by omega
      have HB1 := hide (HB.out.trans ((below1 wr (.cells #[.int .u64 y.1, .int .u64 y.2] 34)).mono HB.out.size))
      have HK := hide (Blk.new wr 34 #[.int .u64 y.1, .int .u64 y.2])
      go_upto_region 4 with fail
      clear r0 r1
      rcases k with _ | k
      · go_quiet (fail)
        go_wp2
        go_roundw
        case rel => exact ⟨1, by omega, by go_num, hide (RisTo.one l), by first | exact HB1 | exact hide (HB1.out.drew) | exact hide ⟨HB1.out.os, HB1.out.tape, HB1.out.output, HB1.out.size, HB1.out.block⟩⟩
        case measure => simp [intOf]; omega
      · obtain ⟨ad2, x, e2, _, hx, q⟩ := (HX.out.below HB.out (Nat.le_refl _)).hcell (k := k) (by have := Hn.out; omega)
        injection e2 with e2
        subst e2
        have HQ := hide q
        have HC := hide fun W => hit_any x y W
        have g5 : (0 : Int) ≤ k := by omega
        have g2 : (k : Int) + 1 < n := by omega
        have g3 : ¬ ((k : Int) + 1 < 0) := by omega
        have g4 : (0 : Int) ≤ (k : Int) + 1 := by omega
        have g6 : (k : Int) < n := by omega
        have gw : IntKind.i64.wrap (k : Int) = k := by simp [IntKind.wrap, IntKind.bits, IntKind.signed]; omega
        clear q
        refine wp_region_held_drew (S := fun W => Below wr.heap.size wr W ∧ Blk W wr.heap.size 34 #[.int .u64 y.1, .int .u64 y.2]) (by kernel_rfl) (And.intro (below1 wr (.cells #[.int .u64 y.1, .int .u64 y.2] 34)).drew HK.out.drew) (fun hHeld => ?_)
        refine wpAnyH_take (i := 0) (v := .int .i64 (k + 1 : Nat)) rfl (by kernel_rfl) (by kernel_rfl) (by kernel_rfl) (fun _ _ _ h => h) (Or.inl ⟨by rfl, fun W hS => by clear hS hHeld; go_simp⟩) hHeld ?_
        try simp only [Act.put, List.setIfInBounds_toArray, List.set_cons_zero, List.set_cons_succ, List.getElem_toArray, List.getElem_cons_zero, List.getElem_cons_succ]
        refine wpAnyH_take (i := 1) (v := .bool true) rfl (by kernel_rfl) (by kernel_rfl) (by kernel_rfl) (fun _ _ _ h => h) (Or.inl ⟨by rfl, fun W hS => by clear hS hHeld; go_simp⟩) hHeld ?_
        try simp only [Act.put, List.setIfInBounds_toArray, List.set_cons_zero, List.set_cons_succ, List.getElem_toArray, List.getElem_cons_zero, List.getElem_cons_succ]
        refine wpAnyH_take (i := 2) (v := .bool true) rfl (by kernel_rfl) (by kernel_rfl) (by kernel_rfl) (fun _ _ _ h => h) (Or.inl ⟨by rfl, fun W hS => by clear hS hHeld; go_simp⟩) hHeld ?_
        try simp only [Act.put, List.setIfInBounds_toArray, List.set_cons_zero, List.set_cons_succ, List.getElem_toArray, List.getElem_cons_zero, List.getElem_cons_succ]
        refine wpAnyH_take (i := 3) (v := .slice (some ad) n c) rfl (by kernel_rfl) (by kernel_rfl) (by kernel_rfl) (fun _ _ _ h => h) (Or.inl ⟨by rfl, fun W hS => by clear hS hHeld; go_simp⟩) hHeld ?_
        try simp only [Act.put, List.setIfInBounds_toArray, List.set_cons_zero, List.set_cons_succ, List.getElem_toArray, List.getElem_cons_zero, List.getElem_cons_succ]
        refine wpAnyH_take (i := 4) (v := .int .i64 (k + 1 : Nat)) rfl (by kernel_rfl) (by kernel_rfl) (by kernel_rfl) (fun _ _ _ h => h) (Or.inl ⟨by rfl, fun W hS => by clear hS hHeld; go_simp⟩) hHeld ?_
        try simp only [Act.put, List.setIfInBounds_toArray, List.set_cons_zero, List.set_cons_succ, List.getElem_toArray, List.getElem_cons_zero, List.getElem_cons_succ]
        refine wpAnyH_take (i := 5) (v := .int .i64 k) rfl (by kernel_rfl) (by kernel_rfl) (by kernel_rfl) (fun _ _ _ h => h) (Or.inl ⟨by rfl, fun W hS => by clear hS hHeld; go_simp⟩) hHeld ?_
        try simp only [Act.put, List.setIfInBounds_toArray, List.set_cons_zero, List.set_cons_succ, List.getElem_toArray, List.getElem_cons_zero, List.getElem_cons_succ]
        refine wpAnyH_take (i := 6) (v := .pointer (some (ad.add (k * 2)))) rfl (by kernel_rfl) (by kernel_rfl) (by kernel_rfl) (fun _ _ _ h => h) (Or.inl ⟨by rfl, fun W hS => by clear hS hHeld; go_simp⟩) hHeld ?_
        try simp only [Act.put, List.setIfInBounds_toArray, List.set_cons_zero, List.set_cons_succ, List.getElem_toArray, List.getElem_cons_zero, List.getElem_cons_succ]
        refine wpAnyH_take (i := 7) (v := .agg #[.int .u64 x.1, .int .u64 x.2]) rfl (by kernel_rfl) (by kernel_rfl) (by kernel_rfl) (fun _ _ _ h => h) (Or.inl ⟨by rfl, fun W hS => by have hk : ∀ p : Addr, p.block < wr.heap.size → W.cell? p = wr.cell? p := fun p hp => Below.cell hS.1 hp; have z0 := (hk (ad.add ((k) * 2)) (by rw [block_of_add]; exact hb')).trans HQ.out.1; have z1 := (hk ⟨(ad.add ((k) * 2)).block, (ad.add ((k) * 2)).off + 1, none⟩ (by show (ad.add ((k) * 2)).block < _; rw [block_of_add]; exact hb')).trans HQ.out.2; clear hk; clear hS hHeld; go_simp⟩) hHeld ?_
        try simp only [Act.put, List.setIfInBounds_toArray, List.set_cons_zero, List.set_cons_succ, List.getElem_toArray, List.getElem_cons_zero, List.getElem_cons_succ]
        refine wpAnyH_take (i := 8) (v := .agg #[.int .u64 y.1, .int .u64 y.2]) rfl (by kernel_rfl) (by kernel_rfl) (by kernel_rfl) (fun _ _ _ h => h) (Or.inl ⟨by rfl, fun W hS => by have z0 := hS.2.cell 0; have z1 := hS.2.cell 1; simp at z0 z1; clear hS hHeld; go_simp⟩) hHeld ?_
        try simp only [Act.put, List.setIfInBounds_toArray, List.set_cons_zero, List.set_cons_succ, List.getElem_toArray, List.getElem_cons_zero, List.getElem_cons_succ]
        refine wpAnyH_ready (rs := [9]) (by kernel_rfl) (by simp) ?_
        refine AllReadyH.cons rfl (fun K hK => ?_) AllReadyH.nil
        try simp only [Act.put, List.setIfInBounds_toArray, List.set_cons_zero, List.set_cons_succ, List.getElem_toArray, List.getElem_cons_zero, List.getElem_cons_succ]
        go_simp
        go_at_call 18
        refine (HC.out _).mono ?_
        rintro e wq ⟨rfl, hbq⟩
        refine hK.out _ _ (And.intro (hHeld.1.trans (hbq.mono hHeld.1.size)) (hHeld.2.below hbq hHeld.2.lt)) (fun hHeld2 => ?_)
        clear hK K hHeld
        have hHeld := hHeld2
        clear hHeld2
        try simp only [Act.put, List.setIfInBounds_toArray, List.set_cons_zero, List.set_cons_succ, List.getElem_toArray, List.getElem_cons_zero, List.getElem_cons_succ]
        clear hbq
        refine wpAnyH_take (i := 10) (v := .bool (!hitLt x y)) rfl (by kernel_rfl) (by kernel_rfl) (by kernel_rfl) (fun _ _ _ h => h) (Or.inl ⟨by rfl, fun W hS => by clear hS hHeld; go_simp⟩) hHeld ?_
        try simp only [Act.put, List.setIfInBounds_toArray, List.set_cons_zero, List.set_cons_succ, List.getElem_toArray, List.getElem_cons_zero, List.getElem_cons_succ]
        refine wpAnyH_take (i := 11) (v := .bool (!hitLt x y)) rfl (by kernel_rfl) (by kernel_rfl) (by kernel_rfl) (fun _ _ _ h => h) (Or.inl ⟨by rfl, fun W hS => by clear hS hHeld; go_simp⟩) hHeld ?_
        try simp only [Act.put, List.setIfInBounds_toArray, List.set_cons_zero, List.set_cons_succ, List.getElem_toArray, List.getElem_cons_zero, List.getElem_cons_succ]
        refine wpAnyH_done (by kernel_rfl) ?_ _
        cases e : hitLt x y with
        | false =>
          have HF := hide (ris_no hx hy e)
          have HN := hide (HB.out.trans (hHeld.1.mono HB.out.size))
          clear hHeld hx hy e
          go_wp2
          go_ret
          exact ⟨by rw [HF.out]; rfl, HN.out⟩
        | true =>
          have HT := hide (HRt.out.next hx hy e)
          have HN := hide (HB.out.trans (hHeld.1.mono HB.out.size))
          clear hHeld hx hy e
          go_wp2
          go_roundw
          case rel => exact ⟨k + 2, by omega, by go_num, HT, HN⟩
          case measure => simp [intOf]; omega
    · obtain rfl : k = n := by omega
      have HF := hide (HRt.out.all (by have := Hn.out; omega))
      go_wp2
      go_ret
      exact ⟨by rw [HF.out]; rfl, HB.out⟩
end Go.Proofs.Ytohccblecgmdbaa
