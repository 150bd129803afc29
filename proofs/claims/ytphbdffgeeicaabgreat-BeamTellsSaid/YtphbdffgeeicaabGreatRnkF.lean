/-
  The package rank: the reference's Sort. Conditions: the slice reads as a list of spots; at most a million of them.
-/
import Derived.Test.YtphbdffgeeicaabGreatRnkO
import Derived.Deep.RegionHeld3
namespace Go.Proofs.YtphbdffgeeicaabGreat
set_option linter.unusedSimpArgs false
set_option linter.unusedVariables false
open Go.RowKit

/-- s, x put in at k, then r -/
def Mid (s : List Spt) (x : Spt) (k : Nat) (r : List Spt) : List Spt := s.take k ++ x :: (s.drop k ++ r)
theorem Mid_at {s r : List Spt} {x : Spt} {k : Nat} (h : k ≤ s.length) : (Mid s x k r)[k]? = some x := by
  unfold Mid
  rw [List.getElem?_append_right (by simp; omega)]
  simp [Nat.min_eq_left h]
theorem Mid_prev {s r : List Spt} {x y : Spt} {k : Nat} (hy : s[k]? = some y) : (Mid s x (k + 1) r)[k]? = some y := by
  have hl := (List.getElem?_eq_some_iff.1 hy).1
  unfold Mid
  rw [List.getElem?_append_left (by simp; omega), List.getElem?_take, if_pos (by omega), hy]
theorem Mid_set {s r : List Spt} {x y : Spt} {k : Nat} (hy : s[k]? = some y) : ((Mid s x (k + 1) r).set (k + 1) y).set k x = Mid s x k r := by
  obtain ⟨hl, e⟩ := List.getElem?_eq_some_iff.1 hy
  unfold Mid
  rw [take_snoc hy, List.drop_eq_getElem_cons hl, e, List.append_assoc]
  have ht : (s.take k).length = k := by simp; omega
  rw [List.set_append_right _ _ (by omega), ht, List.set_append_right _ _ (by omega), ht]
  simp
theorem Mid_start {s r : List Spt} {x : Spt} : Mid s x s.length r = s ++ x :: r := by simp [Mid]
theorem Mid_len {s r : List Spt} {x : Spt} {k : Nat} (h : k ≤ s.length) : (Mid s x k r).length = s.length + 1 + r.length := by simp [Mid]; omega
theorem Mid_end {s r : List Spt} {x : Spt} {k : Nat} : Mid s x k r = (s.take k ++ x :: s.drop k) ++ r := by simp [Mid]
theorem srtS_one (l : List Spt) : srtS (l.take 1) ++ l.drop 1 = l := by
  have : l.take 1 = srtS (l.take 1) := srt_eq swoS totS (List.Perm.refl _) (by
    rcases l with _ | ⟨a, l⟩
    · simp
    · simp)
  rw [← this, List.take_append_drop]
def RB (w : World) (base g n cap : Nat) (l : List Spt) (W : World) : Prop := RowS W base g n cap l ∧ Below w.heap.size w W
section
variable {w W W' : World} {base g n cap : Nat} {l : List Spt}
theorem RB.row (h : RB w base g n cap l W) : RowS W base g n cap l := And.left h
theorem RB.bel (h : RB w base g n cap l W) : Below w.heap.size w W := And.right h
theorem RB.step (h : RB w base g n cap l W) (hb : Below W.heap.size W W') : RB w base g n cap l W' := ⟨h.row.below hb h.row.lt, Below.step h.bel hb⟩
theorem RB.alloc (h : RB w base g n cap l W) (o : Obj) : RB w base g n cap l (W.alloc o) := h.step (below1 W o)
theorem RB.drew (h : RB w base g n cap l W) : RB w base g n cap l W.drew := ⟨h.row, h.bel.drew⟩
theorem RB.drewN (h : RB w base g n cap l W) (q : Nat) : RB w base g n cap l (W.drewN q) := ⟨h.row, ⟨h.bel.os, h.bel.tape, h.bel.output, h.bel.size, h.bel.block⟩⟩
theorem RB.set (h : RB w w.heap.size g n cap l W) {i : Nat} (hi : i < n) (x : Spt) : RB w w.heap.size g n cap (l.set i x) (((W.setCell ⟨g, i * 3, none⟩ (.int .u64 x.1.1)).setCell ⟨g, i * 3 + 1, none⟩ (.int .u64 x.1.2)).setCell ⟨g, i * 3 + 2, none⟩ (.int .i64 x.2)) := by
  refine ⟨h.row.set hi x, ?_⟩
  have hg := h.row.blk.1
  exact ((h.bel.setCell hg _).setCell hg _).setCell hg _
end
set_option maxHeartbeats 4000000 in
set_option maxRecDepth 100000 in
theorem refSort_any (A : Option Addr) (n c : Nat) (l : List Spt) (w : World) (hx : Rd SP w w.heap.size A l) (hn : l.length = n) (hc : n ≤ c) (hm : c ≤ 9223372036854775807) (h6 : n ≤ 1000000) :
    Calls Tryz.prog 102 #[.slice A n c] w fun e w' => ∃ v, e = .returned v ∧ w'.ownsRow w.heap.size 51 3 v n (fcs encS (srtS l)) ∧ Below w.heap.size w w' := by
  have HR := hide (flatS.reads (w := w.alloc (.cells #[] 51)) (fun _ h => h) (hx.alloc (Nat.le_refl _) _) hn)
  have HO := hide (show (w.alloc (.cells #[] 51)).ownsRow w.heap.size 51 3 (.slice (some ⟨w.heap.size, 0, none⟩) 0 0) 0 [] from ⟨rfl, .inr ⟨w.heap.size, 0, #[], rfl, Nat.le_refl _, heap_alloc_new _ _, Nat.le_refl _, Nat.zero_le _, rfl, rfl⟩⟩)
  have HB := hide (below1 w (.cells #[] 51))
  have Hn := hide hn
  obtain ⟨i0, hi, hz⟩ := Option.map_eq_some_iff.1 info_spot
  simp only [Prod.mk.injEq] at hz
  obtain ⟨hz, hs, hy⟩ := hz
  have HI := hide hi
  have HZ := hide hz
  have HS := hide hs
  have HY := hide hy
  clear hx hn hi hz hs hy
  go_enter Tryz.func102, Tryz.ntmps102
  go_upto_region 2 with (at_builtin; refine wpList_append_any _ rfl _ _ 31 rfl w.heap.size 51 i0 _ 3 24 Tryz.underlying31 HI.out HZ.out HS.out HY.out rfl (by decide) _ 0 [] rfl HO.out w.heap.size A n c (fcs encS l) rfl HR.out (flatS.ones l) (by simp only [maxLen]; omega) (by omega) HB.out.size ?_; intro v' w9 hown9 hgr9 _; have HO9 := hide (show w9.ownsRow w.heap.size 51 3 v' n (fcs encS l) by rwa [Nat.zero_add] at hown9); have HB9 := hide (below_own HB.out HO.out HB.out.size hgr9); clear hown9 hgr9)
  clear HO HB HI HZ HS HY HR
  rcases Nat.eq_zero_or_pos n with h0 | h0
  · subst h0
    have hl0 : l = [] := List.eq_nil_of_length_eq_zero Hn.out
    subst hl0
    have hf : ∃ A c, v' = .slice A 0 c := by
      rcases HO9.out.2 with ⟨h, _⟩ | ⟨g, cap, cur, h, _⟩
      · exact ⟨none, 0, h⟩
      · exact ⟨_, cap, h⟩
    obtain ⟨A', c', rfl⟩ := hf
    go_wp2
    refine wp_loop_rounds 1 ?_
    rw [rounds_succ]
    go_wp2
    go_ret
    exact ⟨_, rfl, by rw [show srtS [] = [] by simp [srtS, srt]]; exact HO9.out, HB9.out⟩
  · obtain ⟨g, cap, rfl, _, _⟩ := HO9.out.form h0
    have HR := hide (show RB w w.heap.size g n cap (srtS (l.take 1) ++ l.drop 1) w9 from ⟨by rw [srtS_one]; exact HO9.out, HB9.out⟩)
    clear HO9 HB9
    go_wp2
    go_loopw [4, 5, 6] (fun iv _ _ wr => ∃ i : Nat, 1 ≤ i ∧ i ≤ n ∧ iv = .int .i64 i ∧ Hid (RB w w.heap.size g n cap (srtS (l.take i) ++ l.drop i) wr)) (fun iv _ _ _ => n - (intOf iv).toNat)
    case atStart => exact ⟨1, by omega, by omega, rfl, HR⟩
    case round =>
      obtain ⟨i, hi1, hi2, rfl, HRi⟩ := hrel
      by_cases hlt : i < n
      · obtain ⟨x, hx⟩ : ∃ x, l[i]? = some x := ⟨_, List.getElem?_eq_getElem (by have := Hn.out; omega)⟩
        have hd : l.drop i = x :: l.drop (i + 1) := by
          obtain ⟨h1, h2⟩ := List.getElem?_eq_some_iff.1 hx
          rw [List.drop_eq_getElem_cons h1, h2]
        have HL := hide (show (srtS (l.take i)).length = i by rw [srtS_len]; simp; have := Hn.out; omega)
        have HE := hide (show ∀ k, (∀ y ∈ (srtS (l.take i)).drop k, sptLt x y = true) → (k = 0 ∨ ∃ y, (srtS (l.take i))[k - 1]? = some y ∧ sptLt x y = false) → Mid (srtS (l.take i)) x k (l.drop (i + 1)) = srtS (l.take (i + 1)) ++ l.drop (i + 1) from fun k h1 h2 => by
          rw [Mid_end, take_snoc hx]
          exact congrArg (· ++ l.drop (i + 1)) (srt_insert swoS totS h1 h2))
        rw [hd, ← Mid_start, HL.out] at HRi
        generalize srtS (l.take i) = s at *
        clear hx hd
        go_wp2
        go_loopw [5, 6] (fun kv _ wq => ∃ k : Nat, k ≤ i ∧ kv = .int .i64 k ∧ Hid (∀ y ∈ s.drop k, sptLt x y = true) ∧ Hid (RB w w.heap.size g n cap (Mid s x k (l.drop (i + 1))) wq)) (fun kv _ _ => (intOf kv).toNat)
        case atStart => exact ⟨i, Nat.le_refl _, rfl, hide (by rw [List.drop_of_length_le (by have := HL.out; omega)]; simp), HRi⟩
        case round =>
          obtain ⟨k, hk, rfl, HD, HM⟩ := hrel
          rcases k with _ | k
          · have HQ := hide (HE.out 0 HD.out (.inl rfl))
            go_upto_region 6 with fail
            go_quiet (fail)
            go_wp2
            go_roundw
            case rel => exact ⟨i + 1, by omega, by omega, by go_num, hide (by rw [← HQ.out]; first | exact HM.out | exact HM.out.drewN _)⟩
            case measure => simp [intOf]; omega
          · obtain ⟨y, hy⟩ : ∃ y, s[k]? = some y := ⟨_, List.getElem?_eq_getElem (by have := HL.out; omega)⟩
            have HMA := hide (Mid_at (x := x) (r := l.drop (i + 1)) (show k + 1 ≤ s.length by have := HL.out; omega))
            have HMP := hide (Mid_prev (x := x) (r := l.drop (i + 1)) hy)
            have HC := hide fun W => refSpot_any x y W
            have g0 : (0 : Int) ≤ k := by omega
            have g1 : (k : Int) < n := by omega
            have g2 : (k : Int) + 1 < n := by omega
            have g3 : ¬ ((k : Int) + 1 < 0) := by omega
            have g4 : (0 : Int) ≤ (k : Int) + 1 := by omega
            have gw : IntKind.i64.wrap (k : Int) = k := by simp [IntKind.wrap, IntKind.bits, IntKind.signed]; omega
            go_upto_region 6 with fail
            refine wp_region_held_drew (S := RB w w.heap.size g n cap (Mid s x (k + 1) (l.drop (i + 1)))) (by kernel_rfl) HM.out.drew (fun hHeld => ?_)
            clear HM
            generalize wr.drew = wd at *
            refine wpAnyH_take (i := 0) (v := .int .i64 (k + 1 : Nat)) rfl (by kernel_rfl) (by kernel_rfl) (by kernel_rfl) (fun _ _ _ h => h) (Or.inl ⟨by rfl, fun W hS => by clear hS hHeld; go_simp⟩) hHeld ?_
            try simp only [Act.put, List.setIfInBounds_toArray, List.set_cons_zero, List.set_cons_succ, List.getElem_toArray, List.getElem_cons_zero, List.getElem_cons_succ]
            refine wpAnyH_take (i := 1) (v := .bool true) rfl (by kernel_rfl) (by kernel_rfl) (by kernel_rfl) (fun _ _ _ h => h) (Or.inl ⟨by rfl, fun W hS => by clear hS hHeld; go_simp⟩) hHeld ?_
            try simp only [Act.put, List.setIfInBounds_toArray, List.set_cons_zero, List.set_cons_succ, List.getElem_toArray, List.getElem_cons_zero, List.getElem_cons_succ]
            refine wpAnyH_take (i := 2) (v := .bool true) rfl (by kernel_rfl) (by kernel_rfl) (by kernel_rfl) (fun _ _ _ h => h) (Or.inl ⟨by rfl, fun W hS => by clear hS hHeld; go_simp⟩) hHeld ?_
            try simp only [Act.put, List.setIfInBounds_toArray, List.set_cons_zero, List.set_cons_succ, List.getElem_toArray, List.getElem_cons_zero, List.getElem_cons_succ]
            refine wpAnyH_take (i := 3) (v := .slice (some ⟨g, 0, none⟩) n cap) rfl (by kernel_rfl) (by kernel_rfl) (by kernel_rfl) (fun _ _ _ h => h) (Or.inl ⟨by rfl, fun W hS => by clear hS hHeld; go_simp⟩) hHeld ?_
            try simp only [Act.put, List.setIfInBounds_toArray, List.set_cons_zero, List.set_cons_succ, List.getElem_toArray, List.getElem_cons_zero, List.getElem_cons_succ]
            refine wpAnyH_take (i := 4) (v := .int .i64 (k + 1 : Nat)) rfl (by kernel_rfl) (by kernel_rfl) (by kernel_rfl) (fun _ _ _ h => h) (Or.inl ⟨by rfl, fun W hS => by clear hS hHeld; go_simp⟩) hHeld ?_
            try simp only [Act.put, List.setIfInBounds_toArray, List.set_cons_zero, List.set_cons_succ, List.getElem_toArray, List.getElem_cons_zero, List.getElem_cons_succ]
            refine wpAnyH_take (i := 5) (v := .pointer (some ⟨g, (k + 1) * 3, none⟩)) rfl (by kernel_rfl) (by kernel_rfl) (by kernel_rfl) (fun _ _ _ h => h) (Or.inl ⟨by rfl, fun W hS => by clear hS hHeld; go_simp⟩) hHeld ?_
            try simp only [Act.put, List.setIfInBounds_toArray, List.set_cons_zero, List.set_cons_succ, List.getElem_toArray, List.getElem_cons_zero, List.getElem_cons_succ]
            refine wpAnyH_take (i := 6) (v := .agg #[.int .u64 x.1.1, .int .u64 x.1.2, .int .i64 x.2]) rfl (by kernel_rfl) (by kernel_rfl) (by kernel_rfl) (fun _ _ _ h => h) (Or.inl ⟨by rfl, fun W hS => by have hc := RowS.cells (RB.row hS) HMA.out; have z0 := hc.1; have z1 := hc.2.1; have z2 := hc.2.2; clear hc; clear hS hHeld; go_simp⟩) hHeld ?_
            try simp only [Act.put, List.setIfInBounds_toArray, List.set_cons_zero, List.set_cons_succ, List.getElem_toArray, List.getElem_cons_zero, List.getElem_cons_succ]
            refine wpAnyH_take (i := 7) (v := .slice (some ⟨g, 0, none⟩) n cap) rfl (by kernel_rfl) (by kernel_rfl) (by kernel_rfl) (fun _ _ _ h => h) (Or.inl ⟨by rfl, fun W hS => by clear hS hHeld; go_simp⟩) hHeld ?_
            try simp only [Act.put, List.setIfInBounds_toArray, List.set_cons_zero, List.set_cons_succ, List.getElem_toArray, List.getElem_cons_zero, List.getElem_cons_succ]
            refine wpAnyH_take (i := 8) (v := .int .i64 (k + 1 : Nat)) rfl (by kernel_rfl) (by kernel_rfl) (by kernel_rfl) (fun _ _ _ h => h) (Or.inl ⟨by rfl, fun W hS => by clear hS hHeld; go_simp⟩) hHeld ?_
            try simp only [Act.put, List.setIfInBounds_toArray, List.set_cons_zero, List.set_cons_succ, List.getElem_toArray, List.getElem_cons_zero, List.getElem_cons_succ]
            refine wpAnyH_take (i := 9) (v := .int .i64 k) rfl (by kernel_rfl) (by kernel_rfl) (by kernel_rfl) (fun _ _ _ h => h) (Or.inl ⟨by rfl, fun W hS => by clear hS hHeld; go_simp⟩) hHeld ?_
            try simp only [Act.put, List.setIfInBounds_toArray, List.set_cons_zero, List.set_cons_succ, List.getElem_toArray, List.getElem_cons_zero, List.getElem_cons_succ]
            refine wpAnyH_take (i := 10) (v := .pointer (some ⟨g, k * 3, none⟩)) rfl (by kernel_rfl) (by kernel_rfl) (by kernel_rfl) (fun _ _ _ h => h) (Or.inl ⟨by rfl, fun W hS => by clear hS hHeld; go_simp⟩) hHeld ?_
            try simp only [Act.put, List.setIfInBounds_toArray, List.set_cons_zero, List.set_cons_succ, List.getElem_toArray, List.getElem_cons_zero, List.getElem_cons_succ]
            refine wpAnyH_take (i := 11) (v := .agg #[.int .u64 y.1.1, .int .u64 y.1.2, .int .i64 y.2]) rfl (by kernel_rfl) (by kernel_rfl) (by kernel_rfl) (fun _ _ _ h => h) (Or.inl ⟨by rfl, fun W hS => by have hc := RowS.cells (RB.row hS) HMP.out; have z0 := hc.1; have z1 := hc.2.1; have z2 := hc.2.2; clear hc; clear hS hHeld; go_simp⟩) hHeld ?_
            try simp only [Act.put, List.setIfInBounds_toArray, List.set_cons_zero, List.set_cons_succ, List.getElem_toArray, List.getElem_cons_zero, List.getElem_cons_succ]
            refine wpAnyH_ready (rs := [12]) (by kernel_rfl) (by simp) ?_
            refine AllReadyH.cons rfl (fun K hK => ?_) AllReadyH.nil
            try simp only [Act.put, List.setIfInBounds_toArray, List.set_cons_zero, List.set_cons_succ, List.getElem_toArray, List.getElem_cons_zero, List.getElem_cons_succ]
            go_simp
            go_at_call 64
            refine (HC.out _).mono ?_
            rintro e wq ⟨rfl, hb⟩
            refine hK.out _ _ (RB.step hHeld hb) (fun hHeld2 => ?_)
            clear hK K hHeld
            have hHeld := hHeld2
            clear hHeld2
            try simp only [Act.put, List.setIfInBounds_toArray, List.set_cons_zero, List.set_cons_succ, List.getElem_toArray, List.getElem_cons_zero, List.getElem_cons_succ]
            clear hb
            refine wpAnyH_take (i := 13) (v := .bool (sptLt x y)) rfl (by kernel_rfl) (by kernel_rfl) (by kernel_rfl) (fun _ _ _ h => h) (Or.inl ⟨by rfl, fun W hS => by clear hS hHeld; go_simp⟩) hHeld ?_
            try simp only [Act.put, List.setIfInBounds_toArray, List.set_cons_zero, List.set_cons_succ, List.getElem_toArray, List.getElem_cons_zero, List.getElem_cons_succ]
            refine wpAnyH_done (by kernel_rfl) ?_ _
            cases e : sptLt x y with
            | false =>
              have HQ := hide (HE.out (k + 1) HD.out (.inr ⟨y, hy, e⟩))
              have HN := hide hHeld
              clear hHeld hy e
              go_wp2
              go_roundw
              case rel => exact ⟨i + 1, by omega, by omega, by go_num, hide (by rw [← HQ.out]; exact HN.out)⟩
              case measure => simp [intOf]; omega
            | true =>
              obtain ⟨c0, c1, c2⟩ := hHeld.row.cells HMA.out
              obtain ⟨d0, d1, d2⟩ := hHeld.row.cells HMP.out
              have f0 := hHeld.row.frozen ((k + 1) * 3)
              have f1 := hHeld.row.frozen ((k + 1) * 3 + 1)
              have f2 := hHeld.row.frozen ((k + 1) * 3 + 2)
              have f3 := hHeld.row.frozen (k * 3)
              have f4 := hHeld.row.frozen (k * 3 + 1)
              have f5 := hHeld.row.frozen (k * 3 + 2)
              have hgl := hHeld.row.lt
              have HN := hide (((hHeld.set (i := k + 1) (by omega) y).set (i := k) (by omega) x).alloc (.cells #[.int .u64 x.1.1, .int .u64 x.1.2, .int .i64 x.2] 51))
              rw [Mid_set hy] at HN
              have HDn := hide (show ∀ z ∈ s.drop k, sptLt x z = true by
                obtain ⟨h1, h2⟩ := List.getElem?_eq_some_iff.1 hy
                rw [List.drop_eq_getElem_cons h1, h2]
                exact List.forall_mem_cons.2 ⟨e, HD.out⟩)
              clear hHeld hy e
              go_wp2
              go_roundw
              case rel => exact ⟨k, by omega, by go_num, HDn, HN.out⟩
              case measure => simp [intOf]

      · obtain rfl : i = n := by omega
        have HE := hide (show srtS (l.take i) ++ l.drop i = srtS l by rw [List.take_of_length_le (by have := Hn.out; omega), List.drop_of_length_le (by have := Hn.out; omega), List.append_nil])
        go_wp2
        go_ret
        exact ⟨_, rfl, by have h := HRi.out.row; rw [HE.out] at h; exact h, HRi.out.bel⟩
end Go.Proofs.YtphbdffgeeicaabGreat
