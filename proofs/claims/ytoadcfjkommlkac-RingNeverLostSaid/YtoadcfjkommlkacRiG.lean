/-
  The package ring, and the document's: Cuts; whether two lists of operations are one. Conditions: the slices read as said.
-/
import Derived.Test.YtoadcfjkommlkacRiF
namespace Go.Proofs.Ytoadcfjkommlkac
set_option linter.unusedSimpArgs false
set_option linter.unusedVariables false
open Go.RowKit

theorem info_op : (Try.prog.info? 44).map (fun i => (i.zero, i.size, i.bytes)) = some (some (.agg #[.int .i64 0, .int .i64 0, .int .i64 0, .int .i64 0, .int .i64 0, .int .u64 0, .slice none 0 0, .int .u64 0, .slice none 0 0, .int .u64 0]), 10, 112) := by kernel_rfl
section
variable (A : Option Addr) (n c : Nat) (ws : List Int) (s : Int) (w : World) (hx : Rd (Sh.int .u64) w w.heap.size A ws) (hn : ws.length = n) (hu : ∀ x ∈ ws, U64 x)
include hx hn hu
set_option maxHeartbeats 4000000 in
theorem cuts_any : Calls Try.prog 19 #[.slice A n c, .int .i64 s] w (GivesO w (cutW ws s)) := by
  have HX := hide hx
  have HA := hide (fun s W (h : Rd (Sh.int .u64) W W.heap.size A ws) => at_any A n c ws s W h hn hu)
  have HN := hide (fun s W (h : Rd (Sh.int .u64) W W.heap.size A ws) => next_any A n c ws s W h hn hu)
  have HJ := hide (show cutW ws s = _ by unfold cutW; rfl)
  have HAs := hide (HA.out s _ HX.out)
  have hr := atW_range ws s
  generalize ha : atW ws s = r at *
  obtain ⟨n0, p0⟩ := r
  simp only at *
  clear hx hn hu ha
  by_cases h1 : s < 1
  · have b1 : decide (s < 1) = true := decide_eq_true h1
    have HE := hide (HJ.out.trans (if_pos (.inl h1)))
    rw [HE.out]
    go_enter Try.func19, Try.ntmps19
    go_wp2_with (go_at_call 6; with_reducible refine Calls.mono HAs.out ?_; rintro e _ ⟨rfl, rfl⟩)
    go_ret
    exact ⟨_, rfl, World.ownsRow_nil _ _ _ _, Below.refl _ _⟩
  have b1 : decide (s < 1) = false := decide_eq_false h1
  by_cases h2 : n0 < 0
  · have b2 : decide (n0 < 0) = true := decide_eq_true h2
    have HE := hide (HJ.out.trans (if_pos (.inr (.inl h2))))
    rw [HE.out]
    go_enter Try.func19, Try.ntmps19
    go_wp2_with (go_at_call 6; with_reducible refine Calls.mono HAs.out ?_; rintro e _ ⟨rfl, rfl⟩)
    go_ret
    exact ⟨_, rfl, World.ownsRow_nil _ _ _ _, Below.refl _ _⟩
  have b2 : decide (n0 < 0) = false := decide_eq_false h2
  by_cases h3 : p0 < 0
  · have b3 : decide (p0 < 0) = true := decide_eq_true h3
    have HE := hide (HJ.out.trans (if_pos (.inr (.inr h3))))
    rw [HE.out]
    go_enter Try.func19, Try.ntmps19
    go_wp2_with (go_at_call 6; with_reducible refine Calls.mono HAs.out ?_; rintro e _ ⟨rfl, rfl⟩)
    go_ret
    exact ⟨_, rfl, World.ownsRow_nil _ _ _ _, Below.refl _ _⟩
  have b3 : decide (p0 < 0) = false := decide_eq_false h3
  have HJ2 := hide (HJ.out.trans (if_neg (fun h => by rcases h with h | h | h <;> omega)))
  by_cases h4 : n0 = p0
  · have HE := hide (HJ2.out.trans (if_pos h4))
    rw [HE.out]
    subst h4
    have e0 : (n0 != n0) = false := by simp
    have S1 := hide (set_any n0 n0 n0)
    have S2 := hide (set_any s (-1) (-1))
    unfold opC1 at S1 S2
    clear h1 h2 h3
    go_enter Try.func19, Try.ntmps19
    go_upto_region 8 with (first
      | (go_at_call 6; with_reducible refine Calls.mono HAs.out ?_; rintro e _ ⟨rfl, rfl⟩)
      | (go_at_call 34; with_reducible refine Calls.mono (S1.out _) ?_; rintro e w4 ⟨rfl, hb4⟩; have HB4 := hide hb4; clear hb4))
    have HB5 := hide (Below.step HB4.out (below1 w4 (.cells (opsC [(n0, n0, n0)]).toArray 44)))
    have HO5 := hide (own_of_blk (base := w.heap.size) (size := 10) (n := 1) (cs := opsC [(n0, n0, n0)]) (Blk.new w4 44 _) HB4.out.size rfl (by decide))
    have hf : opsC [(n0, n0, n0)] = [.int .i64 12, .int .i64 n0, .int .i64 0, .int .i64 n0, .int .i64 n0, .int .u64 0, .slice none 0 0, .int .u64 0, .slice none 0 0, .int .u64 0] := rfl
    rw [hf] at HB5 HO5
    clear hf
    generalize World.alloc w4 _ = w5 at *
    generalize w4.heap.size = g5 at *
    go_wp2_with (first
      | (go_at_call 34; with_reducible refine Calls.mono (S2.out _) ?_; rintro e w6 ⟨rfl, hb6⟩; have HB6 := hide (Below.step HB5.out hb6); have HO6 := hide (own_keep (w' := w6) HO5.out fun g hg => hb6.block g (HO5.out.lt g hg).2); clear hb6)
      | (at_builtin; refine wpList_append_elem rfl _ _ 23 rfl w.heap.size Try.underlying23 info_op rfl (by decide) _ 1 _ rfl HO6.out _ _ rfl rfl (by simp [Value.oneCell']) (by simp only [maxLen]; omega) (by omega) HB6.out.size ?_; intro v9 w9 hown9 hgr9 _; have HO9 := hide hown9; have HB9 := hide (below_own HB6.out HO6.out HB6.out.size hgr9); clear hown9 hgr9))
    go_ret
    exact ⟨_, rfl, HO9.out, HB9.out⟩
  · have HE := hide (HJ2.out.trans (if_neg h4))
    have e0 : (n0 != p0) = true := by simpa using h4
    have e0' : (n0 == p0) = false := by simpa using h4
    rw [HE.out]
    have HAp := hide (fun W (h : Below w.heap.size w W) => HA.out p0 W (HX.out.at_world h))
    have HNn := hide (fun W (h : Below w.heap.size w W) => HN.out n0 W (HX.out.at_world h))
    generalize (atW ws n0).1 = nn at *
    generalize (atW ws n0).2 = nn2 at *
    generalize (atW ws p0).2 = pp at *
    generalize (atW ws p0).1 = pp1 at *
    have S0 := hide (set_any p0 n0 n0)
    have S1 := hide (set_any p0 n0 pp)
    have S2 := hide (set_any n0 nn p0)
    have S3 := hide (set_any s (-1) (-1))
    unfold opC1 at S0 S1 S2 S3
    clear h1 h2 h3 h4
    go_enter Try.func19, Try.ntmps19
    go_upto_region 5 with (first
      | (go_at_call 6; with_reducible refine Calls.mono HAs.out ?_; rintro e _ ⟨rfl, rfl⟩)
      | (go_at_call 34; with_reducible refine Calls.mono (S0.out _) ?_; rintro e w3 ⟨rfl, hb3⟩; have HB3 := hide (Below.step hb3 (below1 w3 (.cells #[.int .i64 12, .int .i64 p0, .int .i64 0, .int .i64 n0, .int .i64 n0, .int .u64 0, .slice none 0 0, .int .u64 0, .slice none 0 0, .int .u64 0] 44))); clear hb3))
    generalize World.alloc w3 _ = w3a at *
    go_upto_region 8 with (first
      | (go_at_call 6; with_reducible refine Calls.mono (HAp.out _ HB3.out) ?_; rintro e _ ⟨rfl, rfl⟩)
      | (go_at_call 27; with_reducible refine Calls.mono (HNn.out _ HB4.out) ?_; rintro e _ ⟨rfl, rfl⟩)
      | (go_at_call 34; with_reducible refine Calls.mono (S1.out _) ?_; rintro e w4 ⟨rfl, hb4⟩; have HB4 := hide (Below.step HB3.out hb4); clear hb4)
      | (go_at_call 34; with_reducible refine Calls.mono (S2.out _) ?_; rintro e w5 ⟨rfl, hb5⟩; have HB5 := hide (Below.step HB4.out hb5); clear hb5))
    have hf : opsC [(p0, n0, pp), (n0, nn, p0)] = [.int .i64 12, .int .i64 p0, .int .i64 0, .int .i64 n0, .int .i64 pp, .int .u64 0, .slice none 0 0, .int .u64 0, .slice none 0 0, .int .u64 0, .int .i64 12, .int .i64 n0, .int .i64 0, .int .i64 nn, .int .i64 p0, .int .u64 0, .slice none 0 0, .int .u64 0, .slice none 0 0, .int .u64 0] := rfl
    have HB6 := hide (Below.step HB5.out (below1 w5 (.cells (opsC [(p0, n0, pp), (n0, nn, p0)]).toArray 44)))
    have HO6 := hide (own_of_blk (base := w.heap.size) (size := 10) (n := 2) (cs := opsC [(p0, n0, pp), (n0, nn, p0)]) (Blk.new w5 44 _) HB5.out.size rfl (by decide))
    rw [hf] at HB6 HO6
    clear hf
    generalize World.alloc w5 _ = w6 at *
    generalize w5.heap.size = g5 at *
    go_wp2_with (first
      | (go_at_call 34; with_reducible refine Calls.mono (S3.out _) ?_; rintro e w7 ⟨rfl, hb7⟩; have HB7 := hide (Below.step HB6.out hb7); have HO7 := hide (own_keep (w' := w7) HO6.out fun g hg => hb7.block g (HO6.out.lt g hg).2); clear hb7)
      | (at_builtin; refine wpList_append_elem rfl _ _ 23 rfl w.heap.size Try.underlying23 info_op rfl (by decide) _ 2 _ rfl HO7.out _ _ rfl rfl (by simp [Value.oneCell']) (by simp only [maxLen]; omega) (by omega) HB7.out.size ?_; intro v9 w9 hown9 hgr9 _; have HO9 := hide hown9; have HB9 := hide (below_own HB7.out HO7.out HB7.out.size hgr9); clear hown9 hgr9))
    go_ret
    exact ⟨_, rfl, HO9.out, HB9.out⟩
set_option maxHeartbeats 4000000 in
theorem refCuts_any : Calls Try.prog 20 #[.slice A n c, .int .i64 s] w (GivesO w (cutW ws s)) := by
  have HX := hide hx
  have HA := hide (fun s W (h : Rd (Sh.int .u64) W W.heap.size A ws) => refAt_any A n c ws s W h hn hu)
  have HN := hide (fun s W (h : Rd (Sh.int .u64) W W.heap.size A ws) => refAt_any A n c ws s W h hn hu)
  have HJ := hide (show cutW ws s = _ by unfold cutW; rfl)
  have HAs := hide (HA.out s _ HX.out)
  have hr := atW_range ws s
  generalize ha : atW ws s = r at *
  obtain ⟨n0, p0⟩ := r
  simp only at *
  clear hx hn hu ha
  by_cases h1 : s < 1
  · have b1 : decide (s < 1) = true := decide_eq_true h1
    have HE := hide (HJ.out.trans (if_pos (.inl h1)))
    rw [HE.out]
    go_enter Try.func20, Try.ntmps20
    go_wp2_with (go_at_call 7; with_reducible refine Calls.mono HAs.out ?_; rintro e _ ⟨rfl, rfl⟩)
    go_ret
    exact ⟨_, rfl, World.ownsRow_nil _ _ _ _, Below.refl _ _⟩
  have b1 : decide (s < 1) = false := decide_eq_false h1
  by_cases h2 : n0 < 0
  · have b2 : decide (n0 < 0) = true := decide_eq_true h2
    have HE := hide (HJ.out.trans (if_pos (.inr (.inl h2))))
    rw [HE.out]
    go_enter Try.func20, Try.ntmps20
    go_wp2_with (go_at_call 7; with_reducible refine Calls.mono HAs.out ?_; rintro e _ ⟨rfl, rfl⟩)
    go_ret
    exact ⟨_, rfl, World.ownsRow_nil _ _ _ _, Below.refl _ _⟩
  have b2 : decide (n0 < 0) = false := decide_eq_false h2
  by_cases h3 : p0 < 0
  · have b3 : decide (p0 < 0) = true := decide_eq_true h3
    have HE := hide (HJ.out.trans (if_pos (.inr (.inr h3))))
    rw [HE.out]
    go_enter Try.func20, Try.ntmps20
    go_wp2_with (go_at_call 7; with_reducible refine Calls.mono HAs.out ?_; rintro e _ ⟨rfl, rfl⟩)
    go_ret
    exact ⟨_, rfl, World.ownsRow_nil _ _ _ _, Below.refl _ _⟩
  have b3 : decide (p0 < 0) = false := decide_eq_false h3
  have HJ2 := hide (HJ.out.trans (if_neg (fun h => by rcases h with h | h | h <;> omega)))
  by_cases h4 : n0 = p0
  · have HE := hide (HJ2.out.trans (if_pos h4))
    rw [HE.out]
    subst h4
    have e0 : (n0 != n0) = false := by simp
    have S1 := hide (refSet_any n0 n0 n0)
    have S2 := hide (refSet_any s (-1) (-1))
    unfold opC1 at S1 S2
    clear h1 h2 h3
    go_enter Try.func20, Try.ntmps20
    go_wp2_with (first
      | (go_at_call 7; with_reducible refine Calls.mono HAs.out ?_; rintro e _ ⟨rfl, rfl⟩)
      | (go_at_call 35; with_reducible refine Calls.mono (S1.out _) ?_; rintro e w4 ⟨rfl, hb4⟩; have HB4 := hide hb4; clear hb4)
      | (go_at_call 35; with_reducible refine Calls.mono (S2.out _) ?_; rintro e w5 ⟨rfl, hb5⟩; have HB5 := hide (Below.step HB4.out hb5); clear hb5))
    go_ret
    exact ⟨_, rfl, own_of_blk (cs := opsC [(n0, n0, n0), (s, -1, -1)]) (Blk.new w5 _ _) HB5.out.size rfl (by decide), Below.step HB5.out (below1 w5 _)⟩
  · have HE := hide (HJ2.out.trans (if_neg h4))
    have e0 : (n0 != p0) = true := by simpa using h4
    have e0' : (n0 == p0) = false := by simpa using h4
    rw [HE.out]
    have HAp := hide (fun W (h : Below w.heap.size w W) => HA.out p0 W (HX.out.at_world h))
    have HNn := hide (fun W (h : Below w.heap.size w W) => HN.out n0 W (HX.out.at_world h))
    generalize (atW ws n0).1 = nn at *
    generalize (atW ws n0).2 = nn2 at *
    generalize (atW ws p0).2 = pp at *
    generalize (atW ws p0).1 = pp1 at *
    have S0 := hide (refSet_any p0 n0 n0)
    have S1 := hide (refSet_any p0 n0 pp)
    have S2 := hide (refSet_any n0 nn p0)
    have S3 := hide (refSet_any s (-1) (-1))
    unfold opC1 at S0 S1 S2 S3
    clear h1 h2 h3 h4
    go_enter Try.func20, Try.ntmps20
    go_wp2_with (first
      | (go_at_call 7; with_reducible refine Calls.mono HAs.out ?_; rintro e _ ⟨rfl, rfl⟩)
      | (go_at_call 7; with_reducible refine Calls.mono (HAp.out _ (Below.refl _ _)) ?_; rintro e _ ⟨rfl, rfl⟩)
      | (go_at_call 7; with_reducible refine Calls.mono (HNn.out _ (Below.refl _ _)) ?_; rintro e _ ⟨rfl, rfl⟩)
      | (go_at_call 35; with_reducible refine Calls.mono (S1.out _) ?_; rintro e w4 ⟨rfl, hb4⟩; have HB4 := hide hb4; clear hb4)
      | (go_at_call 35; with_reducible refine Calls.mono (S2.out _) ?_; rintro e w5 ⟨rfl, hb5⟩; have HB5 := hide (Below.step HB4.out hb5); clear hb5)
      | (go_at_call 35; with_reducible refine Calls.mono (S3.out _) ?_; rintro e w6 ⟨rfl, hb6⟩; have HB6 := hide (Below.step HB5.out hb6); clear hb6))
    go_ret
    exact ⟨_, rfl, own_of_blk (cs := opsC [(p0, n0, pp), (n0, nn, p0), (s, -1, -1)]) (Blk.new w6 _ _) HB6.out.size rfl (by decide), Below.step HB6.out (below1 w6 _)⟩
end
set_option maxRecDepth 100000 in
set_option maxHeartbeats 4000000 in
theorem sameOps_any (A B : Option Addr) (n c d : Nat) (l : List Opr) (w : World) (hx : Rd SOp w w.heap.size A (l.map opT)) (hn : l.length = n) (hy : Rd SOp w w.heap.size B (l.map opT)) (h6 : n ≤ 1000000) :
    Calls Try.prog 16 #[.slice A n c, .slice B n d] w fun e w' => e = .returned (.bool true) ∧ Drew w w' := by
  have Hn := hide hn
  clear hn
  go_enter Try.func16, Try.ntmps16
  go_wp2
  go_loopw [13] (fun i wr => ∃ k : Nat, k ≤ n ∧ i = .int .i64 k ∧ Drew w wr) (fun i _ => n - (intOf i).toNat)
  case atStart => exact ⟨0, by omega, rfl, Drew.refl _⟩
  case round =>
    obtain ⟨k, hk, rfl, j, rfl⟩ := hrel
    by_cases hlt : k < n
    · obtain ⟨ad, o1, A1, A2, n1, c1, n2, c2, rfl, _, hs, hc⟩ := RdR.opcell hx (k := k) (by simp; have := Hn.out; omega)
      obtain ⟨ad2, o2, B1, B2, m1, d1, m2, d2, rfl, _, ht, hd⟩ := RdR.opcell hy (k := k) (by simp; have := Hn.out; omega)
      rw [hs] at ht
      injection ht with ht
      subst ht
      obtain ⟨q0, q1, q2, q3, q4, q5, q6, q7, q8, q9⟩ := o1
      simp only at hc hd
      have x0 := hc 0 _ rfl
      have x1 := hc 1 _ rfl
      have x2 := hc 2 _ rfl
      have x3 := hc 3 _ rfl
      have x4 := hc 4 _ rfl
      have x5 := hc 5 _ rfl
      have y0 := hd 0 _ rfl
      have y1 := hd 1 _ rfl
      have y2 := hd 2 _ rfl
      have y3 := hd 3 _ rfl
      have y4 := hd 4 _ rfl
      have y5 := hd 5 _ rfl
      rw [add_zero'] at x0 y0
      have hat : ∀ (ad : Addr) (j : Nat), (ad.add (k * 10)).add (j + 1) = ⟨(ad.add (k * 10)).block, (ad.add (k * 10)).off + (j + 1), none⟩ := fun ad j => by
        rw [add_succ']; first | (simp; done) | (simp; omega)
      rw [hat] at x1 x2 x3 x4 x5 y1 y2 y3 y4 y5
      clear hs hc hd hx hy hat
      have h0 : (0 : Int) ≤ k := by omega
      have h1 : (k : Int) < n := by omega
      have e0 : (q0 != q0) = false := by simp
      have e1 : (q1 != q1) = false := by simp
      have e2 : (q2 != q2) = false := by simp
      have e3 : (q3 != q3) = false := by simp
      have e4 : (q4 != q4) = false := by simp
      have e5 : (q5 != q5) = false := by simp
      go_upto_region 6 with fail
      go_quiet (fail)
      go_wp2
      go_roundw
      case rel => exact ⟨k + 1, by omega, by go_num, by first | exact ⟨_, rfl⟩ | exact drewN_drewN' _ _ _⟩
      case measure => simp [intOf]; omega
    · obtain rfl : k = n := by omega
      go_wp2
      go_ret
      exact ⟨rfl, by first | exact ⟨_, rfl⟩ | exact drewN_drewN' _ _ _⟩
end Go.Proofs.Ytoadcfjkommlkac
