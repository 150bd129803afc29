/-
  The package ring, and the document's: Set, Joins, Cuts; whether two lists of operations are one. Conditions: the slices read as said.
-/
import Derived.Test.YtoadcfjkommlkacRiE
import Derived.Deep.QuietTactic
import Derived.BigQuiet
namespace Go.Proofs.Ytoadcfjkommlkac
set_option linter.unusedSimpArgs false
set_option linter.unusedVariables false
open Go.RowKit

/-- an operation that sets a slot's Next and Prev -/
abbrev Opr : Type := Int × Int × Int
def opT (o : Opr) : OpV := (12, o.1, 0, o.2.1, o.2.2, 0, [], 0, [], 0)
def opC1 (o : Opr) : List Value := [.int .i64 12, .int .i64 o.1, .int .i64 0, .int .i64 o.2.1, .int .i64 o.2.2, .int .u64 0, .slice none 0 0, .int .u64 0, .slice none 0 0, .int .u64 0]
def opsC (l : List Opr) : List Value := l.flatMap opC1
theorem opsC_len (l : List Opr) : (opsC l).length = l.length * 10 := by
  unfold opsC
  induction l with
  | nil => rfl
  | cons o l ih => rw [List.flatMap_cons, List.length_append, ih, List.length_cons]; show 10 + _ = _; omega
theorem opsC_at {l : List Opr} {k : Nat} {o : Opr} (h : l[k]? = some o) {j : Nat} (hj : j < 10) : (opsC l)[k * 10 + j]? = (opC1 o)[j]? := by
  unfold opsC
  induction l generalizing k with
  | nil => simp at h
  | cons y l ih =>
    rw [List.flatMap_cons]
    rcases k with _ | k
    · simp only [List.getElem?_cons_zero, Option.some.injEq] at h
      subst h
      rw [List.getElem?_append_left (by show 0 * 10 + j < 10; omega), show 0 * 10 + j = j by omega]
    · simp only [List.getElem?_cons_succ] at h
      rw [List.getElem?_append_right (by show 10 ≤ (k + 1) * 10 + j; omega)]
      rw [show (k + 1) * 10 + j - (opC1 y).length = k * 10 + j by show (k + 1) * 10 + j - 10 = _; omega]
      exact ih h
theorem op_rd (w : World) (R : Nat → Prop) (o : Opr) : SOp.rd w R (opT o) (opC1 o) := by
  refine ⟨[_], _, rfl, rfl, [_], _, rfl, rfl, [_], _, rfl, rfl, [_], _, rfl, rfl, [_], _, rfl, rfl, [_], _, rfl, rfl, [_], _, rfl, ⟨none, 0, rfl, Nat.le_refl _, by omega, RdR.nil⟩, [_], _, rfl, rfl, [_], _, rfl, ⟨none, 0, rfl, Nat.le_refl _, by omega, RdR.nil⟩, rfl⟩
theorem ops_own {w : World} {base n c : Nat} {A : Option Addr} {e : TypeId} {l : List Opr} (h : w.ownsRow base e 10 (.slice A n c) n (opsC l)) : l.length = n ∧ Rd SOp w w.heap.size A (l.map opT) := by
  have hl : l.length = n := by have := h.1; rw [opsC_len] at this; omega
  refine ⟨hl, fun hne => ?_⟩
  have h0 : 0 < n := by
    rcases Nat.eq_zero_or_pos n with e | e
    · exfalso; apply hne; rw [List.map_eq_nil_iff]; exact List.length_eq_zero_iff.1 (by omega)
    · exact e
  obtain ⟨g, cap, hv, hg, hlt⟩ := h.form h0
  injection hv with hv
  subst hv
  refine ⟨⟨g, 0, none⟩, rfl, hlt, fun k x hx => ?_⟩
  rw [List.getElem?_map, Option.map_eq_some_iff] at hx
  obtain ⟨o, ho, rfl⟩ := hx
  refine ⟨opC1 o, op_rd _ _ _, fun j u hu => ?_⟩
  have hj : j < 10 := (List.getElem?_eq_some_iff.1 hu).1
  exact h.cells (g := g) rfl (k * 10 + j) u (by rw [opsC_at ho hj]; exact hu)
theorem own_of_blk {w : World} {base g n size : Nat} {e : TypeId} {cs : List Value} (h : Blk w g e cs.toArray) (hb : base ≤ g) (hs : cs.length = n * size) (hm : n ≤ maxLen) : w.ownsRow base e size (.slice (some ⟨g, 0, none⟩) n n) n cs :=
  ⟨hs, .inr ⟨g, n, cs.toArray, rfl, hb, h, Nat.le_refl _, hm, by simpa using hs, by rw [List.take_of_length_le (by simp [hs])]⟩⟩
/-- what puts a slot behind the head -/
def joinW (ws : List Int) (s : Int) : List Opr :=
  if s < 1 ∨ (ws.length : Int) ≤ s ∨ 0 ≤ (atW ws s).1 ∨ (atW ws 0).1 < 0 then [] else
  if (atW ws 0).1 = 0 then [(s, 0, 0), (0, s, s)] else [(s, (atW ws 0).1, 0), ((atW ws 0).1, (atW ws (atW ws 0).1).1, s), (0, s, (atW ws 0).2)]
/-- what takes a slot out -/
def cutW (ws : List Int) (s : Int) : List Opr :=
  if s < 1 ∨ (atW ws s).1 < 0 ∨ (atW ws s).2 < 0 then [] else
  if (atW ws s).1 = (atW ws s).2 then [((atW ws s).2, (atW ws s).1, (atW ws s).1), (s, -1, -1)] else
  [((atW ws s).2, (atW ws s).1, (atW ws (atW ws s).2).2), ((atW ws s).1, (atW ws (atW ws s).1).1, (atW ws s).2), (s, -1, -1)]
/-- a list of operations is handed back -/
def GivesO (w : World) (l : List Opr) (e : Ending) (w' : World) : Prop := ∃ v, e = .returned v ∧ w'.ownsRow w.heap.size 44 10 v l.length (opsC l) ∧ Below w.heap.size w w'
set_option maxHeartbeats 1000000 in
theorem set_any (s n p : Int) (w : World) : Calls Try.prog 34 #[.int .i64 s, .int .i64 n, .int .i64 p] w fun e w' => e = .returned (.agg (opC1 (s, n, p)).toArray) ∧ Below w.heap.size w w' := by
  go_enter Try.func34, Try.ntmps34
  go_wp2
  have q := Blk.new w 44 #[.int .i64 12, .int .i64 s, .int .i64 0, .int .i64 n, .int .i64 p, .int .u64 0, .slice none 0 0, .int .u64 0, .slice none 0 0, .int .u64 0]
  have q0 := q.cell 0
  have q1 := q.cell 1
  have q2 := q.cell 2
  have q3 := q.cell 3
  have q4 := q.cell 4
  have q5 := q.cell 5
  have q6 := q.cell 6
  have q7 := q.cell 7
  have q8 := q.cell 8
  have q9 := q.cell 9
  simp at q0 q1 q2 q3 q4 q5 q6 q7 q8 q9
  exact bodyPost_ret (v := .agg #[.int .i64 12, .int .i64 s, .int .i64 0, .int .i64 n, .int .i64 p, .int .u64 0, .slice none 0 0, .int .u64 0, .slice none 0 0, .int .u64 0]) (by simp [results, Try.results34, go_sem, q0, q1, q2, q3, q4, q5, q6, q7, q8, q9]) rfl ⟨rfl, below1 w _⟩
set_option maxHeartbeats 1000000 in
theorem refSet_any (s n p : Int) (w : World) : Calls Try.prog 35 #[.int .i64 s, .int .i64 n, .int .i64 p] w fun e w' => e = .returned (.agg (opC1 (s, n, p)).toArray) ∧ Below w.heap.size w w' := by
  go_enter Try.func35, Try.ntmps35
  go_wp2
  have q := Blk.new w 44 #[.int .i64 12, .int .i64 s, .int .i64 0, .int .i64 n, .int .i64 p, .int .u64 0, .slice none 0 0, .int .u64 0, .slice none 0 0, .int .u64 0]
  have q0 := q.cell 0
  have q1 := q.cell 1
  have q2 := q.cell 2
  have q3 := q.cell 3
  have q4 := q.cell 4
  have q5 := q.cell 5
  have q6 := q.cell 6
  have q7 := q.cell 7
  have q8 := q.cell 8
  have q9 := q.cell 9
  simp at q0 q1 q2 q3 q4 q5 q6 q7 q8 q9
  exact bodyPost_ret (v := .agg #[.int .i64 12, .int .i64 s, .int .i64 0, .int .i64 n, .int .i64 p, .int .u64 0, .slice none 0 0, .int .u64 0, .slice none 0 0, .int .u64 0]) (by simp [results, Try.results35, go_sem, q0, q1, q2, q3, q4, q5, q6, q7, q8, q9]) rfl ⟨rfl, below1 w _⟩
section
variable (A : Option Addr) (n c : Nat) (ws : List Int) (s : Int) (w : World) (hx : Rd (Sh.int .u64) w w.heap.size A ws) (hn : ws.length = n) (hu : ∀ x ∈ ws, U64 x)
include hx hn hu
set_option maxHeartbeats 4000000 in
theorem joins_any : Calls Try.prog 17 #[.slice A n c, .int .i64 s] w (GivesO w (joinW ws s)) := by
  have Hn := hide hn
  have HX := hide hx
  have HA := hide (fun s W (h : Rd (Sh.int .u64) W W.heap.size A ws) => at_any A n c ws s W h hn hu)
  have HN := hide (fun s W (h : Rd (Sh.int .u64) W W.heap.size A ws) => next_any A n c ws s W h hn hu)
  have HJ := hide (show joinW ws s = _ by unfold joinW; rfl)
  have HA0 := hide (HA.out 0 _ HX.out)
  have HAs := hide (HA.out s _ HX.out)
  have HNs := hide (HN.out s _ HX.out)
  rw [hn] at HJ
  generalize (atW ws 0).1 = n0 at *
  generalize (atW ws 0).2 = p0 at *
  generalize (atW ws s).1 = o1 at *
  generalize (atW ws s).2 = o2 at *
  clear hx hn hu
  by_cases h1 : s < 1
  · have b1 : decide (s < 1) = true := decide_eq_true h1
    have HE := hide (HJ.out.trans (if_pos (.inl h1)))
    rw [HE.out]
    go_enter Try.func17, Try.ntmps17
    go_wp2_with (first
      | (go_at_call 6; with_reducible refine Calls.mono HA0.out ?_; rintro e _ ⟨rfl, rfl⟩)
      | (go_at_call 27; with_reducible refine Calls.mono HNs.out ?_; rintro e _ ⟨rfl, rfl⟩)
      | (go_at_call 6; with_reducible refine Calls.mono HAs.out ?_; rintro e _ ⟨rfl, rfl⟩))
    go_ret
    exact ⟨_, rfl, World.ownsRow_nil _ _ _ _, Below.refl _ _⟩
  have b1 : decide (s < 1) = false := decide_eq_false h1
  obtain ⟨k, rfl⟩ : ∃ k : Nat, s = k := ⟨s.toNat, by omega⟩
  by_cases h2 : n ≤ k
  · have b2 : decide (n ≤ k) = true := decide_eq_true h2
    have b3 : decide ((n : Int) ≤ k) = true := decide_eq_true (by omega)
    have HE := hide (HJ.out.trans (if_pos (.inr (.inl (by omega)))))
    rw [HE.out]
    go_enter Try.func17, Try.ntmps17
    go_wp2_with (first
      | (go_at_call 6; with_reducible refine Calls.mono HA0.out ?_; rintro e _ ⟨rfl, rfl⟩)
      | (go_at_call 27; with_reducible refine Calls.mono HNs.out ?_; rintro e _ ⟨rfl, rfl⟩)
      | (go_at_call 6; with_reducible refine Calls.mono HAs.out ?_; rintro e _ ⟨rfl, rfl⟩))
    go_ret
    exact ⟨_, rfl, World.ownsRow_nil _ _ _ _, Below.refl _ _⟩
  have b2 : decide (n ≤ k) = false := decide_eq_false h2
  have b3 : decide ((n : Int) ≤ k) = false := decide_eq_false (by omega)
  by_cases h3 : 0 ≤ o1
  · have b4 : decide (0 ≤ o1) = true := decide_eq_true h3
    have HE := hide (HJ.out.trans (if_pos (.inr (.inr (.inl h3)))))
    rw [HE.out]
    go_enter Try.func17, Try.ntmps17
    go_wp2_with (first
      | (go_at_call 6; with_reducible refine Calls.mono HA0.out ?_; rintro e _ ⟨rfl, rfl⟩)
      | (go_at_call 27; with_reducible refine Calls.mono HNs.out ?_; rintro e _ ⟨rfl, rfl⟩)
      | (go_at_call 6; with_reducible refine Calls.mono HAs.out ?_; rintro e _ ⟨rfl, rfl⟩))
    go_ret
    exact ⟨_, rfl, World.ownsRow_nil _ _ _ _, Below.refl _ _⟩
  have b4 : decide (0 ≤ o1) = false := decide_eq_false h3
  by_cases h4 : n0 < 0
  · have b5 : decide (n0 < 0) = true := decide_eq_true h4
    have HE := hide (HJ.out.trans (if_pos (.inr (.inr (.inr h4)))))
    rw [HE.out]
    go_enter Try.func17, Try.ntmps17
    go_wp2_with (first
      | (go_at_call 6; with_reducible refine Calls.mono HA0.out ?_; rintro e _ ⟨rfl, rfl⟩)
      | (go_at_call 27; with_reducible refine Calls.mono HNs.out ?_; rintro e _ ⟨rfl, rfl⟩)
      | (go_at_call 6; with_reducible refine Calls.mono HAs.out ?_; rintro e _ ⟨rfl, rfl⟩))
    go_ret
    exact ⟨_, rfl, World.ownsRow_nil _ _ _ _, Below.refl _ _⟩
  have b5 : decide (n0 < 0) = false := decide_eq_false h4
  have HJ2 := hide (HJ.out.trans (if_neg (fun h => by rcases h with h | h | h | h <;> omega)))
  by_cases h5 : n0 = 0
  · have HE := hide (HJ2.out.trans (if_pos h5))
    rw [HE.out]
    subst h5
    have S1 := hide (set_any (k : Int) 0 0)
    have S2 := hide (set_any 0 (k : Int) (k : Int))
    unfold opC1 at S1 S2
    go_enter Try.func17, Try.ntmps17
    go_wp2_with (first
      | (go_at_call 6; with_reducible refine Calls.mono HA0.out ?_; rintro e _ ⟨rfl, rfl⟩)
      | (go_at_call 27; with_reducible refine Calls.mono HNs.out ?_; rintro e _ ⟨rfl, rfl⟩)
      | (go_at_call 6; with_reducible refine Calls.mono HAs.out ?_; rintro e _ ⟨rfl, rfl⟩)
      | (go_at_call 34; with_reducible refine Calls.mono (S1.out _) ?_; rintro e w4 ⟨rfl, hb4⟩; have HB4 := hide hb4; clear hb4)
      | (go_at_call 34; with_reducible refine Calls.mono (S2.out _) ?_; rintro e w5 ⟨rfl, hb5⟩; have HB5 := hide (Below.step HB4.out hb5); clear hb5))
    go_ret
    exact ⟨_, rfl, own_of_blk (cs := opsC [((k : Int), 0, 0), (0, (k : Int), (k : Int))]) (Blk.new w5 _ _) HB5.out.size rfl (by decide), Below.step HB5.out (below1 w5 _)⟩
  · have HE := hide (HJ2.out.trans (if_neg h5))
    have b6 : (n0 == 0) = false := by simpa using h5
    rw [HE.out]
    have HNn := hide (fun W (h : Below w.heap.size w W) => HN.out n0 W (HX.out.at_world h))
    generalize (atW ws n0).1 = nn at *
    generalize (atW ws n0).2 = nn2 at *
    have S1 := hide (set_any (k : Int) n0 0)
    have S2 := hide (set_any n0 nn (k : Int))
    have S3 := hide (set_any 0 (k : Int) p0)
    unfold opC1 at S1 S2 S3
    clear h1 h2 h3 h4 h5
    go_enter Try.func17, Try.ntmps17
    go_wp2_with (first
      | (go_at_call 6; with_reducible refine Calls.mono HA0.out ?_; rintro e _ ⟨rfl, rfl⟩)
      | (go_at_call 27; with_reducible refine Calls.mono HNs.out ?_; rintro e _ ⟨rfl, rfl⟩)
      | (go_at_call 34; with_reducible refine Calls.mono (S1.out _) ?_; rintro e w4 ⟨rfl, hb4⟩; have HB4 := hide hb4; clear hb4)
      | (go_at_call 27; with_reducible refine Calls.mono (HNn.out _ HB4.out) ?_; rintro e _ ⟨rfl, rfl⟩)
      | (go_at_call 34; with_reducible refine Calls.mono (S2.out _) ?_; rintro e w5 ⟨rfl, hb5⟩; have HB5 := hide (Below.step HB4.out hb5); clear hb5)
      | (go_at_call 34; with_reducible refine Calls.mono (S3.out _) ?_; rintro e w6 ⟨rfl, hb6⟩; have HB6 := hide (Below.step HB5.out hb6); clear hb6))
    go_ret
    exact ⟨_, rfl, own_of_blk (cs := opsC [((k : Int), n0, 0), (n0, nn, (k : Int)), (0, (k : Int), p0)]) (Blk.new w6 _ _) HB6.out.size rfl (by decide), Below.step HB6.out (below1 w6 _)⟩
set_option maxHeartbeats 4000000 in
theorem refJoins_any : Calls Try.prog 18 #[.slice A n c, .int .i64 s] w (GivesO w (joinW ws s)) := by
  have Hn := hide hn
  have HX := hide hx
  have HA := hide (fun s W (h : Rd (Sh.int .u64) W W.heap.size A ws) => refAt_any A n c ws s W h hn hu)
  have HN := hide (fun s W (h : Rd (Sh.int .u64) W W.heap.size A ws) => refAt_any A n c ws s W h hn hu)
  have HJ := hide (show joinW ws s = _ by unfold joinW; rfl)
  have HA0 := hide (HA.out 0 _ HX.out)
  have HAs := hide (HA.out s _ HX.out)
  have HNs := hide (HN.out s _ HX.out)
  rw [hn] at HJ
  generalize (atW ws 0).1 = n0 at *
  generalize (atW ws 0).2 = p0 at *
  generalize (atW ws s).1 = o1 at *
  generalize (atW ws s).2 = o2 at *
  clear hx hn hu
  by_cases h1 : s < 1
  · have b1 : decide (s < 1) = true := decide_eq_true h1
    have HE := hide (HJ.out.trans (if_pos (.inl h1)))
    rw [HE.out]
    go_enter Try.func18, Try.ntmps18
    go_wp2_with (first
      | (go_at_call 7; with_reducible refine Calls.mono HA0.out ?_; rintro e _ ⟨rfl, rfl⟩)
      | (go_at_call 7; with_reducible refine Calls.mono HNs.out ?_; rintro e _ ⟨rfl, rfl⟩)
      | (go_at_call 7; with_reducible refine Calls.mono HAs.out ?_; rintro e _ ⟨rfl, rfl⟩))
    go_ret
    exact ⟨_, rfl, World.ownsRow_nil _ _ _ _, Below.refl _ _⟩
  have b1 : decide (s < 1) = false := decide_eq_false h1
  obtain ⟨k, rfl⟩ : ∃ k : Nat, s = k := ⟨s.toNat, by omega⟩
  by_cases h2 : n ≤ k
  · have b2 : decide (n ≤ k) = true := decide_eq_true h2
    have b3 : decide ((n : Int) ≤ k) = true := decide_eq_true (by omega)
    have HE := hide (HJ.out.trans (if_pos (.inr (.inl (by omega)))))
    rw [HE.out]
    go_enter Try.func18, Try.ntmps18
    go_wp2_with (first
      | (go_at_call 7; with_reducible refine Calls.mono HA0.out ?_; rintro e _ ⟨rfl, rfl⟩)
      | (go_at_call 7; with_reducible refine Calls.mono HNs.out ?_; rintro e _ ⟨rfl, rfl⟩)
      | (go_at_call 7; with_reducible refine Calls.mono HAs.out ?_; rintro e _ ⟨rfl, rfl⟩))
    go_ret
    exact ⟨_, rfl, World.ownsRow_nil _ _ _ _, Below.refl _ _⟩
  have b2 : decide (n ≤ k) = false := decide_eq_false h2
  have b3 : decide ((n : Int) ≤ k) = false := decide_eq_false (by omega)
  by_cases h3 : 0 ≤ o1
  · have b4 : decide (0 ≤ o1) = true := decide_eq_true h3
    have HE := hide (HJ.out.trans (if_pos (.inr (.inr (.inl h3)))))
    rw [HE.out]
    go_enter Try.func18, Try.ntmps18
    go_wp2_with (first
      | (go_at_call 7; with_reducible refine Calls.mono HA0.out ?_; rintro e _ ⟨rfl, rfl⟩)
      | (go_at_call 7; with_reducible refine Calls.mono HNs.out ?_; rintro e _ ⟨rfl, rfl⟩)
      | (go_at_call 7; with_reducible refine Calls.mono HAs.out ?_; rintro e _ ⟨rfl, rfl⟩))
    go_ret
    exact ⟨_, rfl, World.ownsRow_nil _ _ _ _, Below.refl _ _⟩
  have b4 : decide (0 ≤ o1) = false := decide_eq_false h3
  by_cases h4 : n0 < 0
  · have b5 : decide (n0 < 0) = true := decide_eq_true h4
    have HE := hide (HJ.out.trans (if_pos (.inr (.inr (.inr h4)))))
    rw [HE.out]
    go_enter Try.func18, Try.ntmps18
    go_wp2_with (first
      | (go_at_call 7; with_reducible refine Calls.mono HA0.out ?_; rintro e _ ⟨rfl, rfl⟩)
      | (go_at_call 7; with_reducible refine Calls.mono HNs.out ?_; rintro e _ ⟨rfl, rfl⟩)
      | (go_at_call 7; with_reducible refine Calls.mono HAs.out ?_; rintro e _ ⟨rfl, rfl⟩))
    go_ret
    exact ⟨_, rfl, World.ownsRow_nil _ _ _ _, Below.refl _ _⟩
  have b5 : decide (n0 < 0) = false := decide_eq_false h4
  have HJ2 := hide (HJ.out.trans (if_neg (fun h => by rcases h with h | h | h | h <;> omega)))
  by_cases h5 : n0 = 0
  · have HE := hide (HJ2.out.trans (if_pos h5))
    rw [HE.out]
    subst h5
    have S1 := hide (refSet_any (k : Int) 0 0)
    have S2 := hide (refSet_any 0 (k : Int) (k : Int))
    unfold opC1 at S1 S2
    go_enter Try.func18, Try.ntmps18
    go_wp2_with (first
      | (go_at_call 7; with_reducible refine Calls.mono HA0.out ?_; rintro e _ ⟨rfl, rfl⟩)
      | (go_at_call 7; with_reducible refine Calls.mono HNs.out ?_; rintro e _ ⟨rfl, rfl⟩)
      | (go_at_call 7; with_reducible refine Calls.mono HAs.out ?_; rintro e _ ⟨rfl, rfl⟩)
      | (go_at_call 35; with_reducible refine Calls.mono (S1.out _) ?_; rintro e w4 ⟨rfl, hb4⟩; have HB4 := hide hb4; clear hb4)
      | (go_at_call 35; with_reducible refine Calls.mono (S2.out _) ?_; rintro e w5 ⟨rfl, hb5⟩; have HB5 := hide (Below.step HB4.out hb5); clear hb5))
    go_ret
    exact ⟨_, rfl, own_of_blk (cs := opsC [((k : Int), 0, 0), (0, (k : Int), (k : Int))]) (Blk.new w5 _ _) HB5.out.size rfl (by decide), Below.step HB5.out (below1 w5 _)⟩
  · have HE := hide (HJ2.out.trans (if_neg h5))
    have b6 : (n0 == 0) = false := by simpa using h5
    rw [HE.out]
    have HNn := hide (fun W (h : Below w.heap.size w W) => HA.out n0 W (HX.out.at_world h))
    generalize (atW ws n0).1 = nn at *
    generalize (atW ws n0).2 = nn2 at *
    have S1 := hide (refSet_any (k : Int) n0 0)
    have S2 := hide (refSet_any n0 nn (k : Int))
    have S3 := hide (refSet_any 0 (k : Int) p0)
    unfold opC1 at S1 S2 S3
    clear h1 h2 h3 h4 h5
    go_enter Try.func18, Try.ntmps18
    go_wp2_with (first
      | (go_at_call 7; with_reducible refine Calls.mono HA0.out ?_; rintro e _ ⟨rfl, rfl⟩)
      | (go_at_call 7; with_reducible refine Calls.mono HAs.out ?_; rintro e _ ⟨rfl, rfl⟩)
      | (go_at_call 7; with_reducible refine Calls.mono (HNn.out _ (Below.refl _ _)) ?_; rintro e _ ⟨rfl, rfl⟩)
      | (go_at_call 35; with_reducible refine Calls.mono (S1.out _) ?_; rintro e w4 ⟨rfl, hb4⟩; have HB4 := hide hb4; clear hb4)
      | (go_at_call 35; with_reducible refine Calls.mono (S2.out _) ?_; rintro e w5 ⟨rfl, hb5⟩; have HB5 := hide (Below.step HB4.out hb5); clear hb5)
      | (go_at_call 35; with_reducible refine Calls.mono (S3.out _) ?_; rintro e w6 ⟨rfl, hb6⟩; have HB6 := hide (Below.step HB5.out hb6); clear hb6))
    go_ret
    exact ⟨_, rfl, own_of_blk (cs := opsC [((k : Int), n0, 0), (n0, nn, (k : Int)), (0, (k : Int), p0)]) (Blk.new w6 _ _) HB6.out.size rfl (by decide), Below.step HB6.out (below1 w6 _)⟩
end
end Go.Proofs.Ytoadcfjkommlkac
