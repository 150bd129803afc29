/-
  The package ring, and the document's: the list from the head on. Conditions: the slice reads as a list of words.
-/
import Derived.Test.YtoadcfjkommlkacRiA
import Derived.Test.YtoadcfjkommlkacEdgA
namespace Go.Proofs.Ytoadcfjkommlkac
set_option linter.unusedSimpArgs false
set_option linter.unusedVariables false
open Go.RowKit

/-- on from a slot, as long as it was not met -/
def runW (ws : List Int) : Nat → List Int → Int → List Int
  | 0, out, _ => out
  | k + 1, out, a => if 0 < a ∧ a ∉ out then runW ws k (out ++ [a]) (atW ws a).1 else out
def listW (ws : List Int) : List Int := runW ws 4097 [] (atW ws 0).1
theorem runW_stop {ws : List Int} {k : Nat} {out : List Int} {a : Int} (h : ¬ (0 < a ∧ a ∉ out)) : runW ws k out a = out := by
  cases k with
  | zero => rfl
  | succ k => unfold runW; rw [if_neg h]
theorem runW_go {ws : List Int} {k : Nat} {out : List Int} {a : Int} (h : 0 < a ∧ a ∉ out) : runW ws (k + 1) out a = runW ws k (out ++ [a]) (atW ws a).1 := by
  conv => lhs; unfold runW
  rw [if_pos h]
theorem ringW_range (x : Int) : -1 ≤ (ringW x).1 ∧ (ringW x).1 ≤ 4096 ∧ -1 ≤ (ringW x).2.1 ∧ (ringW x).2.1 ≤ 4096 := by
  unfold ringW
  split <;> simp only <;> omega
theorem atW_range (ws : List Int) (s : Int) : -1 ≤ (atW ws s).1 ∧ (atW ws s).1 ≤ 4096 ∧ -1 ≤ (atW ws s).2 ∧ (atW ws s).2 ≤ 4096 := by
  unfold atW
  split
  · split
    · next x h =>
      have := ringW_range x
      split <;> simp only <;> omega
    · simp
  · simp
/-- the slots met: each once, each a slot -/
structure Met (out : List Int) : Prop where
  nd : out.Nodup
  rng : ∀ x ∈ out, 1 ≤ x ∧ x ≤ 4096
theorem Met.nil : Met [] := ⟨by simp, by simp⟩
theorem Met.snoc {out : List Int} (h : Met out) {a : Int} (h0 : 0 < a) (h1 : a ≤ 4096) (hn : a ∉ out) : Met (out ++ [a]) := by
  refine ⟨List.nodup_append.2 ⟨h.nd, by simp, fun x hx y hy e => hn ?_⟩, fun x hx => ?_⟩
  · rw [List.mem_singleton.1 hy] at e
    exact e ▸ hx
  · rcases List.mem_append.1 hx with hx | hx
    · exact h.rng x hx
    · rw [List.mem_singleton.1 hx]; omega
theorem nodup_bound : ∀ (m : Nat) (l : List Int), l.Nodup → (∀ x ∈ l, 1 ≤ x ∧ x ≤ m) → l.length ≤ m := by
  intro m
  induction m with
  | zero =>
    intro l hn h
    cases l with
    | nil => simp
    | cons x l => have := h x (List.mem_cons_self); omega
  | succ m ih =>
    intro l hn h
    have h2 := ih (l.filter fun x => decide (x ≠ ((m + 1 : Nat) : Int))) (hn.sublist List.filter_sublist) fun x hx => by
      obtain ⟨a, b⟩ := List.mem_filter.1 hx
      have := h x a
      have : x ≠ ((m + 1 : Nat) : Int) := by simpa using b
      omega
    have h3 : l.length ≤ (l.filter fun x => decide (x ≠ ((m + 1 : Nat) : Int))).length + 1 := by
      clear h h2 ih
      induction l with
      | nil => simp
      | cons x l ih =>
        obtain ⟨a, b⟩ := List.nodup_cons.1 hn
        by_cases e : x = ((m + 1 : Nat) : Int)
        · rw [List.filter_cons, if_neg (by simp [e]), List.filter_eq_self.2 fun y hy => by
            have : y ≠ x := fun e2 => a (e2 ▸ hy)
            rw [e] at this
            simpa using this]
          simp
        · rw [List.filter_cons, if_pos (by simpa using e)]
          have := ih b
          simp only [List.length_cons]
          omega
    omega
theorem Met.len {out : List Int} (h : Met out) : out.length ≤ 4096 := nodup_bound 4096 out h.nd h.rng
def lenOf : Value → Nat | .slice _ n _ => n | _ => 0
theorem info_intR : (Try.prog.info? 3).map (fun i => (i.zero, i.size, i.bytes)) = some (some (.int .i64 0), 1, 8) := by kernel_rfl
section
variable (A : Option Addr) (n c : Nat) (ws : List Int) (w : World) (hx : Rd (Sh.int .u64) w w.heap.size A ws) (hn : ws.length = n) (hu : ∀ x ∈ ws, U64 x)
include hx hn hu
set_option maxHeartbeats 4000000 in
theorem rlist_any : Calls Try.prog 9 #[.slice A n c] w fun e w' => ∃ v, e = .returned v ∧ NewInts .i64 w (listW ws) v w' := by
  have HNX := hide (fun s W (h : Rd (Sh.int .u64) W W.heap.size A ws) => next_any A n c ws s W h hn hu)
  have HX := hide hx
  clear hx hn hu
  have hmm := @run_makeMap Try.prog
  go_enter Try.func9, Try.ntmps9
  go_upto_region 3 with fail
  have HM := hide (MapA.new (kd := .i64) (enc := Value.int .i64) (β := Int) w)
  have HB := hide (below1 w (.map #[] 0))
  generalize World.alloc w _ = w1 at *
  generalize hbq : w.heap.size = b at HM ⊢
  have Hbq := hide hbq
  clear hbq
  go_wp2_with (go_at_call 27; refine (HNX.out 0 _ (HX.out.at_world HB.out)).mono ?_; rintro e _ ⟨rfl, rfl⟩)
  go_loopw [3, 5] (fun v a wr => ∃ (out : List Int) (x : Int), a = .int .i64 x ∧ Hid (Met out) ∧ Hid (runW ws (4097 - out.length) out x = listW ws) ∧ Hid (-1 ≤ x ∧ x ≤ 4096) ∧ Hid (wr.ownsRow w.heap.size 3 1 v out.length (out.map (Value.int .i64))) ∧ Hid (MapA .i64 (Value.int .i64) wr b (ones out)) ∧ Hid (Below w.heap.size w wr) ∧ Hid (w.heap.size ≤ b)) (fun v _ _ => 4097 - lenOf v)
  case atStart =>
    have hr := atW_range ws 0
    exact ⟨[], _, rfl, hide Met.nil, hide rfl, hide ⟨hr.1, hr.2.1⟩, hide (World.ownsRow_nil _ _ _ _), HM, HB, hide (Nat.le_of_eq Hbq.out)⟩
  case round =>
    obtain ⟨out, x, rfl, HMet, HR, Hx, HO, HMp, HBr, Hb⟩ := hrel
    clear HM HB
    have hml := HMet.out.len
    have hx1 := Hx.out
    obtain ⟨AV, cV, rfl, o1, o2⟩ := own_form HO.out
    by_cases h0 : 0 < x
    · have b0 : decide (0 < x) = true := decide_eq_true h0
      have hw : (Lit.int .i64 x).wf = true := wfI (by omega)
      have L := HMp.out.atI hw
      by_cases h1 : x ∈ out
      · rw [look_ones, if_pos h1] at L
        have HF := hide (HR.out.symm.trans (runW_stop fun h => h.2 h1))
        have HN := hide (NewInts.of_own HO.out HBr.out)
        clear h1 hw
        go_wp2
        go_ret
        exact ⟨_, rfl, by rw [HF.out]; exact HN.out⟩
      · rw [look_ones, if_neg h1] at L
        obtain ⟨w5, hrun, hm5, hp5⟩ := HMp.out.setI hw 1
        rw [put_ones h1] at hm5
        have hsn := HMet.out.snoc h0 hx1.2 h1
        have hlen := hsn.len
        rw [List.length_append] at hlen
        simp only [List.length_cons, List.length_nil] at hlen
        have HF := hide (show runW ws (4097 - (out ++ [x]).length) (out ++ [x]) (atW ws x).1 = listW ws by
          rw [← HR.out, show 4097 - out.length = (4097 - (out ++ [x]).length) + 1 by simp; omega, runW_go ⟨h0, h1⟩])
        have HM5 := hide hm5
        have HO5 := hide (own_put HO.out HMp.out hp5)
        have HB5 := hide (hp5.below HBr.out Hb.out)
        have HSn := hide hsn
        have hat := atW_range ws x
        have HAt := hide (And.intro hat.1 hat.2.1)
        clear hm5 hp5 hw h1 hsn hat
        go_wp2_with (first
          | (at_builtin; refine wpList_append_elem rfl _ _ 28 rfl w.heap.size Try.underlying28 info_intR rfl (by decide) (.slice AV out.length cV) out.length _ rfl HO5.out _ _ rfl rfl (by simp [Value.oneCell']) (by simp only [maxLen]; omega) (by omega) HB5.out.size ?_; intro v9 w9 hown9 hgr9 _; have HO9 := hide hown9; have HB9 := hide (below_own HB5.out HO5.out HB5.out.size hgr9); have HM9 := hide (map_grown HM5.out HO5.out hgr9); clear hown9 hgr9)
          | (go_at_call 27; refine (HNX.out x _ (HX.out.at_world HB9.out)).mono ?_; rintro e _ ⟨rfl, rfl⟩))
        obtain ⟨A9, c9, hv9, _, _⟩ := own_form HO9.out
        subst hv9
        go_roundw
        case rel => exact ⟨out ++ [x], _, rfl, HSn, HF, HAt, hide (by rw [List.length_append, List.map_append]; exact HO9.out), HM9, HB9, Hb⟩
        case measure => simp [lenOf]; omega
    · have b0 : decide (0 < x) = false := decide_eq_false h0
      have HF := hide (HR.out.symm.trans (runW_stop fun h => h0 h.1))
      have HN := hide (NewInts.of_own HO.out HBr.out)
      go_wp2
      go_ret
      exact ⟨_, rfl, by rw [HF.out]; exact HN.out⟩
set_option maxHeartbeats 4000000 in
theorem refList_any : Calls Try.prog 10 #[.slice A n c] w fun e w' => ∃ v, e = .returned v ∧ NewInts .i64 w (listW ws) v w' := by
  have HNX := hide (fun s W (h : Rd (Sh.int .u64) W W.heap.size A ws) => refAt_any A n c ws s W h hn hu)
  have HX := hide hx
  clear hx hn hu
  go_enter Try.func10, Try.ntmps10
  go_wp2_with (go_at_call 7; refine (HNX.out 0 _ HX.out).mono ?_; rintro e _ ⟨rfl, rfl⟩)
  go_loopw [3, 4] (fun v a wr => ∃ (out : List Int) (x : Int), a = .int .i64 x ∧ Hid (Met out) ∧ Hid (runW ws (4097 - out.length) out x = listW ws) ∧ Hid (-1 ≤ x ∧ x ≤ 4096) ∧ Hid (wr.ownsRow w.heap.size 3 1 v out.length (out.map (Value.int .i64))) ∧ Hid (Below w.heap.size w wr)) (fun v _ _ => 4097 - lenOf v)
  case atStart =>
    have hr := atW_range ws 0
    exact ⟨[], _, rfl, hide Met.nil, hide rfl, hide ⟨hr.1, hr.2.1⟩, hide (World.ownsRow_nil _ _ _ _), hide (Below.refl _ _)⟩
  case round =>
    obtain ⟨out, x, rfl, HMet, HR, Hx, HO, HBr⟩ := hrel
    have hml := HMet.out.len
    have hx1 := Hx.out
    obtain ⟨AV, cV, rfl, o1, o2⟩ := own_form HO.out
    by_cases h0 : 0 < x
    · have b0 : decide (0 < x) = true := decide_eq_true h0
      have HH := hide (refHas_any AV out.length cV out x wr (ints_own HO.out) rfl o1 o2)
      by_cases h1 : x ∈ out
      · rw [decide_eq_true h1] at HH
        have HF := hide (HR.out.symm.trans (runW_stop fun h => h.2 h1))
        have HN := hide (NewInts.of_own HO.out HBr.out)
        clear h1
        go_wp2_with (go_at_call 28; refine HH.out.mono ?_; rintro e _ ⟨rfl, rfl⟩)
        go_ret
        exact ⟨_, rfl, by rw [HF.out]; exact HN.out⟩
      · rw [decide_eq_false h1] at HH
        have hsn := HMet.out.snoc h0 hx1.2 h1
        have hlen := hsn.len
        rw [List.length_append] at hlen
        simp only [List.length_cons, List.length_nil] at hlen
        have HF := hide (show runW ws (4097 - (out ++ [x]).length) (out ++ [x]) (atW ws x).1 = listW ws by
          rw [← HR.out, show 4097 - out.length = (4097 - (out ++ [x]).length) + 1 by simp; omega, runW_go ⟨h0, h1⟩])
        have HSn := hide hsn
        have hat := atW_range ws x
        have HAt := hide (And.intro hat.1 hat.2.1)
        clear h1 hsn hat
        go_wp2_with (first
          | (go_at_call 28; refine HH.out.mono ?_; rintro e _ ⟨rfl, rfl⟩)
          | (at_builtin; refine wpList_append_elem rfl _ _ 28 rfl w.heap.size Try.underlying28 info_intR rfl (by decide) (.slice AV out.length cV) out.length _ rfl HO.out _ _ rfl rfl (by simp [Value.oneCell']) (by simp only [maxLen]; omega) (by omega) HBr.out.size ?_; intro v9 w9 hown9 hgr9 _; have HO9 := hide hown9; have HB9 := hide (below_own HBr.out HO.out HBr.out.size hgr9); clear hown9 hgr9)
          | (go_at_call 7; refine (HNX.out x _ (HX.out.at_world HB9.out)).mono ?_; rintro e _ ⟨rfl, rfl⟩))
        obtain ⟨A9, c9, hv9, _, _⟩ := own_form HO9.out
        subst hv9
        go_roundw
        case rel => exact ⟨out ++ [x], _, rfl, HSn, HF, HAt, hide (by rw [List.length_append, List.map_append]; exact HO9.out), HB9⟩
        case measure => simp [lenOf]; omega
    · have b0 : decide (0 < x) = false := decide_eq_false h0
      have HF := hide (HR.out.symm.trans (runW_stop fun h => h0 h.1))
      have HN := hide (NewInts.of_own HO.out HBr.out)
      go_wp2
      go_ret
      exact ⟨_, rfl, by rw [HF.out]; exact HN.out⟩
end
end Go.Proofs.Ytoadcfjkommlkac
