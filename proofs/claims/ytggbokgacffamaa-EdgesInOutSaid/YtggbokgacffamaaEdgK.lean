/-
  The package edges: With. Conditions: the slice reads as a list of ints; at most a million of them.
-/
import Derived.Test.YtggbokgacffamaaEdgJ
namespace Go.Proofs.Ytggbokgacffamaa
open Go.RowKit

/-- 'copy' of a list of ints onto the head of a fresh row that has one more place -/
theorem copyN_run (A : Option Addr) (n c : Nat) (l : List Int) (w W : World) (g : Nat) (hx : Rd (Sh.int .i64) W g A l) (hn : l.length = n) (hg : Blk W g 3 (rep (n + 1) (.int .i64 0))) (hb : Below g w W) (h6 : n ≤ 1000000) :
    ∃ W', (Builtin.copy_ #[22, 22] 3 #[.slice (some ⟨g, 0, none⟩) n (n + 1), .slice A n c]).run Try.prog W = .ok (.int .i64 n) W' ∧ RowN W' g g n (n + 1) l ∧ Below g w W' := by
  rcases Nat.eq_zero_or_pos n with h0 | h0
  · subst h0
    obtain rfl := List.eq_nil_of_length_eq_zero hn
    refine ⟨W, ?_, .of (Nat.le_refl _) hg (by simp [rep]) (by simp) (by omega) (by simp [maxLen]) rfl, hb⟩
    exact run_copy_none (P := Try.prog) W 22 22 3 3 (some ⟨g, 0, none⟩) A 0 1 0 c Try.underlying22 (by kernel_rfl) rfl
  · obtain ⟨ad, _, rfl, _⟩ := RdR.icell hx (k := 0) (by omega)
    have hcp := run_copy_head (P := Try.prog) W (dT := 22) (sT := 22) (ty := 3) (dLen := n) (dCap := n + 1) (sLen := n) (sCap := c) (a := ad) (l.map (Value.int .i64)) [.int .i64 0] Try.underlying22 (by kernel_rfl) hg (by simp only [List.length_map, hn]; show _ = min n n; omega)
      (fun j v hv => by
        rw [List.getElem?_map, Option.map_eq_some_iff] at hv
        obtain ⟨x, hx', rfl⟩ := hv
        obtain ⟨ad', x', e, _, hx2, hc⟩ := RdR.icell hx (k := j) (List.getElem?_eq_some_iff.1 hx').1
        injection e with e
        subst e
        rw [hx'] at hx2
        injection hx2 with hx2
        subst hx2
        exact hc) (by simp [rep, hn]) (by simp [Value.oneCell']) (by simp [rep, hn])
    refine ⟨_, by simpa [goInt, hn] using hcp, .of (Nat.le_refl _) (hg.setRow _) (by simp [hn]) (by simp [hn, List.take_append]) (by omega) (by simp [maxLen]; omega) hn, below_setRow hb (Nat.le_refl _) _⟩
set_option maxHeartbeats 1000000 in
theorem eWith_any (A : Option Addr) (n c : Nat) (l : List Int) (x : Int) (w : World) (hx : Rd (Sh.int .i64) w w.heap.size A l) (hn : l.length = n) (hc : n ≤ c) (hm : c ≤ 9223372036854775807) (h6 : n ≤ 1000000) :
    Calls Try.prog 13 #[.slice A n c, .int .i64 x] w fun e w' => ∃ v, e = .returned v ∧ NewL (Sh.int .i64) w (withF l x) v w' := by
  have hmk : (Instr.makeSlice 22 (.int .i64 (n : Int)) (.int .i64 ((n : Int) + 1))).run Try.prog w = .ok (.slice (some ⟨w.heap.size, 0, none⟩) n (n + 1)) (w.alloc (.cells (rep (n + 1) (.int .i64 0)) 3)) :=
    run_make_rep (P := Try.prog) Try.underlying22 (e := 3) (z := .int .i64 0) (by_ := 8) (by kernel_rfl) rfl .i64 .i64 n (n + 1) (by omega) (by omega) (by omega) w
  have HB0 := hide (below1 w (.cells (rep (n + 1) (.int .i64 0)) 3))
  obtain ⟨W', hcp, hrow, hb'⟩ := copyN_run A n c l w (w.alloc (.cells (rep (n + 1) (.int .i64 0)) 3)) w.heap.size ((hx.below HB0.out (Nat.le_refl _))) hn (Blk.new w 3 _) HB0.out h6
  have HO4 := hide (show W'.ownsRow w.heap.size 3 1 (.slice (some ⟨w.heap.size, 0, none⟩) n (n + 1)) n (fcs encI l) from hrow)
  have HB3 := hide hb'
  have HC := hide (eHas_any A n c l x W' (hx.step hb') hn hc hm)
  clear hx hn hrow hb'
  go_enter Try.func13, Try.ntmps13
  by_cases e : x ∈ l
  · have HF := hide (show withF l x = l by unfold withF; rw [if_pos e])
    rw [decide_eq_true e] at HC
    clear e
    go_wp2_with (go_at_call 10; refine HC.out.mono ?_; rintro e _ ⟨rfl, rfl⟩)
    go_ret
    exact ⟨_, rfl, by rw [HF.out]; exact flatI.new HO4.out HB3.out⟩
  · have HF := hide (show withF l x = l ++ [x] by unfold withF; rw [if_neg e])
    rw [decide_eq_false e] at HC
    clear e
    go_wp2_with (first
      | (go_at_call 10; refine HC.out.mono ?_; rintro e _ ⟨rfl, rfl⟩)
      | (at_builtin; refine wpList_append_elem rfl _ _ 22 rfl w.heap.size Try.underlying22 info_intE rfl (by decide) _ n _ rfl HO4.out _ _ rfl rfl (by simp [Value.oneCell']) (by simp only [maxLen]; omega) (by omega) HB3.out.size ?_; intro v' w9 hown9 hgr9 _; have HO9 := hide hown9; have HB9 := hide (below_own HB3.out HO4.out HB3.out.size hgr9); clear hown9 hgr9))
    go_ret
    exact ⟨_, rfl, by rw [HF.out]; exact flatI.new (by rw [fcs_snoc]; exact HO9.out) HB9.out⟩
end Go.Proofs.Ytggbokgacffamaa
