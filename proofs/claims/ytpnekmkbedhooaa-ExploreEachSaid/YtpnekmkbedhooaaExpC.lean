/-
  The package explore: the document's functions: ways, by Pascal's rows. No condition.
-/
import Derived.Test.YtpnekmkbedhooaaExpB
import Derived.StillTailTactics
import Derived.Deep.AppendLies
import Derived.Deep.RegionLaw
namespace Go.Proofs.Ytpnekmkbedhooaa
open Go.RowKit

/-- the first m of Pascal's row i, held at the greatest -/
def pr (i m : Nat) : List Int := (List.range m).map fun j => ((hN (pas i j) : Nat) : Int)
theorem pr_len (i m : Nat) : (pr i m).length = m := by simp [pr]
theorem pr_at {i m k : Nat} {x : Int} (h : (pr i m)[k]? = some x) : k < m ∧ x = (hN (pas i k) : Nat) := by
  rw [pr, List.getElem?_map, Option.map_eq_some_iff] at h
  obtain ⟨j, hj, rfl⟩ := h
  have hk : k < m := by have := (List.getElem?_eq_some_iff.1 hj).1; simpa using this
  rw [List.getElem?_range hk] at hj
  injection hj with hj
  subst hj
  exact ⟨hk, rfl⟩
theorem pr_next (i m : Nat) : pr i (m + 1) = pr i m ++ [((hN (pas i m) : Nat) : Int)] := by simp [pr, List.range_succ]
theorem pr_one (i : Nat) : pr i 1 = [1] := by simp [pr, pas_zero]; rfl
theorem pas_step (i q : Nat) : hN (hN (pas i q) + hN (pas i (q + 1))) = hN (pas (i + 1) (q + 1)) := by rw [hN_add]; rfl
theorem calls_sym {P : Program} {f : FuncId} {args : Array Value} {w : World} {v : Value} (h : Calls P f args w fun e w' => e = .returned v ∧ w = w') : Calls P f args w fun e w' => e = .returned v ∧ w' = w :=
  h.mono fun _ _ h => ⟨h.1, h.2.symm⟩

theorem reads_new1' (w : World) (u : Value) (e : TypeId) : Reads (w.alloc (.cells #[u] e)).drew (w.heap.size + 1) 1 (some ⟨w.heap.size, 0, none⟩) 1 [u] :=
  ⟨rfl, fun _ => ⟨_, rfl, Nat.lt_succ_self _, fun j v hv => by
    rcases j with _ | j
    · simp at hv; subst hv
      rw [add_mk, World.cell?_drew, cell_of_row _ _ _ _ _ _ (heap_alloc_new w _)]; rfl
    · simp at hv⟩⟩
theorem below_own' {B : Nat} {w0 wr w' : World} {o : Obj} {e : TypeId} {size n : Nat} {v : Value} {xs : List Value} (hb : Below B w0 wr) (hown : wr.ownsRow B e size v n xs) (hB : B ≤ wr.heap.size) (hg : (wr.alloc o).drew.grownBy w' v.ownBlock) : Below B w0 w' :=
  (below_drewN (hb.alloc hB o) 1).grown hg (by simp; omega) fun k hk => (hown.lt k hk).1
set_option maxHeartbeats 2000000 in
theorem ways_any (n k : Nat) (w : World) (hn : n ≤ 64) (hk : k ≤ n) :
    Calls Try.prog 29 #[.int .i64 n, .int .i64 k] w fun e w' => e = .returned (.int .u64 (hN (pas n k) : Nat)) ∧ Below w.heap.size w w' := by
  have HK := hide hk
  clear hk
  have H0 := hide (show I64s w w.heap.size none [] from Rd.start)
  have HR0 := hide (show Rd (Sh.int .u64) (w.alloc (.cells #[.int .u64 1] 23)) (w.alloc (.cells #[.int .u64 1] 23)).heap.size (some ⟨w.heap.size, 0, none⟩) (pr 0 1) by
    rw [pr_one]; exact lit_at [1] (Blk.new _ _ _) (by simp))
  go_enter Try.func29, Try.ntmps29
  go_wp2
  go_loopw [5, 6] (fun v s wr => ∃ (i : Nat) (A : Option Addr) (c : Nat), i ≤ n ∧ s = .int .i64 i ∧ v = .slice A (i + 1) c ∧ i + 1 ≤ c ∧ c ≤ 9223372036854775807 ∧ Hid (Rd (Sh.int .u64) wr wr.heap.size A (pr i (i + 1))) ∧ Hid (Below w.heap.size w wr)) (fun _ s _ => n - (intOf s).toNat)
  case atStart => exact ⟨0, _, _, by omega, rfl, rfl, by omega, by omega, HR0, hide (below1 _ _)⟩
  case round =>
    obtain ⟨i, A, c, hi, rfl, rfl, c1, c2, hR, hB⟩ := hrel
    by_cases hlt : i < n
    · have HO0 := hide (show (wr.alloc (.cells #[.int .u64 1] 23)).ownsRow wr.heap.size 23 1 (.slice (some ⟨wr.heap.size, 0, none⟩) 1 1) (0 + 1) ((pr (i + 1) (0 + 1)).map (Value.int .u64)) by
        rw [pr_one]; exact World.ownsRow_lit wr #[.int .u64 1] 1 (Nat.le_refl _) (by simp [maxLen]) rfl)
      obtain ⟨wo, rfl⟩ : ∃ wo : World, wo = wr := ⟨_, rfl⟩
      go_wp2
      go_loopw [7, 8] (fun v s w2 => ∃ q : Nat, q ≤ i ∧ s = .int .i64 ((q : Int) + 1) ∧ Hid (w2.ownsRow wo.heap.size 23 1 v (q + 1) ((pr (i + 1) (q + 1)).map (Value.int .u64))) ∧ Hid (Below wo.heap.size wo w2)) (fun _ s _ => i + 1 - (intOf s).toNat)
      case atStart => exact ⟨0, by omega, rfl, HO0, hide (below1 _ _)⟩
      case round =>
        obtain ⟨q, hq, rfl, hO, hB2⟩ := hrel
        by_cases hlt2 : q < i
        · obtain ⟨ad, x, rfl, _, hv, q0⟩ := (hR.out.below hB2.out (Nat.le_refl _)).icell (k := q) (by rw [pr_len]; omega)
          obtain ⟨_, rfl⟩ := pr_at hv
          obtain ⟨ad', y, e, _, hv', q1⟩ := (hR.out.below hB2.out (Nat.le_refl _)).icell (k := q + 1) (by rw [pr_len]; omega)
          obtain ⟨_, rfl⟩ := pr_at hv'
          injection e with e
          subst e
          clear hv hv'
          have g0 : (0 : Int) ≤ q := by omega
          have g1 : (q : Int) < i := by omega
          have HP := hide (pas_step i q)
          have HC := hide (fun W => calls_sym (radd_any _ _ W (hN_lt (pas i q)) (hN_lt (pas i (q + 1)))))
          rw [HP.out] at HC
          go_upto_region 9 with fail
          have hw : IntKind.i64.wrap (q : Int) = q := by rw [IntKind.wrap_i64]; omega
          have g2 : (q : Int) < (i : Int) + 1 := by omega
          have q2 : wr.cell? ⟨ad.block, ad.off + (q + 1), none⟩ = some (.int .u64 (hN (pas i (q + 1)) : Nat)) := q1
          have g3 : (0 : Int) ≤ (q : Int) + 1 := by omega
          obtain ⟨i0, hi0, hz0, hz1, hz2⟩ := info_parts info_eu
          have HS := hide hB2.out.size
          go_region_law ((first
            | (refine step_append_any _ rfl (.tmp 22) (.tmp 33) 64 rfl wo.heap.size 23 i0 _ 1 8 Try.underlying64 hi0 hz0 hz1 hz2 rfl (by decide) u7 (q + 1) _ rfl (own_keep (hO.out.alloc _) fun _ _ => rfl) _ _ 1 1 [.int .u64 (hN (pas (i + 1) (q + 1)) : Nat)] rfl (reads_new1' wr _ _) (by simp [Value.oneCell']) (by simp only [maxLen]; omega) (by omega) (by have := HS.out; simp; omega) ?_; intro v' w9 hown9 hgr9 hat9; have HO9 := hide hown9; have HB9 := hide (below_own' hB2.out hO.out hB2.out.size hgr9); clear hown9 hgr9 hat9)
            | (go_simp; go_at_call 24; refine (HC.out _).mono ?_; rintro e w' ⟨rfl, rfl⟩)))
          all_goals
            go_wp2
            go_roundw
            case rel => exact ⟨q + 1, by omega, by go_num, hide (by rw [pr_next, List.map_append]; exact HO9.out), HB9⟩
            case measure => simp [intOf]; omega
        · obtain rfl : q = i := by omega
          go_wp2_with (at_builtin; refine wpList_append_elem rfl _ _ 64 rfl wo.heap.size Try.underlying64 info_eu rfl (by decide) _ (q + 1) _ rfl hO.out _ _ rfl rfl (by simp [Value.oneCell']) (by simp only [maxLen]; omega) (by omega) hB2.out.size ?_; intro v' w9 hown9 hgr9 hat9; have HO9 := hide hown9; have HB9 := hide (below_own hB2.out hO.out hB2.out.size hgr9); clear hown9 hgr9 hat9)
          have HL : Hid (((pr (q + 1) (q + 1)).map (Value.int .u64)) ++ (#[Value.int .u64 1]).toList = (pr (q + 1) (q + 2)).map (Value.int .u64)) := hide (by
            rw [pr_next (q + 1) (q + 1), pas_self, List.map_append]; rfl)
          rw [HL.out] at HO9
          obtain ⟨A9, c9, rfl, o1, o2⟩ := own_form HO9.out
          go_roundw
          case rel => exact ⟨q + 1, A9, c9, by omega, by go_num, rfl, by omega, by omega, hide ((intR_own HO9.out).more fun b hb => hb.2), hide (Below.step hB.out HB9.out)⟩
          case measure => simp [intOf]; omega
    · obtain rfl : n = i := by omega
      obtain ⟨ad, x, rfl, _, hv, q0⟩ := hR.out.icell (k := k) (by rw [pr_len]; have := HK.out; omega)
      obtain ⟨_, rfl⟩ := pr_at hv
      have g0 : (0 : Int) ≤ k := by omega
      have g1 : (k : Int) < (n : Int) + 1 := by have := HK.out; omega
      clear hv
      go_wp2
      go_ret
      exact ⟨rfl, hB.out⟩
end Go.Proofs.Ytpnekmkbedhooaa
