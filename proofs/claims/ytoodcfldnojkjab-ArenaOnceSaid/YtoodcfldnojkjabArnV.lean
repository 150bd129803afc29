/-
  The document's arena (ganglionref21): Gen, Count, New. Conditions: the slices read as lists of ints.
-/
import Derived.Test.YtoodcfldnojkjabArnU
namespace Go.Proofs.Ytoodcfldnojkjab
open Go.RowKit

set_option maxHeartbeats 1000000 in
theorem refGen_any {s : Arn} {v : Value} {R : Nat → Prop} (w : World) (h : RefAt w R s v) (hR : ∀ b, R b → b < w.heap.size) (hl : s.S.length ≤ 5000) (hG : s.G.length = s.S.length) (hst : ∀ (i : Nat) (x : Int), s.S[i]? = some x → 0 ≤ x) (i : Int) :
    Calls Try.prog 17 #[v, .int .i64 i] w fun e w' => e = .returned (.int .i64 (genOf s.S s.G i)) ∧ Below w.heap.size w w' := by
  have C := fun (W : World) (hb : Below w.heap.size w W) => refState_any W (h.below hb hR) (fun b hb' => Nat.lt_of_lt_of_le (hR b hb') hb.size) hl i
  rcases slot_or (S := s.S) i with hi | ⟨k, x, rfl, h1, hk, hx⟩
  · rw [stateOf_out hi] at C
    have HC := hide C
    unfold genOf
    rw [if_pos hi]
    obtain ⟨AS, nS, cS, AG, nG, cG, AK, nK, cK, rfl, e1, e2, e3⟩ := refAt_slices h
    have HB := hide ((Below.refl w.heap.size w).alloc (Nat.le_refl _) (.cells #[.slice AS nS cS, .slice AG nG cG, .slice AK nK cK] 30))
    clear h e1 e2 e3 C hR hi
    go_enter Try.func17, Try.ntmps17
    go_wp2_with (go_at_call 15; refine (HC.out _ HB.out).mono ?_; rintro e w1 ⟨rfl, hb⟩; have hb1 := hide (Below.step HB.out hb))
    go_ret
    exact ⟨rfl, hb1.out⟩
  · rw [stateOf_at h1 hx] at C
    have HC := hide C
    have hx0 := hst k x hx
    have hlt : ¬ x < 0 := by omega
    obtain ⟨AS, cS, AG, cG, AK, cK, rfl, -, ⟨b1, b2, b3⟩, -⟩ := h
    obtain ⟨gd, y, rfl, hgb, hy, cG1⟩ := b3.cell (k := k) (by omega)
    have e : genOf s.S s.G k = y := by unfold genOf; rw [if_neg (by omega)]; simp [hy]
    rw [e]
    have HCG : Hid (∀ W, Below w.heap.size w W → W.cell? (gd.add k) = some (.int .i64 y)) := hide (fun W hb => (hb.cell (by rw [block_of_add]; exact hR _ hgb)).trans cG1)
    generalize hGn : s.G.length = nG at *
    have hkG : (k : Int) < nG := by omega
    have hk0 : (0 : Int) ≤ k := by omega
    generalize s.S.length = nS at *
    generalize s.K.length = nK at *
    have HB := hide ((Below.refl w.heap.size w).alloc (Nat.le_refl _) (.cells #[.slice AS nS cS, .slice (some gd) nG cG, .slice AK nK cK] 30))
    have HE := hide (Blk.new w 30 #[.slice AS nS cS, .slice (some gd) nG cG, .slice AK nK cK])
    clear b3 C hR hy cG1 hx hst e hGn hG
    go_enter Try.func17, Try.ntmps17
    go_wp2_with (go_at_call 15; refine (HC.out _ HB.out).mono ?_; rintro e w1 ⟨rfl, hb⟩; have hb1 := hide (Below.step HB.out hb); have g1 := HE.out.below hb HE.out.lt; have x1 : w1.cell? ⟨w.heap.size, 1, none⟩ = some (.slice (some gd) nG cG) := (by rw [g1.cell]; rfl); have xg := HCG.out _ hb1.out; clear g1 hb)
    go_ret
    exact ⟨rfl, hb1.out⟩

def cntTo (S : List Int) (v : Int) (j : Nat) : Nat := (S.tail.take (j - 1)).count v
theorem cntTo_succ {S : List Int} {v x : Int} {j : Nat} (h1 : 1 ≤ j) (h : S[j]? = some x) : cntTo S v (j + 1) = cntTo S v j + (if x = v then 1 else 0) := by
  unfold cntTo
  have hj : S.tail[j - 1]? = some x := by rw [List.getElem?_tail, ← h]; congr 1; omega
  rw [show j + 1 - 1 = (j - 1) + 1 by omega, List.take_add_one, hj, List.count_append]
  simp [List.count_singleton]
theorem cntTo_end {S : List Int} {v : Int} {j : Nat} (h : S.length ≤ j) : cntTo S v j = cnt S v := by
  unfold cntTo cnt
  rw [List.take_of_length_le (by simp; omega)]
theorem cntTo_le (S : List Int) (v : Int) (j : Nat) : cntTo S v j ≤ j := by
  unfold cntTo
  have := List.count_le_length (a := v) (l := S.tail.take (j - 1))
  simp at this; omega
set_option maxHeartbeats 2000000 in
theorem refCount_any {s : Arn} {v : Value} {R : Nat → Prop} (w : World) (h : RefAt w R s v) (hR : ∀ b, R b → b < w.heap.size) (hl : s.S.length ≤ 5000) (z : Int) :
    Calls Try.prog 19 #[v, .int .i64 z] w fun e w' => e = .returned (.int .i64 (cnt s.S z)) ∧ Below w.heap.size w w' := by
  obtain ⟨AS, cS, AG, cG, AK, cK, rfl, ⟨a1, a2, a3⟩, -, -⟩ := h
  have HB := hide ((Below.refl w.heap.size w).alloc (Nat.le_refl _) (.cells #[.slice AS s.S.length cS, .slice AG s.G.length cG, .slice AK s.K.length cK] 30))
  have A3 : Hid (∀ k, k < s.S.length → ∃ ad x, AS = some ad ∧ s.S[k]? = some x ∧ (w.alloc (.cells #[.slice AS s.S.length cS, .slice AG s.G.length cG, .slice AK s.K.length cK] 30)).cell? (ad.add k) = some (.int .i64 x)) := hide (fun k hk => by
    obtain ⟨ad, x, e, hb, hx, hc⟩ := a3.cell hk
    exact ⟨ad, x, e, hx, (HB.out.cell (by rw [block_of_add]; exact hR _ hb)).trans hc⟩)
  clear a3 hR
  generalize hn : s.S.length = n at *
  generalize s.G.length = nG at *
  generalize s.K.length = nK at *
  have HN := hide hn
  clear hn
  go_enter Try.func19, Try.ntmps19
  go_wp2
  go_loop [5, 6] (fun c i => ∃ j : Nat, 1 ≤ j ∧ j ≤ n + 1 ∧ i = .int .i64 j ∧ c = .int .i64 (cntTo s.S z j)) (fun _ i => n + 1 - (intOf i).toNat)
  case atStart => exact ⟨1, by omega, by omega, rfl, by simp [cntTo]⟩
  case round =>
    obtain ⟨j, hj1, hjn, rfl, rfl⟩ := hrel
    have hcl := cntTo_le s.S z j
    by_cases hlt : j < n
    · obtain ⟨ad, x, rfl, hx, hc⟩ := A3.out j hlt
      have hs := cntTo_succ (v := z) hj1 hx
      have hj0 : (0 : Int) ≤ j := by omega
      have hjl : (j : Int) < n := by omega
      by_cases hxz : x = z
      · subst hxz
        rw [if_pos rfl] at hs
        have HS := hide hs
        clear hs hx A3
        go_wp2
        go_round
        case rel => exact ⟨j + 1, by omega, by omega, by go_num, by rw [HS.out]; go_num⟩
        case measure => first | (simp [intOf]; done) | (simp [intOf]; omega)
      · rw [if_neg hxz] at hs
        have HS := hide hs
        have hb : (x == z) = false := by rw [beq_eq_false_iff_ne]; exact hxz
        clear hs hx A3 hxz
        go_wp2
        go_round
        case rel => exact ⟨j + 1, by omega, by omega, by go_num, by rw [HS.out]; rfl⟩
        case measure => first | (simp [intOf]; done) | (simp [intOf]; omega)
    · have he := cntTo_end (S := s.S) (v := z) (j := j) (by have := HN.out; omega)
      rw [he]
      clear he hcl A3
      go_wp2
      go_ret
      exact ⟨rfl, HB.out⟩
end Go.Proofs.Ytoodcfldnojkjab
