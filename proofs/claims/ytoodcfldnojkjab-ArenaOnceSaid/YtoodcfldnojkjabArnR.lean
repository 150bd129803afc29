/-
  The document's arena (ganglionref21): what each call computes. Conditions: the slices read as lists of ints.
-/
import Derived.Test.YtoodcfldnojkjabArnC
namespace Go.Proofs.Ytoodcfldnojkjab
open Go.RowKit

abbrev IntsR (w : World) (R : Nat → Prop) (A : Option Addr) (xs : List Int) : Prop := RdR (Sh.int .i64) w R A xs

set_option maxHeartbeats 1000000 in
theorem refSet_any {A : Option Addr} {n c : Nat} {L : List Int} (w : World) (hx : Ints w w.heap.size A L) (hn : L.length = n) (hl : n ≤ 5000) (k : Nat) (hk : k < n) (z : Int) :
    Calls Try.prog 20 #[.slice A n c, .int .i64 k, .int .i64 z] w fun e w' => ∃ A' c', e = .returned (.slice A' n c') ∧ n ≤ c' ∧ c' ≤ 9223372036854775807 ∧ IntsR w' (fun b => w.heap.size ≤ b ∧ b < w'.heap.size) A' (L.set k z) ∧ Below w.heap.size w w' := by
  obtain ⟨i0, hi0, hz0, hz1, hz2⟩ := info_parts info_int
  have HI := hide (And.intro hi0 (And.intro hz0 (And.intro hz1 hz2)))
  clear hi0 hz0 hz1 hz2
  have hr := hide ((RdR.reads hx (fun b h => h) hn).alloc (Nat.le_refl _) (.cells #[] 3))
  have h0 : (w.alloc (.cells #[] 3)).ownsRow w.heap.size 3 1 (.slice (some ⟨w.heap.size, 0, none⟩) 0 0) 0 [] :=
    ⟨rfl, .inr ⟨_, 0, #[], rfl, Nat.le_refl _, heap_alloc_new _ _, Nat.le_refl _, by simp [maxLen], rfl, rfl⟩⟩
  have H0 := hide h0
  have hb0 := (Below.refl w.heap.size w).alloc (Nat.le_refl _) (.cells #[] 3)
  have HN := hide hn
  obtain ⟨x0, hx0⟩ : ∃ x, L[k]? = some x := ⟨_, List.getElem?_eq_getElem (by omega)⟩
  have HX0 := hide hx0
  clear hx h0 hn hx0
  go_enter Try.func20, Try.ntmps20
  go_upto_region 2 with (at_builtin; refine wpList_append_any _ rfl _ _ 28 rfl w.heap.size 3 i0 _ 1 8 Try.underlying28 HI.out.1 HI.out.2.1 HI.out.2.2.1 HI.out.2.2.2 rfl (by decide) (.slice (some ⟨w.heap.size, 0, none⟩) 0 0) 0 [] rfl H0.out w.heap.size A n c (L.map (Value.int .i64)) rfl hr.out (by simp [Value.oneCell']) (by simp only [maxLen]; omega) (by omega) (by simp) ?_; intro v1 w1 hown hg hat; have hb1 := hb0.grown hg (by simp) (by simp [Value.ownBlock]); rw [Nat.zero_add, List.nil_append] at hown; obtain ⟨g, cap, rfl, hgb, hlt⟩ := hown.form (by omega); have HO := hide hown; have cc : w1.cell? ⟨g, k, none⟩ = some (.int .i64 x0) := (by rw [hown.cellAt k (by omega), List.getElem?_map, HX0.out]; rfl); have fc := hown.frozenAt k; clear hown hg hat)
  have hk' : (k : Int) < n := by omega
  go_wp2
  go_ret
  have hs := HO.out.stored k (.int .i64 z)
  refine ⟨_, _, rfl, ?_, ?_, ?_, hb1.setCell hgb _⟩
  · rcases own_form HO.out with ⟨_, _, e, h1, h2⟩; injection e with _ _ e; omega
  · rcases own_form HO.out with ⟨_, _, e, h1, h2⟩; injection e with _ _ e; omega
  · rw [← List.map_set] at hs
    exact intsR_own hs.1

/-- the document's arena as a value -/
def RefAt (w : World) (R : Nat → Prop) (s : Arn) (v : Value) : Prop := ∃ AS cS AG cG AK cK, v = .agg #[.slice AS s.S.length cS, .slice AG s.G.length cG, .slice AK s.K.length cK] ∧
  (s.S.length ≤ cS ∧ cS ≤ 9223372036854775807 ∧ IntsR w R AS s.S) ∧ (s.G.length ≤ cG ∧ cG ≤ 9223372036854775807 ∧ IntsR w R AG s.G) ∧ (s.K.length ≤ cK ∧ cK ≤ 9223372036854775807 ∧ IntsR w R AK s.K)
theorem RefAt.below {w w' : World} {B : Nat} {R : Nat → Prop} {s : Arn} {v : Value} (h : RefAt w R s v) (hb : Below B w w') (hR : ∀ b, R b → b < B) : RefAt w' R s v := by
  obtain ⟨AS, cS, AG, cG, AK, cK, rfl, ⟨a1, a2, a3⟩, ⟨b1, b2, b3⟩, ⟨c1, c2, c3⟩⟩ := h
  exact ⟨AS, cS, AG, cG, AK, cK, rfl, ⟨a1, a2, a3.below hb hR⟩, ⟨b1, b2, b3.below hb hR⟩, ⟨c1, c2, c3.below hb hR⟩⟩
theorem RefAt.more {w : World} {R R' : Nat → Prop} {s : Arn} {v : Value} (h : RefAt w R s v) (hR : ∀ b, R b → R' b) : RefAt w R' s v := by
  obtain ⟨AS, cS, AG, cG, AK, cK, rfl, ⟨a1, a2, a3⟩, ⟨b1, b2, b3⟩, ⟨c1, c2, c3⟩⟩ := h
  exact ⟨AS, cS, AG, cG, AK, cK, rfl, ⟨a1, a2, a3.more hR⟩, ⟨b1, b2, b3.more hR⟩, ⟨c1, c2, c3.more hR⟩⟩
theorem RefAt.keep {w w' : World} {R : Nat → Prop} {s : Arn} {v : Value} (h : RefAt w R s v) (hk : ∀ b, R b → w'.heap[b]? = w.heap[b]?) : RefAt w' R s v := by
  obtain ⟨AS, cS, AG, cG, AK, cK, rfl, ⟨a1, a2, a3⟩, ⟨b1, b2, b3⟩, ⟨c1, c2, c3⟩⟩ := h
  exact ⟨AS, cS, AG, cG, AK, cK, rfl, ⟨a1, a2, a3.keepBlocks hk⟩, ⟨b1, b2, b3.keepBlocks hk⟩, ⟨c1, c2, c3.keepBlocks hk⟩⟩

set_option maxHeartbeats 1000000 in
theorem refState_any {s : Arn} {v : Value} {R : Nat → Prop} (w : World) (h : RefAt w R s v) (hR : ∀ b, R b → b < w.heap.size) (hl : s.S.length ≤ 5000) (i : Int) :
    Calls Try.prog 15 #[v, .int .i64 i] w fun e w' => e = .returned (.int .i64 (stateOf s.S i)) ∧ Below w.heap.size w w' := by
  obtain ⟨AS, cS, AG, cG, AK, cK, rfl, ⟨a1, a2, a3⟩, -, -⟩ := h
  have hi := slot_or (S := s.S) i
  generalize hn : s.S.length = n at *
  rcases hi with hi | ⟨k, x, rfl, h1, hk, hx⟩
  · rw [stateOf_out (by rw [hn]; exact hi)]
    rcases hi with hi | hi
    · have HN := hide hn
      clear hn a3
      go_enter Try.func15, Try.ntmps15
      go_wp2
      go_ret
      exact ⟨rfl, (Below.refl _ _).alloc (Nat.le_refl _) _⟩
    · by_cases h1 : i < 1
      all_goals
        have HN := hide hn
        clear hn a3
        go_enter Try.func15, Try.ntmps15
        go_wp2
        go_ret
        exact ⟨rfl, (Below.refl _ _).alloc (Nat.le_refl _) _⟩
  · rw [stateOf_at h1 hx]
    obtain ⟨ad, y, rfl, hb, hy, hc⟩ := a3.cell (k := k) (by omega)
    obtain rfl : y = x := by rw [hx] at hy; injection hy with hy; exact hy.symm
    have hbl := hR _ hb
    have HN := hide hn
    have hc' : (w.alloc (.cells #[.slice (some ad) n cS, .slice AG s.G.length cG, .slice AK s.K.length cK] 30)).cell? (ad.add k) = some (.int .i64 y) :=
      (World.cell?_alloc_lt w _ _ (by rw [block_of_add]; exact hbl)).trans hc
    have HC := hide hc
    clear hn a3 hx hy hc
    go_enter Try.func15, Try.ntmps15
    go_wp2
    go_ret
    exact ⟨rfl, (Below.refl _ _).alloc (Nat.le_refl _) _⟩
end Go.Proofs.Ytoodcfldnojkjab
