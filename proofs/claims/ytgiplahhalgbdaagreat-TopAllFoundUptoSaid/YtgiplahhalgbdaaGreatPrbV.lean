/-
  A probe, told by lists in order: what is known, what waits, the best. Condition: a probe lies as said.
-/
import Derived.Test.YtgiplahhalgbdaaGreatPrbD
import Derived.Test.YtgiplahhalgbdaaGreatPrbN
namespace Go.Proofs.YtgiplahhalgbdaaGreat
set_option linter.unusedSimpArgs false
set_option linter.unusedVariables false
open Go.RowKit

theorem srtS_nilP : srtS [] = [] := List.eq_nil_of_length_eq_zero (srtS_len [])
/-- a probe: what it knows, what waits, what is best, in order; n is how often it was offered something -/
def PrV (w wr : World) (X M Q P : Nat) (mask ef : Int) (A : Option Addr) (c : Nat) (qs : List Int) (v v2 : Value) (n : Nat) (kn : List Int) (wt bs : List Spt) : Prop :=
  ∃ (m : List (Int × Int)) (l l2 : List Spt), PrAt w wr X M Q P (mostB ef) mask ef A c qs m v v2 l l2 ∧ KnM m kn n ∧ srtS l = wt ∧ srtS l2 = bs ∧ l.length ≤ n ∧ l2.length ≤ n ∧ l2.length ≤ mostB ef
section
variable {w wr wr' : World} {X M Q P n : Nat} {mask ef : Int} {A : Option Addr} {c : Nat} {qs kn : List Int} {v v2 : Value} {wt bs : List Spt}
theorem PrV.step (h : PrV w wr X M Q P mask ef A c qs v v2 n kn wt bs) (hb : Below wr.heap.size wr wr') : PrV w wr' X M Q P mask ef A c qs v v2 n kn wt bs := by
  obtain ⟨m, l, l2, h1, h2⟩ := h
  exact ⟨m, l, l2, h1.step hb, h2⟩
theorem PrV.bel (h : PrV w wr X M Q P mask ef A c qs v v2 n kn wt bs) : Below w.heap.size w wr := by
  obtain ⟨m, l, l2, h1, h2⟩ := h
  exact h1.bel
theorem PrV.lens (h : PrV w wr X M Q P mask ef A c qs v v2 n kn wt bs) : wt.length ≤ n ∧ bs.length ≤ n ∧ bs.length ≤ mostB ef := by
  obtain ⟨m, l, l2, h1, h2, rfl, rfl, h5, h6, h7⟩ := h
  rw [srtS_len, srtS_len]
  exact ⟨h5, h6, h7⟩
/-- blocks that came ahead of the probe -/
theorem PrV.old (h : PrV w wr X M Q P mask ef A c qs v v2 n kn wt bs) {d : Nat} (hd : d < w.heap.size) : FreeP wr M Q P v v2 d := by
  obtain ⟨m, l, l2, h1, h2⟩ := h
  have a := h1.hM
  have b := h1.q.hQ
  have b2 := h1.b.hQ
  refine ⟨Nat.lt_of_lt_of_le hd h1.bel.size, by omega, by omega, by omega, fun e => ?_, fun e => ?_⟩
  · have := (h1.q.own.lt d e).1; omega
  · have := (h1.b.own.lt d e).1; omega
theorem PrV.new (h : PrV w wr X M Q P mask ef A c qs v v2 n kn wt bs) {d : Nat} (h1 : wr.heap.size ≤ d) (h2 : d < wr'.heap.size) : FreeP wr' M Q P v v2 d := by
  obtain ⟨m, l, l2, h3, h4⟩ := h
  exact h3.new h1 h2
theorem vNew_any (A : Option Addr) (n c : Nat) (xs : List Int) (mask ef : Int) (w : World) (hx : Rd (Sh.int .i32) w w.heap.size A xs) (hn : xs.length = n) (h6 : n ≤ 35184372088832) :
    Calls Tryz.prog 56 #[.slice A n c, .int .u64 mask, .int .i64 ef] w fun e w' => ∃ X M Q P A' c', e = .returned (.pointer (some ⟨X, 0, none⟩)) ∧ w.heap.size ≤ X ∧ PrV w w' X M Q P mask ef A' c' xs (.slice none 0 0) (.slice none 0 0) 0 [] [] [] := by
  refine (prNew_any A n c xs mask ef w hx hn h6).mono ?_
  rintro e w' ⟨X, M, Q, P, A', c', rfl, hX, h⟩
  exact ⟨X, M, Q, P, A', c', rfl, hX, [], [], [], h, KnM.nil, srtS_nilP, srtS_nilP, by simp, by simp, by simp⟩
theorem vFound (h : PrV w wr X M Q P mask ef A c qs v v2 n kn wt bs) (hn : n ≤ 1000) : Calls Tryz.prog 42 #[.pointer (some ⟨X, 0, none⟩)] wr fun e w' => ∃ A' c', e = .returned (.slice A' bs.length c') ∧ bs.length ≤ c' ∧ c' ≤ 9223372036854775807 ∧ RdR SP w' (Btw wr.heap.size w'.heap.size) A' bs ∧ Below wr.heap.size wr w' := by
  obtain ⟨m, l, l2, h1, h2, rfl, rfl, h5, h6, h7⟩ := h
  refine (found_any h1 (by omega)).mono ?_
  rintro e w' ⟨v', rfl, ho, hb⟩
  obtain ⟨A', c', rfl, o1, o2⟩ := own_form ho
  rw [srtS_len]
  exact ⟨A', c', rfl, o1, o2, flatS.own ho, hb⟩
theorem vWant (h : PrV w wr X M Q P mask ef A c qs v v2 n kn wt bs) (hn : n ≤ 1000) : Calls Tryz.prog 78 #[.pointer (some ⟨X, 0, none⟩)] wr fun e w' =>
    (doneR (mostB ef) wt bs = true ∧ e = .returned (.tuple #[.int .i64 0, .bool false]) ∧ PrV w w' X M Q P mask ef A c qs v v2 n kn wt bs ∧ TurnP wr w' M Q P v v2 v v2) ∨
    (doneR (mostB ef) wt bs = false ∧ e = .returned (.tuple #[.int .i64 (fstS wt).2, .bool true]) ∧ ∃ v', PrV w w' X M Q P mask ef A c qs v' v2 n kn (wt.drop 1) bs ∧ TurnP wr w' M Q P v v2 v' v2) := by
  obtain ⟨m, l, l2, h1, h2, rfl, rfl, h5, h6, h7⟩ := h
  rw [← done_eq h1.hq h1.hb h7]
  refine (want_any h1 (by omega)).mono ?_
  rintro e w' (⟨hd, rfl, hb⟩ | ⟨hd, rfl, l', v', hp, hP, hT⟩)
  · exact .inl ⟨hd, rfl, ⟨m, l, l2, h1.step hb, h2, rfl, rfl, h5, h6, h7⟩, TurnP.of_below hb⟩
  · have hl : 0 < l.length := by have := hp.length_eq; simp at this; omega
    have hl' : l'.length ≤ n := by have := hp.length_eq; simp at this; omega
    refine .inr ⟨hd, by rw [fst_srt h1.hq hl], v', ⟨m, l', l2, hP, h2, ?_, rfl, hl', h6, h7⟩, hT⟩
    rw [srtS_pop h1.hq hp]; rfl
/-- what Offer leaves, told by lists in order -/
def offKn (kn : List Int) (s : Int) : List Int := if s ∈ kn then kn else kn ++ [s]
def offWt (kn : List Int) (wt : List Spt) (sp : Spt) : List Spt := if sp.2 ∈ kn then wt else srtS (wt ++ [sp])
def offBs (k : Nat) (has : Bool) (kn : List Int) (bs : List Spt) (sp : Spt) : List Spt := if sp.2 ∈ kn then bs else if has = true then (offR k bs sp).1 else bs
theorem vOffer (h : PrV w wr X M Q P mask ef A c qs v v2 n kn wt bs) (hn6 : n ≤ 1000) {s : Int} (hw : (Lit.int .i64 s).wf = true) (id tags : Int)
    (V : Option Addr) (nv cv : Nat) (vs : List Int) (hv : RdR (Sh.int .i32) wr (FreeP wr M Q P v v2) V vs) (hn : vs.length = nv) (hc : nv ≤ cv) (hm : cv ≤ 9223372036854775807) (hvi : I32 vs) (hqi : I32 qs) :
    Calls Tryz.prog 74 #[.pointer (some ⟨X, 0, none⟩), .int .i64 s, .agg #[.int .u64 id, .slice V nv cv, .int .u64 tags]] wr fun e w' => e = .returned (.bool (decide (s ∉ kn))) ∧ ∃ v' v2',
      PrV w w' X M Q P mask ef A c qs v' v2' (n + 1) (offKn kn s) (offWt kn wt ((distOf qs vs, id), s)) (offBs (mostB ef) (hasB mask tags) kn bs ((distOf qs vs, id), s)) ∧ TurnP wr w' M Q P v v2 v' v2' := by
  obtain ⟨m, l, l2, h1, h2, rfl, rfl, h5, h6, h7⟩ := h
  have h8 := h2.lo s
  have h9 := h2.hi s
  refine (pOffer_any h1 (by omega) (by omega) hw ⟨h8, by omega⟩ id tags V nv cv vs hv hn hc hm hvi hqi).mono ?_
  unfold offKn offWt offBs
  rintro e w' (⟨hd, rfl, hP, hT⟩ | ⟨hd, rfl, l', v', l2', v2', hp, hp2, hP, hT⟩)
  · have hs : s ∈ kn := (h2.kn s).1 hd
    rw [if_pos hs, if_pos hs, if_pos hs]
    exact ⟨by rw [decide_eq_false (by simpa using hs)], v, v2, ⟨_, l, l2, hP, h2.again hs, rfl, rfl, by omega, by omega, h7⟩, hT⟩
  · have hs : s ∉ kn := fun e => by have := (h2.kn s).2 e; omega
    rw [if_neg hs, if_neg hs, if_neg hs]
    have hl := hp.length_eq
    simp at hl
    refine ⟨by rw [decide_eq_true hs], v', v2', ⟨_, l', l2', hP, h2.once hs, srtS_push hp, ?_⟩, hT⟩
    split at hp2
    · rename_i e
      obtain ⟨r, ms, ho, hp3⟩ := hp2
      obtain ⟨g1, g2⟩ := off_eq h1.hb h7 ho
      rw [e, if_pos rfl, g1, srtS_congr hp3]
      have hl3 := hp3.length_eq
      refine ⟨rfl, by omega, ?_, by omega⟩
      rcases ho with ⟨_, e2, _⟩ | ⟨_, _, ⟨hl2, hp4⟩ | ⟨hl2, _, m', hp5, hp4⟩⟩
      · have := congrArg List.length e2; omega
      · have := hp4.length_eq; simp at this; omega
      · have := hp4.length_eq; have := hp5.length_eq; simp at *; omega
    · rename_i e
      rw [if_neg e, hp2]
      exact ⟨rfl, by omega, by omega, h7⟩
end
section
variable {w wr : World} {X M Q P k n : Nat} {mask ef : Int} {A : Option Addr} {c : Nat} {qs kn : List Int} {m : List (Int × Int)} {v v2 : Value} {l l2 wt bs : List Spt}
/-- a variable beside the probe is written -/
theorem PrAt.far (h : PrAt w wr X M Q P k mask ef A c qs m v v2 l l2) {g : Nat} (hX : X ≠ g) (hg : FreeP wr M Q P v v2 g) (hB : w.heap.size ≤ g) (hv : RdR (Sh.int .i32) wr (fun d => FreeP wr M Q P v v2 d ∧ d ≠ g) A qs) (i : Nat) (u : Value) : PrAt w (wr.setCell ⟨g, i, none⟩ u) X M Q P k mask ef A c qs m v v2 l l2 := by
  have hk : ∀ d, d ≠ g → (wr.setCell ⟨g, i, none⟩ u).heap[d]? = wr.heap[d]? := fun d hd => Below.heap_setCell _ _ _ _ hd
  have hf : ∀ d, FreeP wr M Q P v v2 d → FreeP (wr.setCell ⟨g, i, none⟩ u) M Q P v v2 d := fun d hd => ⟨by simpa using hd.1, hd.2⟩
  have nQ : Q ≠ g := fun e => hg.2.2.1 e.symm
  have nP : P ≠ g := fun e => hg.2.2.2.1 e.symm
  have nM : M ≠ g := fun e => hg.2.1 e.symm
  exact ⟨(hk X hX).trans h.x, hf X h.fx, h.c1, h.c2, (hv.keepBlocks fun d hd => hk d hd.2).more fun d hd => hf d hd.1, h.m.block (hk M nM), h.hM,
    ⟨(hk Q nQ).trans h.q.q, own_keep h.q.own fun d hd => hk d fun e => hg.2.2.2.2.1 (e ▸ hd), h.q.ne, h.q.hQ⟩, ⟨(hk P nP).trans h.b.q, own_keep h.b.own fun d hd => hk d fun e => hg.2.2.2.2.2 (e ▸ hd), h.b.ne, h.b.hQ⟩, h.hq, h.hb, h.ne, h.ap, h.bel.setCell hB _⟩
theorem PrV.far (h : PrV w wr X M Q P mask ef A c qs v v2 n kn wt bs) {g : Nat} (hX : X ≠ g) (hg : FreeP wr M Q P v v2 g) (hB : w.heap.size ≤ g) (hv : RdR (Sh.int .i32) wr (fun d => FreeP wr M Q P v v2 d ∧ d ≠ g) A qs) (i : Nat) (u : Value) : PrV w (wr.setCell ⟨g, i, none⟩ u) X M Q P mask ef A c qs v v2 n kn wt bs := by
  obtain ⟨m, l, l2, h1, h2⟩ := h
  exact ⟨m, l, l2, h1.far hX hg hB hv i u, h2⟩
theorem PrV.vec (h : PrV w wr X M Q P mask ef A c qs v v2 n kn wt bs) : RdR (Sh.int .i32) wr (FreeP wr M Q P v v2) A qs := by
  obtain ⟨m, l, l2, h1, h2⟩ := h
  exact h1.vec
end
end Go.Proofs.YtgiplahhalgbdaaGreat
