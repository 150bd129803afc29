/-
  More small laws that every text uses: cells of ints of any kind, worlds that only drew. No condition.
-/
import Derived.Test.YtlnbeeflifmnjacLib
import Derived.IntWalk
namespace Go.Proofs.Ytlnbeeflifmnjac
set_option linter.unusedSimpArgs false
set_option linter.unusedVariables false
open Go.RowKit

theorem wrap64_i64 (n : Int) : wrap64 n = IntKind.i64.wrap n := by rw [IntKind.wrap_i64]; unfold wrap64; rfl
theorem Rd.icell {kd : IntKind} {w : World} {B : Nat} {A : Option Addr} {k : Nat} {xs : List Int} (h : Rd (Sh.int kd) w B A xs) (hk : k < xs.length) : ∃ ad x, A = some ad ∧ ad.block < B ∧ xs[k]? = some x ∧ w.cell? (ad.add k) = some (.int kd x) := by
  obtain ⟨ad, x, cs, e, hb, hx, hr, hc⟩ := h.at_ hk
  have hr' : cs = [.int kd x] := hr
  subst hr'
  exact ⟨ad, x, e, hb, hx, by simpa [Sh.int] using hc 0 _ rfl⟩
theorem RdR.icell {kd : IntKind} {w : World} {R : Nat → Prop} {A : Option Addr} {k : Nat} {xs : List Int} (h : RdR (Sh.int kd) w R A xs) (hk : k < xs.length) : ∃ ad x, A = some ad ∧ R ad.block ∧ xs[k]? = some x ∧ w.cell? (ad.add k) = some (.int kd x) := by
  obtain ⟨ad, x, cs, e, hb, hx, hr, hc⟩ := h.at_ hk
  have hr' : cs = [.int kd x] := hr
  subst hr'
  exact ⟨ad, x, e, hb, hx, by simpa [Sh.int] using hc 0 _ rfl⟩
theorem intR_mk {kd : IntKind} {w : World} {R : Nat → Prop} {ad : Addr} {xs : List Int} (hb : R ad.block) (h : ∀ (k : Nat) (x : Int), xs[k]? = some x → w.cell? (ad.add k) = some (.int kd x)) : RdR (Sh.int kd) w R (some ad) xs := fun _ =>
  ⟨ad, rfl, hb, fun k x hx => ⟨[.int kd x], rfl, fun j u hu => by
    rcases j with _ | j
    · simp at hu; subst hu; simpa [Sh.int] using h k x hx
    · simp at hu⟩⟩
theorem RdR.rd {α : Type} {S : Sh α} {w : World} {R : Nat → Prop} {B : Nat} {A : Option Addr} {xs : List α} (h : RdR S w R A xs) (hR : ∀ b, R b → b < B) : Rd S w B A xs := RdR.more h hR
/-- the blocks from b up to b' -/
def Btw (b b' : Nat) (i : Nat) : Prop := b ≤ i ∧ i < b'
theorem intR_own {kd : IntKind} {w : World} {base : Nat} {e : TypeId} {A : Option Addr} {n c : Nat} {xs : List Int} (h : w.ownsRow base e 1 (.slice A n c) n (xs.map (Value.int kd))) : RdR (Sh.int kd) w (Btw base w.heap.size) A xs := fun hne => by
  have hl : xs.length = n := by simpa using h.1
  obtain ⟨g, cap, hv, hg, hlt⟩ := h.form (by have := List.length_pos_iff.2 hne; omega)
  have hA : A = some ⟨g, 0, none⟩ := by injection hv
  subst hA
  exact intR_mk (R := Btw base w.heap.size) (ad := ⟨g, 0, none⟩) ⟨hg, hlt⟩ (fun k x hx => h.cells (g := g) rfl k _ (by simp [hx])) hne
/-- what a call that makes a list of ints leaves: a slice whose blocks are new -/
def NewInts (kd : IntKind) (w : World) (xs : List Int) (v : Value) (w' : World) : Prop :=
  ∃ A n c, v = .slice A n c ∧ xs.length = n ∧ n ≤ c ∧ c ≤ 9223372036854775807 ∧ RdR (Sh.int kd) w' (Btw w.heap.size w'.heap.size) A xs ∧ Below w.heap.size w w'
theorem NewInts.below {kd : IntKind} {w w' : World} {xs : List Int} {v : Value} (h : NewInts kd w xs v w') : Below w.heap.size w w' := by obtain ⟨_, _, _, _, _, _, _, _, hb⟩ := h; exact hb
theorem NewInts.nil {kd : IntKind} {w w' : World} (hb : Below w.heap.size w w') : NewInts kd w [] (.slice none 0 0) w' := ⟨none, 0, 0, rfl, rfl, Nat.le_refl _, by omega, RdR.nil, hb⟩
theorem NewInts.of_own {kd : IntKind} {w w' : World} {e : TypeId} {v : Value} {n : Nat} {xs : List Int} (h : w'.ownsRow w.heap.size e 1 v n (xs.map (Value.int kd))) (hb : Below w.heap.size w w') : NewInts kd w xs v w' := by
  obtain ⟨A, c, rfl, h1, h2⟩ := own_form h
  exact ⟨A, n, c, rfl, by simpa using h.1, h1, h2, intR_own h, hb⟩
/-- a world that is the elder one but for draws -/
def Drew (w w' : World) : Prop := ∃ n, w' = w.drewN n
theorem Drew.refl (w : World) : Drew w w := ⟨0, rfl⟩
theorem Drew.below {w w' : World} (h : Drew w w') : Below w.heap.size w w' := by obtain ⟨n, rfl⟩ := h; exact below_drewN (Below.refl _ _) n
theorem drewN_drewN' (w : World) (a b : Nat) : Drew w ((w.drewN a).drewN b) := ⟨a + b, by rw [World.drewN_drewN]⟩
theorem drew_drewN (w : World) (a : Nat) : Drew w (w.drewN a).drew := ⟨a + 1, rfl⟩
theorem drew_one (w : World) : Drew w w.drew := ⟨1, rfl⟩
theorem drewN_some (w : World) (a : Nat) : Drew w (w.drewN a) := ⟨a, rfl⟩

theorem add_zero' (a : Addr) : a.add 0 = a := by unfold Addr.add; simp
/-- m cells of ints -/
def ics (kd : IntKind) (f : Nat → Int) (m : Nat) : Array Value := ((List.range m).map fun i => Value.int kd (f i)).toArray
theorem ics_size (kd : IntKind) (f : Nat → Int) (m : Nat) : (ics kd f m).size = m := by simp [ics]
theorem ics_get (kd : IntKind) (f : Nat → Int) (m k : Nat) (h : k < m) : (ics kd f m)[k]? = some (.int kd (f k)) := by simp [ics, h]
theorem ics_set (kd : IntKind) (f g : Nat → Int) (m k : Nat) (v : Int) (h : ∀ i, i < m → g i = if i = k then v else f i) : (ics kd f m).setIfInBounds k (.int kd v) = ics kd g m := by
  unfold ics
  rw [List.setIfInBounds_toArray]
  congr 1
  apply List.ext_getElem
  · simp
  · intro i h1 h2
    simp at h2
    rw [List.getElem_set]
    simp [h i h2]
    by_cases e : k = i
    · simp [e]
    · simp [e, Ne.symm e]
theorem ics_congr (kd : IntKind) (f g : Nat → Int) (m : Nat) (h : ∀ i, i < m → f i = g i) : ics kd f m = ics kd g m := by
  unfold ics
  rw [List.map_congr_left (fun i hi => by rw [h i (by simpa using hi)])]
/-- the first k by g, the others by f -/
def stp (f g : Nat → Int) (k i : Nat) : Int := if i < k then g i else f i
theorem stp_at (f g : Nat → Int) (k : Nat) : stp f g k k = f k := by simp [stp]
theorem ics_stp (kd : IntKind) (f g : Nat → Int) (m k : Nat) : (ics kd (stp f g k) m).setIfInBounds k (.int kd (g k)) = ics kd (stp f g (k + 1)) m :=
  ics_set _ _ _ _ _ _ fun i _ => by
    unfold stp
    by_cases e : i = k
    · subst e; simp
    · by_cases l : i < k
      · simp [l, e, Nat.lt_succ_of_lt l]
      · simp [l, e, show ¬ i < k + 1 by omega]
theorem ics_stp0 (kd : IntKind) (f g : Nat → Int) (m : Nat) : ics kd (stp f g 0) m = ics kd f m := ics_congr _ _ _ _ fun i _ => by simp [stp]
theorem ics_stpm (kd : IntKind) (f g : Nat → Int) (m : Nat) : ics kd (stp f g m) m = ics kd g m := ics_congr _ _ _ _ fun i h => by simp [stp, h]
theorem ics_zero (kd : IntKind) (m : Nat) : rep m (.int kd 0) = ics kd (fun _ => 0) m := by
  unfold rep ics
  congr 1
  apply List.ext_getElem
  · simp
  · intro i h1 h2; simp
/-- a whole block of ints, read from its head -/
theorem intR_blk {kd : IntKind} {w : World} {R : Nat → Prop} {g m : Nat} {t : TypeId} {f : Nat → Int} {xs : List Int} (h : Blk w g t (ics kd f m)) (hR : R g) (hx : xs = (List.range m).map f) : RdR (Sh.int kd) w R (some ⟨g, 0, none⟩) xs := by
  subst hx
  refine intR_mk (ad := ⟨g, 0, none⟩) hR fun k x hx => ?_
  rw [add_mk, Nat.zero_add, h.cell]
  have hk : k < m := by simpa using (List.getElem?_eq_some_iff.1 hx).1
  rw [ics_get _ _ _ _ hk]
  simp [hk] at hx
  rw [hx]
/-- an element of a slice of slices -/
theorem RdR.slc {α : Type} {S : Sh α} {w : World} {R : Nat → Prop} {A : Option Addr} {xss : List (List α)} (h : RdR (Sh.list S) w R A xss) {k : Nat} (hk : k < xss.length) :
    ∃ ad xs A' c', A = some ad ∧ R ad.block ∧ xss[k]? = some xs ∧ w.cell? (ad.add k) = some (.slice A' xs.length c') ∧ xs.length ≤ c' ∧ c' ≤ 9223372036854775807 ∧ RdR S w R A' xs := by
  obtain ⟨ad, xs, cs, e, hb, hx, hr, hc⟩ := h.at_ hk
  obtain ⟨A', c', rfl, h1, h2, h3⟩ := hr
  exact ⟨ad, xs, A', c', e, hb, hx, by simpa [Sh.list] using hc 0 _ rfl, h1, h2, h3⟩
theorem Rd.slc {α : Type} {S : Sh α} {w : World} {B : Nat} {A : Option Addr} {xss : List (List α)} (h : Rd (Sh.list S) w B A xss) {k : Nat} (hk : k < xss.length) :
    ∃ ad xs A' c', A = some ad ∧ ad.block < B ∧ xss[k]? = some xs ∧ w.cell? (ad.add k) = some (.slice A' xs.length c') ∧ xs.length ≤ c' ∧ c' ≤ 9223372036854775807 ∧ Rd S w B A' xs := RdR.slc h hk
/-- a fact that stands as long as what lies in memory stands -/
def Stab (K : World → Prop) : Prop := ∀ W W', K W → Below W.heap.size W W' → K W'
theorem stab_below (w : World) : Stab (fun W => Below w.heap.size w W) := fun _ _ h hb => Below.step h hb
theorem stab_rd {α : Type} (S : Sh α) (A : Option Addr) (xs : List α) : Stab (fun W => Rd S W W.heap.size A xs) := fun _ _ h hb => (h.below hb (Nat.le_refl _)).more hb.size
theorem stab_and {K L : World → Prop} (h : Stab K) (k : Stab L) : Stab (fun W => K W ∧ L W) := fun W W' hh hb => ⟨h W W' hh.1 hb, k W W' hh.2 hb⟩
theorem calls_same {P : Program} {f : FuncId} {args : Array Value} {W : World} {v : Value} (h : Calls P f args W fun e w' => e = .returned v ∧ W = w') : Calls P f args W fun e w' => e = .returned v ∧ Below W.heap.size W w' :=
  h.mono fun _ _ ⟨h1, h2⟩ => ⟨h1, by subst h2; exact Below.refl _ _⟩
theorem calls_drew {P : Program} {f : FuncId} {args : Array Value} {W : World} {v : Value} (h : Calls P f args W fun e w' => e = .returned v ∧ Drew W w') : Calls P f args W fun e w' => e = .returned v ∧ Below W.heap.size W w' :=
  h.mono fun _ _ ⟨h1, h2⟩ => ⟨h1, h2.below⟩
/-- a call that returns a known value, behind whatever was laid since K was known -/
theorem Stab.call {K : World → Prop} (hs : Stab K) {W W1 : World} (hK : K W) (hb : Below W.heap.size W W1) {P : Program} {f : FuncId} {args : Array Value} {v : Value} (u : Value)
    (h : Calls P f args W1 fun e w' => e = .returned v ∧ Below W1.heap.size W1 w') (huv : v = u) : Calls P f args W1 fun e w' => e = .returned u ∧ K w' := by
  subst huv
  exact h.mono fun _ _ ⟨h1, h2⟩ => ⟨h1, hs _ _ hK (Below.step hb h2)⟩
theorem below1 (W : World) (o : Obj) : Below W.heap.size W (W.alloc o) := (Below.refl _ _).alloc (Nat.le_refl _) o
theorem below2 (W : World) (o o' : Obj) : Below W.heap.size W ((W.alloc o).alloc o') := (below1 W o).alloc (by simp) o'
theorem below3 (W : World) (o o' o'' : Obj) : Below W.heap.size W (((W.alloc o).alloc o').alloc o'') := (below2 W o o').alloc (by simp; omega) o''
theorem below4 (W : World) (o o' o'' o3 : Obj) : Below W.heap.size W ((((W.alloc o).alloc o').alloc o'').alloc o3) := (below3 W o o' o'').alloc (by simp; omega) o3
theorem lit_at {kd : IntKind} {W : World} {g B : Nat} {t : TypeId} (xs : List Int) (h : Blk W g t (xs.map (Value.int kd)).toArray) (hB : g < B) : Rd (Sh.int kd) W B (some ⟨g, 0, none⟩) xs :=
  intR_mk (R := fun b => b < B) (ad := ⟨g, 0, none⟩) hB fun k x hx => by rw [add_mk, Nat.zero_add, h.cell]; simp [hx]
/-- a slice of slices, its cells at hand -/
theorem list_at {α : Type} {S : Sh α} {W : World} {g B : Nat} {t : TypeId} {cs : Array Value} (xss : List (List α)) (h : Blk W g t cs) (hB : g < B)
    (hc : ∀ (k : Nat) (xs : List α), xss[k]? = some xs → ∃ A c, cs[k]? = some (.slice A xs.length c) ∧ xs.length ≤ c ∧ c ≤ 9223372036854775807 ∧ Rd S W B A xs) : Rd (Sh.list S) W B (some ⟨g, 0, none⟩) xss := fun _ =>
  ⟨⟨g, 0, none⟩, rfl, hB, fun k x hx => by
    obtain ⟨A, c, h1, h2, h3, h4⟩ := hc k x hx
    refine ⟨[.slice A x.length c], ⟨A, c, rfl, h2, h3, h4⟩, fun j u hu => ?_⟩
    rcases j with _ | j
    · simp at hu; subst hu
      rw [add_mk, h.cell]
      simpa [Sh.list] using h1
    · simp at hu⟩
/-- cells that hold slices -/
def LA {α : Type} (S : Sh α) (W : World) (B : Nat) (cs : List Value) (xss : List (List α)) : Prop :=
  ∀ (k : Nat) (xs : List α), xss[k]? = some xs → ∃ A c, cs[k]? = some (.slice A xs.length c) ∧ xs.length ≤ c ∧ c ≤ 9223372036854775807 ∧ Rd S W B A xs
theorem LA.nil {α : Type} {S : Sh α} {W : World} {B : Nat} {cs : List Value} : LA S W B cs [] := fun k xs h => by simp at h
theorem LA.cons {α : Type} {S : Sh α} {W : World} {B n c : Nat} {A : Option Addr} {cs : List Value} {xs : List α} {xss : List (List α)} (hn : xs.length = n) (hc : n ≤ c) (hm : c ≤ 9223372036854775807) (h : Rd S W B A xs) (k : LA S W B cs xss) :
    LA S W B (.slice A n c :: cs) (xs :: xss) := fun i ys hy => by
  rcases i with _ | i
  · simp at hy; subst hy; subst hn
    exact ⟨A, c, rfl, hc, hm, h⟩
  · exact k i ys (by simpa using hy)
theorem LA.at_ {α : Type} {S : Sh α} {W : World} {g B : Nat} {t : TypeId} {cs : List Value} {xss : List (List α)} (h : Blk W g t cs.toArray) (hB : g < B) (k : LA S W B cs xss) : Rd (Sh.list S) W B (some ⟨g, 0, none⟩) xss :=
  list_at xss h hB fun i xs hx => by simpa using k i xs hx
theorem Rd.start {α : Type} {S : Sh α} {W : World} {B : Nat} : Rd S W B none [] := RdR.nil
/-- rounded towards nought, and down -/
theorem floor_step (s n : Int) (hn : 1 ≤ n) : (s < s.tdiv n * n → s / n = s.tdiv n - 1) ∧ (¬ s < s.tdiv n * n → s / n = s.tdiv n) := by
  have h1 := Int.mul_tdiv_add_tmod s n
  have h2 : s.tmod n < n := Int.tmod_lt_of_pos s (by omega)
  have h3 : -n < s.tmod n := by
    have := Int.tmod_lt_of_pos (-s) (show 0 < n by omega)
    rw [Int.neg_tmod] at this; omega
  generalize s.tdiv n = q at *
  generalize s.tmod n = r at *
  have hc : n * q = q * n := Int.mul_comm _ _
  refine ⟨fun h => ?_, fun h => ?_⟩
  · exact ((Int.ediv_emod_unique (r := r + n) (by omega)).2 ⟨by rw [Int.mul_sub]; omega, by omega, by omega⟩).1
  · exact ((Int.ediv_emod_unique (r := r) (by omega)).2 ⟨by omega, by omega, by omega⟩).1
theorem tdiv_bound (s n : Int) (hn : 1 ≤ n) (b : Int) (hb : 0 ≤ b) (h : -b ≤ s ∧ s ≤ b) : (-b ≤ s.tdiv n * n ∧ s.tdiv n * n ≤ b) ∧ (-b ≤ s.tdiv n ∧ s.tdiv n ≤ b) := by
  have h1 := Int.mul_tdiv_add_tmod s n
  rcases Int.le_total 0 s with h0 | h0
  · have e : s.tdiv n = s / n := Int.tdiv_eq_ediv_of_nonneg h0
    have a1 := Int.ediv_nonneg h0 (show 0 ≤ n by omega)
    have a2 := Int.ediv_mul_le s (show n ≠ 0 by omega)
    have a3 := Int.ediv_le_self n h0
    have a4 := Int.mul_nonneg a1 (show 0 ≤ n by omega)
    rw [e]; omega
  · have e : s.tdiv n = -((-s) / n) := by rw [show s = -(-s) by omega, Int.neg_tdiv, Int.tdiv_eq_ediv_of_nonneg (show 0 ≤ -s by omega)]; simp
    have h0' : 0 ≤ -s := by omega
    have a1 := Int.ediv_nonneg h0' (show 0 ≤ n by omega)
    have a2 := Int.ediv_mul_le (-s) (show n ≠ 0 by omega)
    have a3 := Int.ediv_le_self n h0'
    have a4 := Int.mul_nonneg a1 (show 0 ≤ n by omega)
    rw [e, Int.neg_mul]; omega
theorem tmod_neg_iff (s n : Int) (hn : 1 ≤ n) : s.tmod n < 0 ↔ s < s.tdiv n * n := by
  have h1 := Int.mul_tdiv_add_tmod s n
  have hc : n * s.tdiv n = s.tdiv n * n := Int.mul_comm _ _
  omega
end Go.Proofs.Ytlnbeeflifmnjac
