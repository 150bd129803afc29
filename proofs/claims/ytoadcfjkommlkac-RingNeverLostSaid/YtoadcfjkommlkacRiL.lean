/-
  The package ring, and the document's: what their functions hand back, as lists that can be read. Conditions: the slices read as lists of words.
-/
import Derived.Test.YtoadcfjkommlkacRiK
namespace Go.Proofs.Ytoadcfjkommlkac
set_option linter.unusedSimpArgs false
set_option linter.unusedVariables false
open Go.RowKit

theorem putW_u64 {n p : Int} (h : (putW n p).2 = 0) : U64 (putW n p).1 := by
  unfold putW at h ⊢
  split at h
  · next g => rw [if_pos g]; unfold U64; simp only; omega
  · simp at h
theorem doW_u64 {ws : List Int} (h : ∀ x ∈ ws, U64 x) (l : List OpV) : ∀ x ∈ doW ws l, U64 x := by
  unfold doW
  induction l generalizing ws with
  | nil => exact h
  | cons o l ih =>
    rw [List.foldl_cons]
    refine ih fun x hx => ?_
    unfold doStep at hx
    split at hx
    · next g =>
      rcases List.mem_or_eq_of_mem_set hx with hx | rfl
      · exact h x hx
      · exact putW_u64 g.2.1
    · exact h x hx
/-- words are handed back -/
def GivesW (w : World) (l : List Int) (e : Ending) (w' : World) : Prop := ∃ A n c, e = .returned (.slice A n c) ∧ l.length = n ∧ n ≤ c ∧ c ≤ 9223372036854775807 ∧ Rd (Sh.int .u64) w' w'.heap.size A l ∧ Below w.heap.size w w'
def GivesN (w : World) (l : List Int) (e : Ending) (w' : World) : Prop := ∃ A n c, e = .returned (.slice A n c) ∧ l.length = n ∧ n ≤ c ∧ c ≤ 9223372036854775807 ∧ Rd (Sh.int .i64) w' w'.heap.size A l ∧ Below w.heap.size w w'
def GivesP (w : World) (l : List Opr) (e : Ending) (w' : World) : Prop := ∃ A n c, e = .returned (.slice A n c) ∧ l.length = n ∧ n ≤ c ∧ c ≤ 9223372036854775807 ∧ Rd SOp w' w'.heap.size A (l.map opT) ∧ Below w.heap.size w w'
theorem givesW {w w' : World} {e : Ending} {l : List Int} {n : Nat} (h : ∃ v, e = .returned v ∧ w'.ownsRow w.heap.size 39 1 v n (fcs encU l) ∧ Below w.heap.size w w') : GivesW w l e w' := by
  obtain ⟨v, rfl, ho, hb⟩ := h
  obtain ⟨A, c, rfl, h1, h2⟩ := own_form ho
  exact ⟨A, n, c, rfl, by have := ho.1; rw [fcsU, List.length_map] at this; omega, h1, h2, (flatU.own ho).rd fun b hb => hb.2, hb⟩
theorem givesN {w w' : World} {e : Ending} {l : List Int} (h : ∃ v, e = .returned v ∧ NewInts .i64 w l v w') : GivesN w l e w' := by
  obtain ⟨v, rfl, A, n, c, rfl, h1, h2, h3, h4, h5⟩ := h
  exact ⟨A, n, c, rfl, h1, h2, h3, h4.rd fun b hb => hb.2, h5⟩
theorem givesP {w w' : World} {e : Ending} {l : List Opr} (h : GivesO w l e w') : GivesP w l e w' := by
  obtain ⟨v, rfl, ho, hb⟩ := h
  obtain ⟨A, c, rfl, h1, h2⟩ := own_form ho
  obtain ⟨h3, h4⟩ := ops_own ho
  exact ⟨A, _, c, rfl, rfl, h1, h2, h4, hb⟩
theorem qNew (s : Int) (w : World) : Calls Try.prog 23 #[.int .i64 s] w (GivesW w (newW (newM s))) := (new_any s w).mono fun _ _ h => givesW h
theorem qRefNew (s : Int) (w : World) : Calls Try.prog 24 #[.int .i64 s] w (GivesW w (newW (newM s))) := (refNew_any s w).mono fun _ _ h => givesW h
section
variable {A : Option Addr} {n c : Nat} {ws : List Int} {w : World} (hx : Rd (Sh.int .u64) w w.heap.size A ws) (hn : ws.length = n)
include hx hn
theorem qDo {B : Option Addr} {m d : Nat} {l : List OpV} (h6 : n ≤ 1000000) (hl : Rd SOp w w.heap.size B l) (hm : l.length = m) (h7 : m ≤ 1000000) : Calls Try.prog 14 #[.slice A n c, .slice B m d] w (GivesW w (doW ws l)) :=
  (do_any A B n c m d ws l w hx hn h6 hl hm h7).mono fun _ _ h => givesW h
theorem qRefDo {B : Option Addr} {m d : Nat} {l : List OpV} (h6 : n ≤ 1000000) (hl : Rd SOp w w.heap.size B l) (hm : l.length = m) (h7 : m ≤ 1000000) : Calls Try.prog 15 #[.slice A n c, .slice B m d] w (GivesW w (doW ws l)) :=
  (refDo_any A B n c m d ws l w hx hn h6 hl hm h7).mono fun _ _ h => givesW h
variable (hu : ∀ x ∈ ws, U64 x)
include hu
theorem qList : Calls Try.prog 9 #[.slice A n c] w (GivesN w (listW ws)) := (rlist_any A n c ws w hx hn hu).mono fun _ _ h => givesN h
theorem qRefList : Calls Try.prog 10 #[.slice A n c] w (GivesN w (listW ws)) := (refList_any A n c ws w hx hn hu).mono fun _ _ h => givesN h
theorem qJoins (s : Int) {l : List Opr} (h : joinW ws s = l) : Calls Try.prog 17 #[.slice A n c, .int .i64 s] w (GivesP w l) := by subst h; exact (joins_any A n c ws s w hx hn hu).mono fun _ _ h => givesP h
theorem qRefJoins (s : Int) : Calls Try.prog 18 #[.slice A n c, .int .i64 s] w (GivesP w (joinW ws s)) := (refJoins_any A n c ws s w hx hn hu).mono fun _ _ h => givesP h
theorem qCuts (s : Int) {l : List Opr} (h : cutW ws s = l) : Calls Try.prog 19 #[.slice A n c, .int .i64 s] w (GivesP w l) := by subst h; exact (cuts_any A n c ws s w hx hn hu).mono fun _ _ h => givesP h
theorem qRefCuts (s : Int) : Calls Try.prog 20 #[.slice A n c, .int .i64 s] w (GivesP w (cutW ws s)) := (refCuts_any A n c ws s w hx hn hu).mono fun _ _ h => givesP h
theorem qLocks (s : Int) {l : List Int} (h : lockW ws s = l) : Calls Try.prog 21 #[.slice A n c, .int .i64 s] w (GivesN w l) := by subst h; exact (locks_any A n c ws s w hx hn hu).mono fun _ _ h => givesN h
theorem qRefLocks (s : Int) (h6 : n ≤ 1000000) : Calls Try.prog 22 #[.slice A n c, .int .i64 s] w (GivesN w (lockW ws s)) := (refLocks_any A n c ws s w hx hn hu h6).mono fun _ _ h => givesN h
end
/-- lists that stand in memory -/
structure RL (w : World) (Aj : Option Addr) (jl : List OpV) (A1 : Option Addr) (l1 : List Int) (A2 : Option Addr) (l2 : List Int) (W : World) : Prop where
  bel : Below w.heap.size w W
  j : Rd SOp W W.heap.size Aj jl
  r1 : Rd (Sh.int .u64) W W.heap.size A1 l1
  r2 : Rd (Sh.int .u64) W W.heap.size A2 l2
theorem RL.step {w W W' : World} {Aj A1 A2 : Option Addr} {jl : List OpV} {l1 l2 : List Int} (h : RL w Aj jl A1 l1 A2 l2 W) (hb : Below W.heap.size W W') : RL w Aj jl A1 l1 A2 l2 W' :=
  ⟨Below.step h.bel hb, h.j.at_world hb, h.r1.at_world hb, h.r2.at_world hb⟩
end Go.Proofs.Ytoadcfjkommlkac
