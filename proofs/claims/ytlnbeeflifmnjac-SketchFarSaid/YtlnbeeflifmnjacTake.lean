/-
  Regions that draw their order: several plain operations (copies, choices, negations; what a guard leaves out) are taken at once. No condition.
-/
import Derived.Test.YtlnbeeflifmnjacProg
import Derived.OrdersHeld
import Derived.Deep.RegionHeld
namespace Go.Proofs.Ytlnbeeflifmnjac
set_option linter.unusedSimpArgs false
set_option linter.unusedVariables false
open Go

/-- a plain operation's value -/
def plainVal (a : Act) (o : Oper) : Option Value :=
  match o.op with
  | .move x => some (a.eval x)
  | .assign x => some (a.eval x)
  | .pick c x y => match a.eval c with
    | .bool b => some (if b then a.eval x else a.eval y)
    | _ => none
  | .unOp .not _ x => match a.eval x with
    | .bool b => some (.bool (!b))
    | _ => none
  | _ => none
theorem plainVal_run {P : Program} {a : Act} {o : Oper} {v : Value} (h : plainVal a o = some v) (w : World) : (execOp a.eval o).run P w = .ok (.value v) w := by
  obtain ⟨dst, op, t, pos, after, guard⟩ := o
  unfold plainVal at h
  cases op <;> simp only at h
  case move x => injection h with h; subst h; rfl
  case assign x => injection h with h; subst h; rfl
  case pick c x y =>
    revert h
    cases hc : a.eval c with
    | bool b =>
      intro h
      simp only [Option.some.injEq] at h
      subst h
      simp only [execOp, hc]
      cases b <;> rfl
    | _ => intro h; simp at h
  case unOp f _ x =>
    cases f <;> simp only at h
    all_goals try (exact absurd h (by simp))
    revert h
    cases hc : a.eval x with
    | bool b =>
      intro h
      simp only [Option.some.injEq] at h
      subst h
      simp only [execOp, hc]
      rfl
    | _ => intro h; simp at h
  all_goals exact absurd h (by simp)
/-- the state behind these operations (number, temporary), each taken if it may come up -/
def takeAll (md : Region.Mode) (ops : Array Oper) : List (Nat × Nat) → Array Bool → Act → Option (Array Bool × Act)
  | [], l, a => some (l, a)
  | (i, d) :: r, l, a => match ops[i]? with
    | none => none
    | some o => match o.dst == some d && (Region.free md ops l i && (Region.ready md ops l).contains i) with
      | false => none
      | true => match (match Region.wanted o (yielded ops a.tmps) with | true => plainVal a o | false => some undef) with
        | none => none
        | some v => takeAll md ops r (l.setIfInBounds i true) (a.put (some d) v)
theorem wpAnyH_takes {P : Program} {md : Region.Mode} {ops : Array Oper} {Q : Exit → Act → World → Prop} {S : World → Prop} (is : List (Nat × Nat)) (n : Nat) (hn : is.length = n) {fuel : Nat} {l l' : Array Bool} {a a' : Act} {w : World} (hs : Region.noSelect ops = true)
    (h : takeAll md ops is l a = some (l', a')) (hQ : ∀ c a d v w, Q (.panic c) (Act.put a (some d) v) w → Q (.panic c) a w) (hS : S w) (k : wpAnyH P md ops Q S fuel l' a' w) : wpAnyH P md ops Q S (fuel + n) l a w := by
  subst hn
  induction is generalizing l a with
  | nil =>
    simp only [takeAll, Option.some.injEq, Prod.mk.injEq] at h
    obtain ⟨rfl, rfl⟩ := h
    exact k
  | cons p r ih =>
    obtain ⟨i, d⟩ := p
    unfold takeAll at h
    split at h
    · exact absurd h (by simp)
    · rename_i o ho
      split at h
      · exact absurd h (by simp)
      · rename_i hb
        simp only [Bool.and_eq_true, beq_iff_eq] at hb
        obtain ⟨hd, hf, hr⟩ := hb
        split at h
        · exact absurd h (by simp)
        · rename_i v hv
          have hrec := ih h
          rw [List.length_cons, show fuel + (r.length + 1) = (fuel + r.length) + 1 by omega]
          refine wpAnyH_take ho hs hf hr (fun c a w hh => hQ c a d _ w (by rw [hd] at hh; exact hh)) (v := v) ?_ hS (by rw [hd]; exact hrec)
          split at hv
          · rename_i hw
            exact Or.inl ⟨hw, fun w _ => plainVal_run hv w⟩
          · rename_i hw
            injection hv with hv
            exact Or.inr ⟨hw, hv.symm⟩
/-- several temporaries are written -/
def putsOf : List (Nat × Value) → Array Value → Array Value
  | [], t => t
  | (d, v) :: r, t => putsOf r (t.setIfInBounds d v)
def listsOf : List Nat → Array Bool → Array Bool
  | [], t => t
  | i :: r, t => listsOf r (t.setIfInBounds i true)
theorem wpAnyH_puts {P : Program} {md : Region.Mode} {ops : Array Oper} {Q : Exit → Act → World → Prop} {S : World → Prop} (is : List (Nat × Nat)) (ds : List (Nat × Value)) (js : List Nat) (n : Nat) (hn : is.length = n) {fuel : Nat} {l : Array Bool} {t : Array Value} {df : List Deferred} {w : World} (hs : Region.noSelect ops = true)
    (h : takeAll md ops is l ⟨t, df⟩ = some (listsOf js l, ⟨putsOf ds t, df⟩)) (hQ : ∀ c a d v w, Q (.panic c) (Act.put a (some d) v) w → Q (.panic c) a w) (hS : S w) (k : wpAnyH P md ops Q S fuel (listsOf js l) ⟨putsOf ds t, df⟩ w) : wpAnyH P md ops Q S (fuel + n) l ⟨t, df⟩ w :=
  wpAnyH_takes is n hn hs h hQ hS k
/-- the operations of a region of some code -/
def opsAt (n : Nat) : Code → Option (Array Oper)
  | .region i ops _ => if i == n then some ops else none
  | .seq a b => match opsAt n a with
    | some x => some x
    | none => opsAt n b
  | .cond _ a b => match opsAt n a with
    | some x => some x
    | none => opsAt n b
  | .block _ b => opsAt n b
  | .loop b => opsAt n b
  | .rangeFunc _ _ a b => match opsAt n a with
    | some x => some x
    | none => opsAt n b
  | .scope b => opsAt n b
  | _ => none
def opsOf (f : Func) (n : Nat) : Array Oper := ((f.body.bind (opsAt n)).getD #[])
theorem wp_region_named {P : Program} {Q : Exit → Act → World → Prop} {S : World → Prop} {id : Nat} {ops : Array Oper} (ops' : Array Oper) {a : Act} {w : World} (he : ops = ops') (n : Nat) (hn : ops'.size = n) (hm : P.follows .mixedOrders = true) (hS : S w.drew)
    (h : S w.drew → wpAnyH P .any ops' Q S n (Array.replicate n false) a w.drew) : (Code.region id ops true).wp P Q a w := by
  subst he hn
  exact wp_region_held_drew hm hS h
end Go.Proofs.Ytlnbeeflifmnjac
