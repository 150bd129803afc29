/-
  Texts of one part, put together. No condition.
-/
import Derived.Test.YtgiplahhalgbdaaGreatProg
import Derived.OrdersHeld
import Derived.Deep.RegionHeld
/-
  Regions that draw their order: several plain operations (copies, choices, negations; what a guard leaves out) are taken at once. No condition.
-/
namespace Go.Proofs.YtgiplahhalgbdaaGreat
set_option linter.unusedSimpArgs false
set_option linter.unusedVariables false
open Go

/-- a plain operation's value -/
def plainVal (a : Act) (o : Oper) : Option Value :=
  match o.op with
  | .move x => some (a.eval x)
  | .assign x => some (a.eval x)
  | .pick c x y => match a.eval c with
    | .bool b => some (if b then a.eval x else a.eval y)
    | _ => none
  | .unOp .not _ x => match a.eval x with
    | .bool b => some (.bool (!b))
    | _ => none
  | _ => none
theorem plainVal_run {P : Program} {a : Act} {o : Oper} {v : Value} (h : plainVal a o = some v) (w : World) : (execOp a.eval o).run P w = .ok (.value v) w := by
  obtain ⟨dst, op, t, pos, after, guard⟩ := o
  unfold plainVal at h
  cases op <;> simp only at h
  case move x => injection h with h; subst h; rfl
  case assign x => injection h with h; subst h; rfl
  case pick c x y =>
    revert h
    cases hc : a.eval c with
    | bool b =>
      intro h
      simp only [Option.some.injEq] at h
      subst h
      simp only [execOp, hc]
      cases b <;> rfl
    | _ => intro h; simp at h
  case unOp f _ x =>
    cases f <;> simp only at h
    all_goals try (exact absurd h (by simp))
    revert h
    cases hc : a.eval x with
    | bool b =>
      intro h
      simp only [Option.some.injEq] at h
      subst h
      simp only [execOp, hc]
      rfl
    | _ => intro h; simp at h
  all_goals exact absurd h (by simp)
/-- the state behind these operations (number, temporary), each taken if it may come up -/
def takeAll (md : Region.Mode) (ops : Array Oper) : List (Nat × Nat) → Array Bool → Act → Option (Array Bool × Act)
  | [], l, a => some (l, a)
  | (i, d) :: r, l, a => match ops[i]? with
    | none => none
    | some o => match o.dst == some d && (Region.free md ops l i && (Region.ready md ops l).contains i) with
      | false => none
      | true => match (match Region.wanted o (yielded ops a.tmps) with | true => plainVal a o | false => some undef) with
        | none => none
        | some v => takeAll md ops r (l.setIfInBounds i true) (a.put (some d) v)
theorem wpAnyH_takes {P : Program} {md : Region.Mode} {ops : Array Oper} {Q : Exit → Act → World → Prop} {S : World → Prop} (is : List (Nat × Nat)) (n : Nat) (hn : is.length = n) {fuel : Nat} {l l' : Array Bool} {a a' : Act} {w : World} (hs : Region.noSelect ops = true)
    (h : takeAll md ops is l a = some (l', a')) (hQ : ∀ c a d v w, Q (.panic c) (Act.put a (some d) v) w → Q (.panic c) a w) (hS : S w) (k : wpAnyH P md ops Q S fuel l' a' w) : wpAnyH P md ops Q S (fuel + n) l a w := by
  subst hn
  induction is generalizing l a with
  | nil =>
    simp only [takeAll, Option.some.injEq, Prod.mk.injEq] at h
    obtain ⟨rfl, rfl⟩ := h
    exact k
  | cons p r ih =>
    obtain ⟨i, d⟩ := p
    unfold takeAll at h
    split at h
    · exact absurd h (by simp)
    · rename_i o ho
      split at h
      · exact absurd h (by simp)
      · rename_i hb
        simp only [Bool.and_eq_true, beq_iff_eq] at hb
        obtain ⟨hd, hf, hr⟩ := hb
        split at h
        · exact absurd h (by simp)
        · rename_i v hv
          have hrec := ih h
          rw [List.length_cons, show fuel + (r.length + 1) = (fuel + r.length) + 1 by omega]
          refine wpAnyH_take ho hs hf hr (fun c a w hh => hQ c a d _ w (by rw [hd] at hh; exact hh)) (v := v) ?_ hS (by rw [hd]; exact hrec)
          split at hv
          · rename_i hw
            exact Or.inl ⟨hw, fun w _ => plainVal_run hv w⟩
          · rename_i hw
            injection hv with hv
            exact Or.inr ⟨hw, hv.symm⟩
/-- several temporaries are written -/
def putsOf : List (Nat × Value) → Array Value → Array Value
  | [], t => t
  | (d, v) :: r, t => putsOf r (t.setIfInBounds d v)
def listsOf : List Nat → Array Bool → Array Bool
  | [], t => t
  | i :: r, t => listsOf r (t.setIfInBounds i true)
theorem wpAnyH_puts {P : Program} {md : Region.Mode} {ops : Array Oper} {Q : Exit → Act → World → Prop} {S : World → Prop} (is : List (Nat × Nat)) (ds : List (Nat × Value)) (js : List Nat) (n : Nat) (hn : is.length = n) {fuel : Nat} {l : Array Bool} {t : Array Value} {df : List Deferred} {w : World} (hs : Region.noSelect ops = true)
    (h : takeAll md ops is l ⟨t, df⟩ = some (listsOf js l, ⟨putsOf ds t, df⟩)) (hQ : ∀ c a d v w, Q (.panic c) (Act.put a (some d) v) w → Q (.panic c) a w) (hS : S w) (k : wpAnyH P md ops Q S fuel (listsOf js l) ⟨putsOf ds t, df⟩ w) : wpAnyH P md ops Q S (fuel + n) l ⟨t, df⟩ w :=
  wpAnyH_takes is n hn hs h hQ hS k
/-- the operations of a region of some code -/
def opsAt (n : Nat) : Code → Option (Array Oper)
  | .region i ops _ => if i == n then some ops else none
  | .seq a b => match opsAt n a with
    | some x => some x
    | none => opsAt n b
  | .cond _ a b => match opsAt n a with
    | some x => some x
    | none => opsAt n b
  | .block _ b => opsAt n b
  | .loop b => opsAt n b
  | .rangeFunc _ _ a b => match opsAt n a with
    | some x => some x
    | none => opsAt n b
  | .scope b => opsAt n b
  | _ => none
def opsOf (f : Func) (n : Nat) : Array Oper := ((f.body.bind (opsAt n)).getD #[])
theorem wp_region_named {P : Program} {Q : Exit → Act → World → Prop} {S : World → Prop} {id : Nat} {ops : Array Oper} (ops' : Array Oper) {a : Act} {w : World} (he : ops = ops') (n : Nat) (hn : ops'.size = n) (hm : P.follows .mixedOrders = true) (hS : S w.drew)
    (h : S w.drew → wpAnyH P .any ops' Q S n (Array.replicate n false) a w.drew) : (Code.region id ops true).wp P Q a w := by
  subst he hn
  exact wp_region_held_drew hm hS h
end Go.Proofs.YtgiplahhalgbdaaGreat

/-
  Regions that draw their order, walked by hand with small goals: what has been listed and what has been written stand as lists beside the region's first state. No condition.
-/
namespace Go.Proofs.YtgiplahhalgbdaaGreat
set_option linter.unusedSimpArgs false
set_option linter.unusedVariables false
open Go

/-- what is listed -/
def lsR (n : Nat) : List Nat → Array Bool
  | [] => Array.replicate n false
  | i :: r => (lsR n r).setIfInBounds i true
/-- what is written, the last first -/
def psR (t : List Value) : List (Nat × Value) → Array Value
  | [] => t.toArray
  | p :: r => (psR t r).setIfInBounds p.1 p.2
/-- what is written, at once: gaps -/
def fillG : List (Nat × Value) → List Value → List Value
  | [], l => l
  | _ :: _, [] => []
  | (0, v) :: r, _ :: l => v :: fillG r l
  | (k + 1, v) :: r, x :: l => x :: fillG ((k, v) :: r) l
/-- operands that are constants -/
def cEv : Operand → Value := (⟨#[], []⟩ : Act).eval
def opC (op : Op) (ty : TypeId) : Oper := ⟨none, op, ty, "", #[], none⟩
section
variable {P : Program} {md : Region.Mode} {ops : Array Oper} {Q : Exit → Act → World → Prop} {S : World → Prop} {n : Nat} {js : List Nat} {t : List Value} {ds : List (Nat × Value)} {df : List Deferred} {w : World} {fuel : Nat}
theorem startO {id : Nat} (n : Nat) (hn : ops.size = n) (hm : P.follows .mixedOrders = true) (hS : S w.drew)
    (h : S w.drew → wpAnyH P .any ops Q S n (lsR n []) ⟨psR t [], df⟩ w.drew) : (Code.region id ops true).wp P Q ⟨t.toArray, df⟩ w := by
  subst hn
  exact wp_region_held_drew hm hS h
/-- the operation may come up, and is wanted -/
def freeO (md : Region.Mode) (ops : Array Oper) (l : Array Bool) (t : Array Value) (i : Nat) : Bool :=
  Region.free md ops l i && (Region.ready md ops l).contains i && ((ops[i]?).map fun o => Region.wanted o (yielded ops t)).getD false
theorem takeO (i d : Nat) (op : Op) (ty : TypeId) (v : Value) (hx : (ops[i]?).map (fun o => (o.dst, execOp (Act.eval ⟨psR t ds, df⟩) o)) = some (some d, execOp cEv (opC op ty))) (hs : Region.noSelect ops = true)
    (hf : freeO md ops (lsR n js) (psR t ds) i = true) (hQ : ∀ c a d v w, Q (.panic c) (Act.put a (some d) v) w → Q (.panic c) a w)
    (hrun : ∀ W, S W → (execOp cEv (opC op ty)).run P W = .ok (.value v) W) (hS : S w) (k : wpAnyH P md ops Q S fuel (lsR n (i :: js)) ⟨psR t ((d, v) :: ds), df⟩ w) : wpAnyH P md ops Q S (fuel + 1) (lsR n js) ⟨psR t ds, df⟩ w := by
  unfold freeO at hf
  rw [Bool.and_eq_true, Bool.and_eq_true] at hf
  obtain ⟨⟨h1, h2⟩, h3⟩ := hf
  rw [Option.map_eq_some_iff] at hx
  obtain ⟨o, ho, hx⟩ := hx
  injection hx with hd hx
  rw [ho] at h3
  refine wpAnyH_take ho hs h1 h2 (fun c a w h => hQ c a d v w (by rw [← hd]; exact h)) (v := v) (Or.inl ⟨h3, fun W hW => by show (execOp (Act.eval ⟨psR t ds, df⟩) o).run P W = _; rw [hx]; exact hrun W hW⟩) hS ?_
  rw [hd]
  exact k
theorem putsO (is js' : List Nat) (ds' : List (Nat × Value)) (m : Nat) (hm : is.length = m) (dd : List Nat) (hs : Region.noSelect ops = true)
    (h : takeAll md ops (is.zip dd) (lsR n js) ⟨psR t ds, df⟩ = some (lsR n (js' ++ js), ⟨psR t (ds' ++ ds), df⟩)) (hl : (is.zip dd).length = is.length) (hQ : ∀ c a d v w, Q (.panic c) (Act.put a (some d) v) w → Q (.panic c) a w) (hS : S w) (k : wpAnyH P md ops Q S fuel (lsR n (js' ++ js)) ⟨psR t (ds' ++ ds), df⟩ w) : wpAnyH P md ops Q S (fuel + m) (lsR n js) ⟨psR t ds, df⟩ w :=
  wpAnyH_takes (is.zip dd) m (hl.trans hm) hs h hQ hS k
theorem readyO (rs : List Nat) (hr : Region.ready md ops (lsR n js) = rs) (hne : rs ≠ []) (h : AllReadyH P md ops Q S fuel (lsR n js) ⟨psR t ds, df⟩ w rs) : wpAnyH P md ops Q S (fuel + 1) (lsR n js) ⟨psR t ds, df⟩ w := wpAnyH_ready hr hne h
/-- wanted -/
def wantO (ops : Array Oper) (t : Array Value) (i : Nat) : Bool := ((ops[i]?).map fun o => Region.wanted o (yielded ops t)).getD false
theorem callO {rs : List Nat} (i d : Nat) (op : Op) (ty : TypeId) (f : FuncId) (args : Array Value) (hx : (ops[i]?).map (fun o => (o.dst, execOp (Act.eval ⟨psR t ds, df⟩) o)) = some (some d, execOp cEv (opC op ty)))
    (hw : wantO ops (psR t ds) i = true) (hrun : (execOp cEv (opC op ty)).run P w = .ok (.enter f args) w)
    (hc : Calls P f args w fun e w' => ∃ v, e = .returned v ∧ S w' ∧ (S w' → wpAnyH P md ops Q S fuel (lsR n (i :: js)) ⟨psR t ((d, v) :: ds), df⟩ w'))
    (hs : AllReadyH P md ops Q S fuel (lsR n js) ⟨psR t ds, df⟩ w rs) : AllReadyH P md ops Q S fuel (lsR n js) ⟨psR t ds, df⟩ w (i :: rs) := by
  rw [Option.map_eq_some_iff] at hx
  obtain ⟨o, ho, hx⟩ := hx
  injection hx with hd hx
  unfold wantO at hw
  rw [ho] at hw
  refine AllReadyH.cons ho (fun K hK => ?_) hs
  have hw2 : Region.wanted o (yielded ops (psR t ds)) = true := hw
  rw [if_pos hw2]
  show o.upon P _ K Q ((execOp (Act.eval ⟨psR t ds, df⟩) o).run P w)
  rw [hx, hrun]
  refine Calls.mono hc fun e w' he => ?_
  obtain ⟨v, rfl, h1, h2⟩ := he
  refine hK.out _ _ h1 fun h3 => ?_
  rw [hd]
  exact h2 h3
theorem memO {rs : List Nat} (i d : Nat) (op : Op) (ty : TypeId) (v : Value) (w' : World) (hx : (ops[i]?).map (fun o => (o.dst, execOp (Act.eval ⟨psR t ds, df⟩) o)) = some (some d, execOp cEv (opC op ty)))
    (hw : wantO ops (psR t ds) i = true) (hrun : (execOp cEv (opC op ty)).run P w = .ok (.value v) w') (hS : S w')
    (hc : S w' → wpAnyH P md ops Q S fuel (lsR n (i :: js)) ⟨psR t ((d, v) :: ds), df⟩ w')
    (hs : AllReadyH P md ops Q S fuel (lsR n js) ⟨psR t ds, df⟩ w rs) : AllReadyH P md ops Q S fuel (lsR n js) ⟨psR t ds, df⟩ w (i :: rs) := by
  rw [Option.map_eq_some_iff] at hx
  obtain ⟨o, ho, hx⟩ := hx
  injection hx with hd hx
  unfold wantO at hw
  rw [ho] at hw
  refine AllReadyH.cons ho (fun K hK => ?_) hs
  have hw2 : Region.wanted o (yielded ops (psR t ds)) = true := hw
  rw [if_pos hw2]
  show o.upon P _ K Q ((execOp (Act.eval ⟨psR t ds, df⟩) o).run P w)
  rw [hx, hrun]
  refine hK.out _ _ hS fun h3 => ?_
  rw [hd]
  exact hc h3
theorem storeO {rs : List Nat} (i : Nat) (op : Op) (ty : TypeId) (w' : World) (hx : (ops[i]?).map (fun o => (o.dst, execOp (Act.eval ⟨psR t ds, df⟩) o)) = some (none, execOp cEv (opC op ty)))
    (hw : wantO ops (psR t ds) i = true) (hrun : (execOp cEv (opC op ty)).run P w = .ok .skip w') (hS : S w')
    (hc : S w' → wpAnyH P md ops Q S fuel (lsR n (i :: js)) ⟨psR t ds, df⟩ w')
    (hs : AllReadyH P md ops Q S fuel (lsR n js) ⟨psR t ds, df⟩ w rs) : AllReadyH P md ops Q S fuel (lsR n js) ⟨psR t ds, df⟩ w (i :: rs) := by
  rw [Option.map_eq_some_iff] at hx
  obtain ⟨o, ho, hx⟩ := hx
  injection hx with hd hx
  unfold wantO at hw
  rw [ho] at hw
  refine AllReadyH.cons ho (fun K hK => ?_) hs
  have hw2 : Region.wanted o (yielded ops (psR t ds)) = true := hw
  rw [if_pos hw2]
  show o.upon P _ K Q ((execOp (Act.eval ⟨psR t ds, df⟩) o).run P w)
  rw [hx, hrun]
  refine hK.out _ _ hS fun h3 => ?_
  rw [hd]
  exact hc h3
theorem doneO (gs : List (Nat × Value)) (hr : Region.ready md ops (lsR n js) = []) (hp : psR t ds = (fillG gs t).toArray) (k : Q .normal ⟨(fillG gs t).toArray, df⟩ w) : wpAnyH P md ops Q S fuel (lsR n js) ⟨psR t ds, df⟩ w := by
  rw [hp] at *
  exact wpAnyH_done hr k fuel
end
end Go.Proofs.YtgiplahhalgbdaaGreat
