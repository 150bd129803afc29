/-
  Regions that draw their order, walked by hand with small goals: what has been listed and what has been written stand as lists beside the region's first state. No condition.
-/
import Derived.Test.YtlnbeeflifmnjacTake
namespace Go.Proofs.Ytlnbeeflifmnjac
set_option linter.unusedSimpArgs false
set_option linter.unusedVariables false
open Go

/-- what is listed -/
def lsR (n : Nat) : List Nat → Array Bool
  | [] => Array.replicate n false
  | i :: r => (lsR n r).setIfInBounds i true
/-- what is written, the last first -/
def psR (t : List Value) : List (Nat × Value) → Array Value
  | [] => t.toArray
  | p :: r => (psR t r).setIfInBounds p.1 p.2
/-- what is written, at once: gaps -/
def fillG : List (Nat × Value) → List Value → List Value
  | [], l => l
  | _ :: _, [] => []
  | (0, v) :: r, _ :: l => v :: fillG r l
  | (k + 1, v) :: r, x :: l => x :: fillG ((k, v) :: r) l
/-- operands that are constants -/
def cEv : Operand → Value := (⟨#[], []⟩ : Act).eval
def opC (op : Op) (ty : TypeId) : Oper := ⟨none, op, ty, "", #[], none⟩
section
variable {P : Program} {md : Region.Mode} {ops : Array Oper} {Q : Exit → Act → World → Prop} {S : World → Prop} {n : Nat} {js : List Nat} {t : List Value} {ds : List (Nat × Value)} {df : List Deferred} {w : World} {fuel : Nat}
theorem startO {id : Nat} (n : Nat) (hn : ops.size = n) (hm : P.follows .mixedOrders = true) (hS : S w.drew)
    (h : S w.drew → wpAnyH P .any ops Q S n (lsR n []) ⟨psR t [], df⟩ w.drew) : (Code.region id ops true).wp P Q ⟨t.toArray, df⟩ w := by
  subst hn
  exact wp_region_held_drew hm hS h
/-- the operation may come up, and is wanted -/
def freeO (md : Region.Mode) (ops : Array Oper) (l : Array Bool) (t : Array Value) (i : Nat) : Bool :=
  Region.free md ops l i && (Region.ready md ops l).contains i && ((ops[i]?).map fun o => Region.wanted o (yielded ops t)).getD false
theorem takeO (i d : Nat) (op : Op) (ty : TypeId) (v : Value) (hx : (ops[i]?).map (fun o => (o.dst, execOp (Act.eval ⟨psR t ds, df⟩) o)) = some (some d, execOp cEv (opC op ty))) (hs : Region.noSelect ops = true)
    (hf : freeO md ops (lsR n js) (psR t ds) i = true) (hQ : ∀ c a d v w, Q (.panic c) (Act.put a (some d) v) w → Q (.panic c) a w)
    (hrun : ∀ W, S W → (execOp cEv (opC op ty)).run P W = .ok (.value v) W) (hS : S w) (k : wpAnyH P md ops Q S fuel (lsR n (i :: js)) ⟨psR t ((d, v) :: ds), df⟩ w) : wpAnyH P md ops Q S (fuel + 1) (lsR n js) ⟨psR t ds, df⟩ w := by
  unfold freeO at hf
  rw [Bool.and_eq_true, Bool.and_eq_true] at hf
  obtain ⟨⟨h1, h2⟩, h3⟩ := hf
  rw [Option.map_eq_some_iff] at hx
  obtain ⟨o, ho, hx⟩ := hx
  injection hx with hd hx
  rw [ho] at h3
  refine wpAnyH_take ho hs h1 h2 (fun c a w h => hQ c a d v w (by rw [← hd]; exact h)) (v := v) (Or.inl ⟨h3, fun W hW => by show (execOp (Act.eval ⟨psR t ds, df⟩) o).run P W = _; rw [hx]; exact hrun W hW⟩) hS ?_
  rw [hd]
  exact k
theorem putsO (is js' : List Nat) (ds' : List (Nat × Value)) (m : Nat) (hm : is.length = m) (dd : List Nat) (hs : Region.noSelect ops = true)
    (h : takeAll md ops (is.zip dd) (lsR n js) ⟨psR t ds, df⟩ = some (lsR n (js' ++ js), ⟨psR t (ds' ++ ds), df⟩)) (hl : (is.zip dd).length = is.length) (hQ : ∀ c a d v w, Q (.panic c) (Act.put a (some d) v) w → Q (.panic c) a w) (hS : S w) (k : wpAnyH P md ops Q S fuel (lsR n (js' ++ js)) ⟨psR t (ds' ++ ds), df⟩ w) : wpAnyH P md ops Q S (fuel + m) (lsR n js) ⟨psR t ds, df⟩ w :=
  wpAnyH_takes (is.zip dd) m (hl.trans hm) hs h hQ hS k
theorem readyO (rs : List Nat) (hr : Region.ready md ops (lsR n js) = rs) (hne : rs ≠ []) (h : AllReadyH P md ops Q S fuel (lsR n js) ⟨psR t ds, df⟩ w rs) : wpAnyH P md ops Q S (fuel + 1) (lsR n js) ⟨psR t ds, df⟩ w := wpAnyH_ready hr hne h
/-- wanted -/
def wantO (ops : Array Oper) (t : Array Value) (i : Nat) : Bool := ((ops[i]?).map fun o => Region.wanted o (yielded ops t)).getD false
theorem callO {rs : List Nat} (i d : Nat) (op : Op) (ty : TypeId) (f : FuncId) (args : Array Value) (hx : (ops[i]?).map (fun o => (o.dst, execOp (Act.eval ⟨psR t ds, df⟩) o)) = some (some d, execOp cEv (opC op ty)))
    (hw : wantO ops (psR t ds) i = true) (hrun : (execOp cEv (opC op ty)).run P w = .ok (.enter f args) w)
    (hc : Calls P f args w fun e w' => ∃ v, e = .returned v ∧ S w' ∧ (S w' → wpAnyH P md ops Q S fuel (lsR n (i :: js)) ⟨psR t ((d, v) :: ds), df⟩ w'))
    (hs : AllReadyH P md ops Q S fuel (lsR n js) ⟨psR t ds, df⟩ w rs) : AllReadyH P md ops Q S fuel (lsR n js) ⟨psR t ds, df⟩ w (i :: rs) := by
  rw [Option.map_eq_some_iff] at hx
  obtain ⟨o, ho, hx⟩ := hx
  injection hx with hd hx
  unfold wantO at hw
  rw [ho] at hw
  refine AllReadyH.cons ho (fun K hK => ?_) hs
  have hw2 : Region.wanted o (yielded ops (psR t ds)) = true := hw
  rw [if_pos hw2]
  show o.upon P _ K Q ((execOp (Act.eval ⟨psR t ds, df⟩) o).run P w)
  rw [hx, hrun]
  refine Calls.mono hc fun e w' he => ?_
  obtain ⟨v, rfl, h1, h2⟩ := he
  refine hK.out _ _ h1 fun h3 => ?_
  rw [hd]
  exact h2 h3
theorem memO {rs : List Nat} (i d : Nat) (op : Op) (ty : TypeId) (v : Value) (w' : World) (hx : (ops[i]?).map (fun o => (o.dst, execOp (Act.eval ⟨psR t ds, df⟩) o)) = some (some d, execOp cEv (opC op ty)))
    (hw : wantO ops (psR t ds) i = true) (hrun : (execOp cEv (opC op ty)).run P w = .ok (.value v) w') (hS : S w')
    (hc : S w' → wpAnyH P md ops Q S fuel (lsR n (i :: js)) ⟨psR t ((d, v) :: ds), df⟩ w')
    (hs : AllReadyH P md ops Q S fuel (lsR n js) ⟨psR t ds, df⟩ w rs) : AllReadyH P md ops Q S fuel (lsR n js) ⟨psR t ds, df⟩ w (i :: rs) := by
  rw [Option.map_eq_some_iff] at hx
  obtain ⟨o, ho, hx⟩ := hx
  injection hx with hd hx
  unfold wantO at hw
  rw [ho] at hw
  refine AllReadyH.cons ho (fun K hK => ?_) hs
  have hw2 : Region.wanted o (yielded ops (psR t ds)) = true := hw
  rw [if_pos hw2]
  show o.upon P _ K Q ((execOp (Act.eval ⟨psR t ds, df⟩) o).run P w)
  rw [hx, hrun]
  refine hK.out _ _ hS fun h3 => ?_
  rw [hd]
  exact hc h3
theorem storeO {rs : List Nat} (i : Nat) (op : Op) (ty : TypeId) (w' : World) (hx : (ops[i]?).map (fun o => (o.dst, execOp (Act.eval ⟨psR t ds, df⟩) o)) = some (none, execOp cEv (opC op ty)))
    (hw : wantO ops (psR t ds) i = true) (hrun : (execOp cEv (opC op ty)).run P w = .ok .skip w') (hS : S w')
    (hc : S w' → wpAnyH P md ops Q S fuel (lsR n (i :: js)) ⟨psR t ds, df⟩ w')
    (hs : AllReadyH P md ops Q S fuel (lsR n js) ⟨psR t ds, df⟩ w rs) : AllReadyH P md ops Q S fuel (lsR n js) ⟨psR t ds, df⟩ w (i :: rs) := by
  rw [Option.map_eq_some_iff] at hx
  obtain ⟨o, ho, hx⟩ := hx
  injection hx with hd hx
  unfold wantO at hw
  rw [ho] at hw
  refine AllReadyH.cons ho (fun K hK => ?_) hs
  have hw2 : Region.wanted o (yielded ops (psR t ds)) = true := hw
  rw [if_pos hw2]
  show o.upon P _ K Q ((execOp (Act.eval ⟨psR t ds, df⟩) o).run P w)
  rw [hx, hrun]
  refine hK.out _ _ hS fun h3 => ?_
  rw [hd]
  exact hc h3
theorem doneO (gs : List (Nat × Value)) (hr : Region.ready md ops (lsR n js) = []) (hp : psR t ds = (fillG gs t).toArray) (k : Q .normal ⟨(fillG gs t).toArray, df⟩ w) : wpAnyH P md ops Q S fuel (lsR n js) ⟨psR t ds, df⟩ w := by
  rw [hp] at *
  exact wpAnyH_done hr k fuel
end
end Go.Proofs.Ytlnbeeflifmnjac
