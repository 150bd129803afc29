/-
  Small laws that every text of this seat uses: slices that read as lists, whole blocks, appends, quiet calls. No condition.
-/
import Derived.WalkKit
import Derived.WalkSpells
import Derived.WalkLawsBesides
import Derived.Deep.QuietTactic
import Derived.BigQuiet
import Derived.Lib.Hide
import Derived.Below
import Derived.Laws.Rows
import Derived.Laws.Tables
import Derived.Laws.OwnMore
import Derived.Laws.MakeOwn
import Derived.Deep.AppendLies
import Derived.Deep.Draws
import Derived.Deep.OwnRows
import Derived.Deep.WholeRow
import Derived.Maps.AppendAt
import Derived.RegionTactic
import Derived.OwnWalk
import Derived.Deep.Cut
import Derived.Deep.CutBlock
import Derived.Deep.DeepCutAuto
import Derived.Deep.RegionHeld3
import Derived.StillTailTactics
import Derived.Deep.DeepFit
import Derived.Laws.StructEq
namespace Go.Proofs.Ytlnbeeflifmnjac
set_option linter.unusedSimpArgs false
set_option linter.unusedVariables false
open Go.RowKit

theorem block_of_add (a : Addr) (n : Nat) : (a.add n).block = a.block := by unfold Addr.add; split <;> rfl
theorem add_of_add (a : Addr) (i j : Nat) : (a.add i).add j = a.add (i + j) := by
  unfold Addr.add
  by_cases hi : i = 0 <;> by_cases hj : j = 0 <;> simp [hi, hj, Nat.add_assoc]

def Reads (w : World) (B size : Nat) (A : Option Addr) (n : Nat) (xs : List Value) : Prop :=
  xs.length = n * size ∧ (0 < n → ∃ ad, A = some ad ∧ ad.block < B ∧ ∀ j u, xs[j]? = some u → w.cell? (ad.add j) = some u)

section
variable {w w' : World} {B B' size n : Nat} {A : Option Addr} {xs : List Value}
theorem Reads.none_ : Reads w B size A 0 [] := ⟨by simp, fun h => absurd h (by omega)⟩
theorem Reads.at_ {k : Nat} (h : Reads w B 1 A n xs) (hk : k < n) : ∃ ad u, A = some ad ∧ ad.block < B ∧ xs[k]? = some u ∧ w.cell? (ad.add k) = some u := by
  obtain ⟨ad, e, hb, hc⟩ := h.2 (by omega)
  have hl : k < xs.length := by have := h.1; omega
  exact ⟨ad, xs[k], e, hb, List.getElem?_eq_getElem hl, hc k _ (List.getElem?_eq_getElem hl)⟩
theorem Reads.keep (h : Reads w B size A n xs) (hk : ∀ p : Addr, p.block < B → w'.cell? p = w.cell? p) : Reads w' B size A n xs :=
  ⟨h.1, fun hn => by
    obtain ⟨ad, e, hb, hc⟩ := h.2 hn
    exact ⟨ad, e, hb, fun j u hu => (hk _ (by rw [block_of_add]; exact hb)).trans (hc j u hu)⟩⟩
theorem Reads.more (h : Reads w B size A n xs) (hB : B ≤ B') : Reads w B' size A n xs :=
  ⟨h.1, fun hn => by
    obtain ⟨ad, e, hb, hc⟩ := h.2 hn
    exact ⟨ad, e, by omega, hc⟩⟩
theorem Reads.below (h : Reads w B size A n xs) (hb : Below B w w') : Reads w' B size A n xs := h.keep fun _ hp => hb.cell hp
theorem Reads.drew (h : Reads w B size A n xs) : Reads w.drew B size A n xs := h
theorem Reads.drewN (h : Reads w B size A n xs) (k : Nat) : Reads (w.drewN k) B size A n xs := h
theorem Reads.alloc (h : Reads w B size A n xs) (hB : B ≤ w.heap.size) (o : Obj) : Reads (w.alloc o) B size A n xs := h.keep fun p hp => World.cell?_alloc_lt w o p (by omega)
theorem Reads.setCell (h : Reads w B size A n xs) {p : Addr} (hB : B ≤ p.block) (u : Value) : Reads (w.setCell p u) B size A n xs :=
  h.keep fun q hq => World.cell?_setCell_other w p q u (fun e => by subst e; omega)
theorem Reads.grown (h : Reads w B size A n xs) {row : Option Nat} (hg : w.grownBy w' row) (hB : B ≤ w.heap.size) (hr : ∀ g, row = some g → B ≤ g) : Reads w' B size A n xs :=
  h.keep fun p hp => World.cell?_of_block (hg.block p.block (by omega) (fun e => by have := hr _ e.symm; omega))
theorem Reads.cut (h : Reads w B size A n xs) {k cap : Nat} (hk : k ≤ n) (hc : n ≤ cap) :
    Reads w B size (if cap = k then A else A.map (·.add (k * size))) (n - k) (xs.drop (k * size)) := by
  refine ⟨by rw [List.length_drop, h.1, Nat.sub_mul], fun hn => ?_⟩
  obtain ⟨ad, rfl, hb, hcell⟩ := h.2 (by omega)
  rw [if_neg (by omega)]
  refine ⟨ad.add (k * size), rfl, by rw [block_of_add]; exact hb, fun j u hu => ?_⟩
  rw [add_of_add]
  exact hcell _ u (by rw [← hu, List.getElem?_drop])
theorem Reads.of_own {base : Nat} {e : TypeId} {c : Nat} (h : w.ownsRow base e size (.slice A n c) n xs) : Reads w w.heap.size size A n xs := by
  refine ⟨h.1, fun hn => ?_⟩
  obtain ⟨g, cap, hv, _, hlt⟩ := h.form hn
  have hA : A = some ⟨g, 0, none⟩ := by injection hv
  subst hA
  exact ⟨_, rfl, hlt, h.cells (g := g) rfl⟩
end

def Blk (w : World) (g : Nat) (t : TypeId) (cs : Array Value) : Prop := w.heap[g]? = some (.cells cs t (0, 0))

section
variable {w w' : World} {g : Nat} {t : TypeId} {cs : Array Value}
theorem Blk.lt (h : Blk w g t cs) : g < w.heap.size := by
  rcases Nat.lt_or_ge g w.heap.size with hlt | hge
  · exact hlt
  · unfold Blk at h; rw [Array.getElem?_eq_none hge] at h; cases h
theorem Blk.cell (h : Blk w g t cs) (i : Nat) : w.cell? ⟨g, i, none⟩ = cs[i]? := cell_of_row w g i cs t (0, 0) h
theorem Blk.frozen (h : Blk w g t cs) (i : Nat) : w.frozen? ⟨g, i, none⟩ = false := by
  unfold Blk at h
  simp [World.frozen?, h]
theorem Blk.new (w : World) (t : TypeId) (cs : Array Value) : Blk (w.alloc (.cells cs t)) w.heap.size t cs := heap_alloc_new w _
theorem Blk.drew (h : Blk w g t cs) : Blk w.drew g t cs := h
theorem Blk.drewN (h : Blk w g t cs) (n : Nat) : Blk (w.drewN n) g t cs := h
theorem Blk.alloc (h : Blk w g t cs) (o : Obj) : Blk (w.alloc o) g t cs := (Below.heap_alloc w o g h.lt).trans h
theorem Blk.set_ (h : Blk w g t cs) (i : Nat) (u : Value) : Blk (w.setCell ⟨g, i, none⟩ u) g t (cs.setIfInBounds i u) := by
  unfold Blk at h ⊢
  simp [World.setCell, Array.getElem?_modify, h]
theorem Blk.far (h : Blk w g t cs) {p : Addr} (hp : g ≠ p.block) (u : Value) : Blk (w.setCell p u) g t cs := (Below.heap_setCell w p u g hp).trans h
theorem Blk.below {B : Nat} (h : Blk w g t cs) (hb : Below B w w') (hg : g < B) : Blk w' g t cs := (hb.block g hg).trans h
theorem Blk.grown {row : Option Nat} (h : Blk w g t cs) (hb : w.grownBy w' row) (hg : some g ≠ row) : Blk w' g t cs := (hb.block g h.lt hg).trans h
theorem Blk.ne_ {g' : Nat} {t' : TypeId} {cs' : Array Value} (h : Blk w g t cs) (h' : Blk w g' t' cs') (hne : t ≠ t') : g ≠ g' := by
  rintro rfl
  unfold Blk at h h'
  rw [h] at h'
  injection h' with h'
  injection h' with _ ht
  exact hne ht
theorem own_blk_ne {base : Nat} {e : TypeId} {size n : Nat} {v : Value} {xs : List Value} (h : w.ownsRow base e size v n xs) (hg : Blk w g t cs) (hne : e ≠ t) : v.ownBlock ≠ some g := by
  rcases h.2 with ⟨rfl, _⟩ | ⟨g', cap, cur, rfl, _, hh, _⟩
  · simp [Value.ownBlock]
  · intro he
    have : g' = g := by simpa [Value.ownBlock] using he
    subst this
    exact Blk.ne_ (t := e) hh hg hne rfl
end

section
variable {P : Program} (w : World)

theorem run_append_of_nil (base : Nat) (t ty e : TypeId) (i : TypeInfo) (size : Nat) (ht : P.underlying t = some (.slice e)) (hi : P.info? e = some i)
    (v : Value) (n : Nat) (xs : List Value) (hown : w.ownsRow base e size v n xs) (c : Nat) : (Builtin.append_ #[t, t] ty #[v, .slice none 0 c]).run P w = .ok v w := by
  rcases hown.2 with ⟨rfl, rfl⟩ | ⟨g, cap, cur, rfl, _, _, hnc, _⟩
  · simp [Builtin.append_, run_underlying ht, sizeOf, typeInfo, hi, Builtin.lenOf, Builtin.firstCells]
  · simp [Builtin.append_, run_underlying ht, sizeOf, typeInfo, hi, Builtin.lenOf, Builtin.firstCells, hnc, storeCells]

theorem run_append_any (base : Nat) (t ty e : TypeId) (i : TypeInfo) (z : Value) (size bytes : Nat) (ht : P.underlying t = some (.slice e)) (hi : P.info? e = some i) (hz : i.zero = some z)
    (hsize : i.size = size) (hby : i.bytes = bytes) (hzs : z.cells.size = size) (hsz : 0 < size)
    (v : Value) (n : Nat) (xs : List Value) (hown : w.ownsRow base e size v n xs)
    (B : Nat) (A : Option Addr) (m c : Nat) (news : List Value) (hr : Reads w B size A m news) (h1 : ∀ u ∈ news, u.oneCell' = true)
    (h63 : n + m ≤ maxLen) (hbytes : (n + m) * bytes ≤ 140737488355328) (hbase : base ≤ w.heap.size) :
    ∃ v' w', (Builtin.append_ #[t, t] ty #[v, .slice A m c]).run P w = .ok v' w' ∧ w'.ownsRow base e size v' (n + m) (xs ++ news) ∧ w.grownBy w' v.ownBlock ∧
      (v'.ownBlock = v.ownBlock ∨ v'.ownBlock = some w.heap.size) := by
  rcases A with _ | ad
  · have hm : m = 0 := by
      rcases Nat.eq_zero_or_pos m with h0 | h0
      · exact h0
      · obtain ⟨ad, h, _⟩ := hr.2 h0
        cases h
    subst hm
    have hn : news = [] := List.eq_nil_of_length_eq_zero (by simpa using hr.1)
    subst hn
    exact ⟨v, w, run_append_of_nil w base t ty e i size ht hi v n xs hown c, by simpa using hown, World.grownBy.refl w _, .inl rfl⟩
  · have hcells : ∀ j u, news[j]? = some u → w.cell? (ad.add j) = some u := by
      intro j u hu
      rcases Nat.eq_zero_or_pos m with h0 | h0
      · subst h0
        have hn : news = [] := List.eq_nil_of_length_eq_zero (by simpa using hr.1)
        subst hn
        simp at hu
      · obtain ⟨ad', h, _, hc⟩ := hr.2 h0
        injection h with h
        subst h
        exact hc j u hu
    obtain ⟨v', w', hrun, h2, h3, _, h5⟩ := run_append_own_at (P := P) w base t ty e i z size bytes ht hi hz hsize hby hzs hsz v n xs hown ad m c news hr.1 hcells h1 h63 hbytes hbase
    exact ⟨v', w', hrun, h2, h3, h5⟩

theorem wp_append_any {o : Oper} {a : Act} {K : Act → World → Prop} {Q : Exit → Act → World → Prop} (s x : Operand) (t : TypeId)
    (ho : o.op = .call { callee := .builtin .append, args := #[s, x], argTypes := #[t, t] })
    (base : Nat) (e : TypeId) (i : TypeInfo) (z : Value) (size bytes : Nat) (ht : P.underlying t = some (.slice e)) (hi : P.info? e = some i) (hz : i.zero = some z)
    (hsize : i.size = size) (hby : i.bytes = bytes) (hzs : z.cells.size = size) (hsz : 0 < size)
    (v : Value) (n : Nat) (xs : List Value) (hs : a.eval s = v) (hown : w.ownsRow base e size v n xs)
    (B : Nat) (A : Option Addr) (m c : Nat) (news : List Value) (hx : a.eval x = .slice A m c) (hr : Reads w B size A m news) (h1 : ∀ u ∈ news, u.oneCell' = true)
    (h63 : n + m ≤ maxLen) (hbytes : (n + m) * bytes ≤ 140737488355328) (hbase : base ≤ w.heap.size)
    (h : ∀ v' w', w'.ownsRow base e size v' (n + m) (xs ++ news) → w.grownBy w' v.ownBlock → (v'.ownBlock = v.ownBlock ∨ v'.ownBlock = some w.heap.size) → K (a.put o.dst v') w') : o.wp P a w K Q := by
  obtain ⟨v', w', hrun, h2, h3, h4⟩ := run_append_any (P := P) w base t o.type e i z size bytes ht hi hz hsize hby hzs hsz v n xs hown B A m c news hr h1 h63 hbytes hbase
  unfold Oper.wp execOp
  simp only [ho, resolve, invoke, builtin, Sem.run_bind, Sem.run_pure, Result.andThen_ok, List.map_toArray, List.map_cons, List.map_nil, hs, hx, hrun]
  exact h v' w' h2 h3 h4

theorem wpList_append_any {ops : Array Oper} {rest : List Oper} {o : Oper} {a : Act} {Q : Exit → Act → World → Prop} (hgd : o.guard = none) (s x : Operand) (t : TypeId)
    (ho : o.op = .call { callee := .builtin .append, args := #[s, x], argTypes := #[t, t] })
    (base : Nat) (e : TypeId) (i : TypeInfo) (z : Value) (size bytes : Nat) (ht : P.underlying t = some (.slice e)) (hi : P.info? e = some i) (hz : i.zero = some z)
    (hsize : i.size = size) (hby : i.bytes = bytes) (hzs : z.cells.size = size) (hsz : 0 < size)
    (v : Value) (n : Nat) (xs : List Value) (hs : a.eval s = v) (hown : w.ownsRow base e size v n xs)
    (B : Nat) (A : Option Addr) (m c : Nat) (news : List Value) (hx : a.eval x = .slice A m c) (hr : Reads w B size A m news) (h1 : ∀ u ∈ news, u.oneCell' = true)
    (h63 : n + m ≤ maxLen) (hbytes : (n + m) * bytes ≤ 140737488355328) (hbase : base ≤ w.heap.size)
    (h : ∀ v' w', w'.ownsRow base e size v' (n + m) (xs ++ news) → w.grownBy w' v.ownBlock → (v'.ownBlock = v.ownBlock ∨ v'.ownBlock = some w.heap.size) → wpList P ops Q rest (a.put o.dst v') w') : wpList P ops Q (o :: rest) a w :=
  wpList_plain hgd fun _ hK => wp_append_any w s x t ho base e i z size bytes ht hi hz hsize hby hzs hsz v n xs hs hown B A m c news hx hr h1 h63 hbytes hbase fun v' w' h2 h3 h4 => hK _ _ (h v' w' h2 h3 h4)

theorem step_append_any {ops : Array Oper} {o : Oper} {a : Act} {K : Act → World → Prop} {Q : Exit → Act → World → Prop} {E : Prop} (hgd : o.guard = none) (s x : Operand) (t : TypeId)
    (ho : o.op = .call { callee := .builtin .append, args := #[s, x], argTypes := #[t, t] })
    (base : Nat) (e : TypeId) (i : TypeInfo) (z : Value) (size bytes : Nat) (ht : P.underlying t = some (.slice e)) (hi : P.info? e = some i) (hz : i.zero = some z)
    (hsize : i.size = size) (hby : i.bytes = bytes) (hzs : z.cells.size = size) (hsz : 0 < size)
    (v : Value) (n : Nat) (xs : List Value) (hs : a.eval s = v) (hown : w.ownsRow base e size v n xs)
    (B : Nat) (A : Option Addr) (m c : Nat) (news : List Value) (hx : a.eval x = .slice A m c) (hr : Reads w B size A m news) (h1 : ∀ u ∈ news, u.oneCell' = true)
    (h63 : n + m ≤ maxLen) (hbytes : (n + m) * bytes ≤ 140737488355328) (hbase : base ≤ w.heap.size)
    (h : ∀ v' w', w'.ownsRow base e size v' (n + m) (xs ++ news) → w.grownBy w' v.ownBlock → (v'.ownBlock = v.ownBlock ∨ v'.ownBlock = some w.heap.size) → K (a.put o.dst v') w') :
    if Region.wanted o (yielded ops a.tmps) = true then Oper.wp P o a w K Q else E := by
  have hw : Region.wanted o (yielded ops a.tmps) = true := by simp [Region.wanted, hgd]
  rw [if_pos hw]
  exact wp_append_any w s x t ho base e i z size bytes ht hi hz hsize hby hzs hsz v n xs hs hown B A m c news hx hr h1 h63 hbytes hbase h
end

theorem hide {p : Prop} (h : p) : Hid p := h
theorem unhide {p : Prop} (h : Hid p) : p := h

theorem quiet_add {P : Program} {f : FuncId} {args : Array Value} {w : World} {a n : Nat} {v : Value}
    (h : Calls P f args (w.drewN (a + n)) fun e w' => e = .returned v ∧ ∃ m, w' = (w.drewN (a + n)).drewN m) :
    Calls P f args (w.drewN (a + n)) fun e w'' => e = .returned v ∧ ∃ m, w'' = w.drewN (a + m) :=
  h.mono fun _ _ ⟨he, m, hm⟩ => ⟨he, n + m, by rw [hm, World.drewN_drewN, Nat.add_assoc]⟩
theorem quiet_add_same {P : Program} {f : FuncId} {args : Array Value} {w : World} {a n : Nat} {v : Value}
    (h : Calls P f args (w.drewN (a + n)) fun e w' => e = .returned v ∧ w' = w.drewN (a + n)) :
    Calls P f args (w.drewN (a + n)) fun e w'' => e = .returned v ∧ ∃ m, w'' = w.drewN (a + m) :=
  h.mono fun _ _ ⟨he, hm⟩ => ⟨he, n, hm⟩
theorem quiet_add_left {P : Program} {f : FuncId} {args : Array Value} {w : World} {a n : Nat} {v : Value}
    (h : Calls P f args (w.drewN (a + n)) fun e w' => e = .returned v ∧ w.drewN (a + n) = w') :
    Calls P f args (w.drewN (a + n)) fun e w'' => e = .returned v ∧ ∃ m, w'' = w.drewN (a + m) :=
  h.mono fun _ _ ⟨he, hm⟩ => ⟨he, n, hm.symm⟩
theorem quiet_left {P : Program} {f : FuncId} {args : Array Value} {w : World} {n : Nat} {v : Value}
    (h : Calls P f args (w.drewN n) fun e w' => e = .returned v ∧ w.drewN n = w') : Calls P f args (w.drewN n) fun e w'' => e = .returned v ∧ ∃ m, w'' = w.drewN m :=
  h.mono fun _ _ ⟨he, hm⟩ => ⟨he, n, hm.symm⟩

theorem results_tmp4 {fn : Func} {t u v x : Tmp} (h : fn.results = #[.tmp t, .tmp u, .tmp v, .tmp x]) (tmps : Array Value) (P : Program) (w : World) :
    (results fn tmps).run P w = .ok (.tuple #[tmps.getD t undef, tmps.getD u undef, tmps.getD v undef, tmps.getD x undef]) w := by simp [results, h]
theorem results_tmp5 {fn : Func} {t u v x y : Tmp} (h : fn.results = #[.tmp t, .tmp u, .tmp v, .tmp x, .tmp y]) (tmps : Array Value) (P : Program) (w : World) :
    (results fn tmps).run P w = .ok (.tuple #[tmps.getD t undef, tmps.getD u undef, tmps.getD v undef, tmps.getD x undef, tmps.getD y undef]) w := by simp [results, h]

theorem below_drewN {B : Nat} {a w : World} (h : Below B a w) (n : Nat) : Below B a (w.drewN n) := ⟨h.os, h.tape, h.output, h.size, h.block⟩
theorem rowIs_drewN {w : World} {b : Nat} {t : TypeId} {n : Nat} {f : Nat → Value} (h : w.rowIs b t n f) (k : Nat) : (w.drewN k).rowIs b t n f := h
theorem grown_trans {a b c : World} (h : Grown a b) (k : Grown b c) : Grown a c :=
  ⟨World.keptBut_trans h.1 k.1, fun x => (k.2.1 x).trans (h.2.1 x), Nat.le_trans h.2.2 k.2.2⟩

theorem only_drewN {a w : World} {row : Option Nat} (h : a.grownBy w row) (n : Nat) : a.grownBy (w.drewN n) row := ⟨h.os, h.tape, h.output, h.size, h.block⟩
theorem only_drew {a w : World} {row : Option Nat} (h : a.grownBy w row) : a.grownBy w.drew row := ⟨h.os, h.tape, h.output, h.size, h.block⟩
theorem only_alloc {a w : World} {row : Option Nat} (h : a.grownBy w row) (o : Obj) : a.grownBy (w.alloc o) row :=
  ⟨h.os, h.tape, h.output, Nat.le_trans h.size (by simp), fun i hi hne => (Below.heap_alloc w o i (Nat.lt_of_lt_of_le hi h.size)).trans (h.block i hi hne)⟩
theorem only_setCell {a w : World} {g : Nat} (h : a.grownBy w (some g)) {p : Addr} (hp : p.block = g ∨ a.heap.size ≤ p.block) (u : Value) : a.grownBy (w.setCell p u) (some g) :=
  ⟨h.os, h.tape, h.output, by simpa [World.setCell] using h.size, fun i hi hne => (Below.heap_setCell w p u i (by
    rintro rfl
    rcases hp with hp | hp
    · exact hne (by rw [hp])
    · omega)).trans (h.block i hi hne)⟩
theorem only_of_below {a w : World} (h : Below a.heap.size a w) (row : Option Nat) : a.grownBy w row := ⟨h.os, h.tape, h.output, h.size, fun i hi _ => h.block i hi⟩

theorem run_make_rowN {P : Program} (t e : TypeId) (i : TypeInfo) (z : Value) (ht : P.underlying t = some (.slice e)) (hi : P.info? e = some i) (hz : i.zero = some z)
    (kl kc : IntKind) (n c : Nat) (hnc : n ≤ c) (hbytes : i.bytes * c ≤ 281474976710656) (h63 : c ≤ 9223372036854775807) (w : World) :
    (Instr.makeSlice t (.int kl (n : Int)) (.int kc (c : Int))).run P w = .ok (.slice (some ⟨w.heap.size, 0, none⟩) n c) (w.alloc (.cells (madeCells z.cells (c * i.size)) e)) := by
  have hb : (i.bytes : Int) * (c : Int) ≤ 281474976710656 := by
    have h : ((i.bytes * c : Nat) : Int) ≤ 281474976710656 := by omega
    rwa [Int.natCast_mul] at h
  have hr := run_make (P := P) w t e i z ht hi hz kl kc n c (by omega) (by omega) hb (by omega)
  simp only [Int.toNat_natCast] at hr
  exact hr
theorem run_makeMap_hint {P : Program} (t k e : TypeId) (kd : IntKind) (n : Int) (ht : P.underlying t = some (.map k e)) (w : World) :
    (Instr.makeMap t (some (.int kd n))).run P w = .ok (.map (some w.heap.size)) (w.alloc (.map #[] 0)) := by
  simp [Instr.makeMap, run_underlying ht]; rfl

/-! ### own words -/
theorem below_setRow {B : Nat} {a w : World} (h : Below B a w) {g : Nat} (hg : B ≤ g) (cs : Array Value) : Below B a (w.setRow g cs) :=
  ⟨h.os, h.tape, h.output, by simpa using h.size, fun k hk => (setRow_other w g k cs (by omega)).trans (h.block k hk)⟩
theorem Blk.setRow {w : World} {g : Nat} {t : TypeId} {cs : Array Value} (h : Blk w g t cs) (cs' : Array Value) : Blk (w.setRow g cs') g t cs' := setRow_heap _ _ _ _ _ _ h
theorem Blk.setRow_far {w : World} {g g' : Nat} {t : TypeId} {cs : Array Value} (h : Blk w g t cs) (hne : g ≠ g') (cs' : Array Value) : Blk (w.setRow g' cs') g t cs := (setRow_other w g' g cs' hne).trans h
theorem bcell {W w1 : World} {B : Nat} (hb : Below B W w1) : (∀ b o, b < B → w1.cell? ⟨b, o, none⟩ = W.cell? ⟨b, o, none⟩) ∧ (∀ b o, b < B → w1.frozen? ⟨b, o, none⟩ = W.frozen? ⟨b, o, none⟩) :=
  ⟨fun b o h => hb.cell (p := ⟨b, o, none⟩) h, fun b o h => hb.frozen (p := ⟨b, o, none⟩) h⟩
theorem wpList_store_row {P : Program} {ops : Array Oper} {rest : List Oper} {o : Oper} {a : Act} {w : World} {Q : Exit → Act → World → Prop} (hgd : o.guard = none) (ty : TypeId) (x y : Operand) (ho : o.op = .store ty x y)
    (g : Nat) (hx : a.eval x = .pointer (some ⟨g, 0, none⟩)) (t : TypeId) (old cells : Array Value) (hy : a.eval y = .agg cells) (hg : Blk w g t old) (hi : (P.info? ty).map (·.size) = some cells.size)
    (hs : old.size = cells.size) (h1 : cells.all (·.oneCell') = true)
    (h : wpList P ops Q rest (a.put o.dst undef) (w.setRow g cells)) : wpList P ops Q (o :: rest) a w :=
  wpList_plain hgd fun _ hK => by
    unfold Oper.wp execOp
    simp only [ho, hx, hy, Instr.storeAt, Instr.sureAddr, Sem.run_bind, Sem.run_pure, Result.andThen_ok, run_storeVar_row w g t ty old cells hg hi hs h1]
    exact hK _ _ h

/-! ### what is read: a shape of one value of Lean's, as cells; R tells in which blocks all of it lies -/
structure Sh (α : Type) where
  size : Nat
  rd : World → (Nat → Prop) → α → List Value → Prop
  len : ∀ {w R x cs}, rd w R x cs → cs.length = size
  keep : ∀ {w w' R x cs}, rd w R x cs → (∀ p : Addr, R p.block → w'.cell? p = w.cell? p) → rd w' R x cs
  more : ∀ {w} {R R' : Nat → Prop} {x cs}, rd w R x cs → (∀ b, R b → R' b) → rd w R' x cs

def Sh.int (k : IntKind) : Sh Int := ⟨1, fun _ _ x cs => cs = [.int k x], fun h => by rw [h]; rfl, fun h _ => h, fun h _ => h⟩
def Sh.bool : Sh Bool := ⟨1, fun _ _ x cs => cs = [.bool x], fun h => by rw [h]; rfl, fun h _ => h, fun h _ => h⟩
def Sh.str : Sh ByteArray := ⟨1, fun _ _ x cs => cs = [.string x], fun h => by rw [h]; rfl, fun h _ => h, fun h _ => h⟩
/-- two shapes side by side -/
def Sh.pair {α β : Type} (S : Sh α) (T : Sh β) : Sh (α × β) :=
  ⟨S.size + T.size, fun w R x cs => ∃ c d, cs = c ++ d ∧ S.rd w R x.1 c ∧ T.rd w R x.2 d,
   fun ⟨c, d, e, h, k⟩ => by rw [e, List.length_append, S.len h, T.len k],
   fun ⟨c, d, e, h, k⟩ hk => ⟨c, d, e, S.keep h hk, T.keep k hk⟩,
   fun ⟨c, d, e, h, k⟩ hB => ⟨c, d, e, S.more h hB, T.more k hB⟩⟩
/-- a shape by another type's -/
def Sh.by {α β : Type} (S : Sh α) (f : β → α) : Sh β :=
  ⟨S.size, fun w R x cs => S.rd w R (f x) cs, fun h => S.len h, fun h hk => S.keep h hk, fun h hB => S.more h hB⟩

/-- the address A (nil: nothing) leads to cells that read as xs, all in blocks of R -/
def RdR {α : Type} (S : Sh α) (w : World) (R : Nat → Prop) (A : Option Addr) (xs : List α) : Prop :=
  xs ≠ [] → ∃ ad, A = some ad ∧ R ad.block ∧ ∀ (k : Nat) (x : α), xs[k]? = some x → ∃ cs, S.rd w R x cs ∧ ∀ (j : Nat) (u : Value), cs[j]? = some u → w.cell? (ad.add (k * S.size + j)) = some u
/-- .. all below block B -/
def Rd {α : Type} (S : Sh α) (w : World) (B : Nat) (A : Option Addr) (xs : List α) : Prop := RdR S w (fun b => b < B) A xs

section
variable {α : Type} {S : Sh α} {w w' : World} {R R' : Nat → Prop} {A : Option Addr} {xs : List α}
theorem RdR.keep (h : RdR S w R A xs) (hk : ∀ p : Addr, R p.block → w'.cell? p = w.cell? p) : RdR S w' R A xs := fun hn => by
  obtain ⟨ad, e, hb, hc⟩ := h hn
  refine ⟨ad, e, hb, fun k x hx => ?_⟩
  obtain ⟨cs, h1, h2⟩ := hc k x hx
  exact ⟨cs, S.keep h1 hk, fun j u hu => (hk _ (by rw [block_of_add]; exact hb)).trans (h2 j u hu)⟩
theorem RdR.keepBlocks (h : RdR S w R A xs) (hk : ∀ b, R b → w'.heap[b]? = w.heap[b]?) : RdR S w' R A xs := h.keep fun p hp => World.cell?_of_block (hk p.block hp)
theorem RdR.more (h : RdR S w R A xs) (hB : ∀ b, R b → R' b) : RdR S w R' A xs := fun hn => by
  obtain ⟨ad, e, hb, hc⟩ := h hn
  refine ⟨ad, e, hB _ hb, fun k x hx => ?_⟩
  obtain ⟨cs, h1, h2⟩ := hc k x hx
  exact ⟨cs, S.more h1 hB, h2⟩
theorem RdR.nil : RdR S w R A [] := fun h => absurd rfl h
theorem RdR.get (h : RdR S w R A xs) {k : Nat} {x : α} (hx : xs[k]? = some x) :
    ∃ ad cs, A = some ad ∧ R ad.block ∧ S.rd w R x cs ∧ ∀ (j : Nat) (u : Value), cs[j]? = some u → w.cell? (ad.add (k * S.size + j)) = some u := by
  obtain ⟨ad, e, hb, hc⟩ := h (by rintro rfl; simp at hx)
  obtain ⟨cs, h1, h2⟩ := hc k x hx
  exact ⟨ad, cs, e, hb, h1, h2⟩
theorem RdR.at_ (h : RdR S w R A xs) {k : Nat} (hk : k < xs.length) :
    ∃ ad x cs, A = some ad ∧ R ad.block ∧ xs[k]? = some x ∧ S.rd w R x cs ∧ ∀ (j : Nat) (u : Value), cs[j]? = some u → w.cell? (ad.add (k * S.size + j)) = some u := by
  obtain ⟨ad, cs, e, hb, h1, h2⟩ := h.get (List.getElem?_eq_getElem hk)
  exact ⟨ad, _, cs, e, hb, List.getElem?_eq_getElem hk, h1, h2⟩
theorem RdR.take (h : RdR S w R A xs) (n : Nat) : RdR S w R A (xs.take n) := fun hn => by
  obtain ⟨ad, e, hb, hc⟩ := h (by rintro rfl; simp at hn)
  refine ⟨ad, e, hb, fun k x hx => hc k x ?_⟩
  rw [List.getElem?_take] at hx
  split at hx
  · exact hx
  · cases hx
theorem RdR.cut {k n cap : Nat} (h : RdR S w R A xs) (hk : k ≤ n) (hn : xs.length = n) (hc : n ≤ cap) : RdR S w R (if cap = k then A else A.map (·.add (k * S.size))) (xs.drop k) := fun hne => by
  obtain ⟨ad, rfl, hb, hcell⟩ := h (by rintro rfl; simp at hne)
  have hlt : k < n := by
    rcases Nat.lt_or_ge k n with hlt | hge
    · exact hlt
    · exact absurd (List.drop_eq_nil_of_le (by omega)) hne
  rw [if_neg (by omega)]
  refine ⟨ad.add (k * S.size), rfl, by rw [block_of_add]; exact hb, fun j x hx => ?_⟩
  rw [List.getElem?_drop] at hx
  obtain ⟨cs, h1, h2⟩ := hcell (k + j) x hx
  refine ⟨cs, h1, fun i u hu => ?_⟩
  rw [add_of_add, ← h2 i u hu, Nat.add_mul, Nat.add_assoc]
end

section
variable {α : Type} {S : Sh α} {w w' : World} {B B' : Nat} {A : Option Addr} {xs : List α}
theorem Rd.keep (h : Rd S w B A xs) (hk : ∀ p : Addr, p.block < B → w'.cell? p = w.cell? p) : Rd S w' B A xs := RdR.keep h hk
theorem Rd.more (h : Rd S w B A xs) (hB : B ≤ B') : Rd S w B' A xs := RdR.more h fun _ hb => Nat.lt_of_lt_of_le hb hB
theorem Rd.below (h : Rd S w B A xs) {C : Nat} (hb : Below C w w') (hB : B ≤ C) : Rd S w' B A xs := h.keep fun _ hp => hb.cell (Nat.lt_of_lt_of_le hp hB)
theorem Rd.drewN (h : Rd S w B A xs) (k : Nat) : Rd S (w.drewN k) B A xs := h.keep fun _ _ => rfl
theorem Rd.drew (h : Rd S w B A xs) : Rd S w.drew B A xs := h.keep fun _ _ => rfl
theorem Rd.alloc (h : Rd S w B A xs) (hB : B ≤ w.heap.size) (o : Obj) : Rd S (w.alloc o) B A xs := h.keep fun p hp => World.cell?_alloc_lt w o p (by omega)
theorem Rd.setCell (h : Rd S w B A xs) {p : Addr} (hB : B ≤ p.block) (u : Value) : Rd S (w.setCell p u) B A xs :=
  h.keep fun q hq => World.cell?_setCell_other w p q u (fun e => by subst e; omega)
theorem Rd.grown (h : Rd S w B A xs) {row : Option Nat} (hg : w.grownBy w' row) (hB : B ≤ w.heap.size) (hr : ∀ g, row = some g → B ≤ g) : Rd S w' B A xs :=
  h.keep fun p hp => World.cell?_of_block (hg.block p.block (by omega) (fun e => by have := hr _ e.symm; omega))
theorem Rd.nil : Rd S w B A [] := RdR.nil
/-- the element k -/
theorem Rd.get (h : Rd S w B A xs) {k : Nat} {x : α} (hx : xs[k]? = some x) :
    ∃ ad cs, A = some ad ∧ ad.block < B ∧ S.rd w (fun b => b < B) x cs ∧ ∀ (j : Nat) (u : Value), cs[j]? = some u → w.cell? (ad.add (k * S.size + j)) = some u := RdR.get h hx
theorem Rd.at_ (h : Rd S w B A xs) {k : Nat} (hk : k < xs.length) :
    ∃ ad x cs, A = some ad ∧ ad.block < B ∧ xs[k]? = some x ∧ S.rd w (fun b => b < B) x cs ∧ ∀ (j : Nat) (u : Value), cs[j]? = some u → w.cell? (ad.add (k * S.size + j)) = some u := RdR.at_ h hk
theorem Rd.take (h : Rd S w B A xs) (n : Nat) : Rd S w B A (xs.take n) := RdR.take h n
theorem Rd.cut {k n cap : Nat} (h : Rd S w B A xs) (hk : k ≤ n) (hn : xs.length = n) (hc : n ≤ cap) : Rd S w B (if cap = k then A else A.map (·.add (k * S.size))) (xs.drop k) := RdR.cut h hk hn hc
end

/-- a slice -/
def Sh.list {α : Type} (S : Sh α) : Sh (List α) :=
  ⟨1, fun w R xs cs => ∃ A c, cs = [.slice A xs.length c] ∧ xs.length ≤ c ∧ c ≤ 9223372036854775807 ∧ RdR S w R A xs,
   fun ⟨_, _, e, _⟩ => by rw [e]; rfl,
   fun ⟨A, c, e, h1, h2, h⟩ hk => ⟨A, c, e, h1, h2, h.keep hk⟩,
   fun ⟨A, c, e, h1, h2, h⟩ hB => ⟨A, c, e, h1, h2, h.more hB⟩⟩

abbrev Ints (w : World) (B : Nat) (A : Option Addr) (xs : List Int) : Prop := Rd (Sh.int .i64) w B A xs
section
variable {w w' : World} {B B' : Nat} {A : Option Addr}
theorem Rd.cell {k : Nat} {xs : List Int} (h : Ints w B A xs) (hk : k < xs.length) : ∃ ad x, A = some ad ∧ ad.block < B ∧ xs[k]? = some x ∧ w.cell? (ad.add k) = some (.int .i64 x) := by
  obtain ⟨ad, x, cs, e, hb, hx, hr, hc⟩ := h.at_ hk
  have hr' : cs = [.int .i64 x] := hr
  subst hr'
  exact ⟨ad, x, e, hb, hx, by simpa [Sh.int] using hc 0 _ rfl⟩
theorem intsR_mk {R : Nat → Prop} {ad : Addr} {xs : List Int} (hb : R ad.block) (h : ∀ (k : Nat) (x : Int), xs[k]? = some x → w.cell? (ad.add k) = some (.int .i64 x)) : RdR (Sh.int .i64) w R (some ad) xs := fun _ =>
  ⟨ad, rfl, hb, fun k x hx => ⟨[.int .i64 x], rfl, fun j u hu => by
    rcases j with _ | j
    · simp at hu; subst hu; simpa [Sh.int] using h k x hx
    · simp at hu⟩⟩
theorem RdR.cell {R : Nat → Prop} {k : Nat} {xs : List Int} (h : RdR (Sh.int .i64) w R A xs) (hk : k < xs.length) : ∃ ad x, A = some ad ∧ R ad.block ∧ xs[k]? = some x ∧ w.cell? (ad.add k) = some (.int .i64 x) := by
  obtain ⟨ad, x, cs, e, hb, hx, hr, hc⟩ := h.at_ hk
  have hr' : cs = [.int .i64 x] := hr
  subst hr'
  exact ⟨ad, x, e, hb, hx, by simpa [Sh.int] using hc 0 _ rfl⟩
theorem ints_mk {ad : Addr} {xs : List Int} (hb : ad.block < B) (h : ∀ (k : Nat) (x : Int), xs[k]? = some x → w.cell? (ad.add k) = some (.int .i64 x)) : Ints w B (some ad) xs := fun _ =>
  ⟨ad, rfl, hb, fun k x hx => ⟨[.int .i64 x], rfl, fun j u hu => by
    rcases j with _ | j
    · simp at hu; subst hu; simpa [Sh.int] using h k x hx
    · simp at hu⟩⟩
theorem ints_own {base : Nat} {e : TypeId} {n c : Nat} {xs : List Int} (h : w.ownsRow base e 1 (.slice A n c) n (xs.map (Value.int .i64))) : Ints w w.heap.size A xs := fun hne => by
  have hl : xs.length = n := by simpa using h.1
  obtain ⟨g, cap, hv, _, hlt⟩ := h.form (by have := List.length_pos_iff.2 hne; omega)
  have hA : A = some ⟨g, 0, none⟩ := by injection hv
  subst hA
  refine ints_mk (ad := ⟨g, 0, none⟩) hlt (fun k x hx => ?_) hne
  exact h.cells (g := g) rfl k _ (by simp [hx])
end

section
variable {P : Program} (w : World)
theorem run_sizeOf_of {e : TypeId} {n : Nat} (hs : (P.info? e).map (·.size) = some n) : (sizeOf e).run P w = .ok n w := by
  cases hq : P.info? e with
  | none => simp [hq] at hs
  | some i =>
    have : i.size = n := by simpa [hq] using hs
    simp [sizeOf, typeInfo, hq, this]
theorem run_isAgg_int {e : TypeId} {k : IntKind} (he : P.underlying e = some (.int k)) : (isAgg e).run P w = .ok false w := by
  unfold isAgg
  rw [Sem.run_bind, run_underlying he w]
  rfl
/-- 'x[i]', x a whole array of ints -/
theorem run_index_intArray {t e : TypeId} {len : Nat} {k kd : IntKind} {cs : Array Value} {i : Nat} {v : Value} (ht : P.underlying t = some (.array len e)) (he : P.underlying e = some (.int k))
    (hs : (P.info? e).map (·.size) = some 1) (hi : i < len) (hv : cs[i]? = some v) : (Instr.index t (.agg cs) (.int kd (i : Int))).run P w = .ok v w := by
  have h0 : (0 : Int) ≤ (i : Int) ∧ (i : Int) < (len : Int) := by omega
  simp [Instr.index, asIntOf, run_underlying ht, h0.1, h0.2, hi, run_sizeOf_of w hs, part, run_isAgg_int w he, hv]

def eqUpTo (xs ys : Array Value) : List Nat → Bool
  | [] => true
  | i :: l => (match xs[i]?, ys[i]? with | some (.int _ a), some (.int _ b) => a == b | _, _ => false) && eqUpTo xs ys l
theorem run_equalIn_intArray (d : Nat) (t e : TypeId) (len : Nat) (k : IntKind) (xs ys : Array Value) (ht : P.underlying t = some (.array len e)) (he : P.underlying e = some (.int k))
    (hs : (P.info? e).map (·.size) = some 1) (hx : ∀ i, i < len → ∃ a, xs[i]? = some (.int k a)) (hy : ∀ i, i < len → ∃ a, ys[i]? = some (.int k a)) :
    (Op.equalIn (d + 2) t (.agg xs) (.agg ys)).run P w = .ok (eqUpTo xs ys (List.range len)) w := by
  have hsz := run_sizeOf_of (P := P) w hs
  have hagg := run_isAgg_int (P := P) w he
  have hl : List.range len = List.range' 0 len := by simp [List.range_eq_range']
  rw [hl]
  have hall : ∀ i ∈ List.range' 0 len, i < len := by intro i hi; simpa using hi
  rw [Op.equalIn]
  simp only [Sem.run_bind, run_underlying ht, Result.andThen_ok, hsz, Std.Legacy.Range.forIn_eq_forIn_range', Std.Legacy.Range.size]
  simp only [Nat.sub_zero, Nat.add_sub_cancel, Nat.div_one]
  generalize List.range' 0 len = l at hall
  induction l with
  | nil => simp [eqUpTo]
  | cons i l ih =>
    obtain ⟨a, ha⟩ := hx i (hall i (by simp))
    obtain ⟨b, hb⟩ := hy i (hall i (by simp))
    have ih' := ih (fun j hj => hall j (by simp [hj]))
    have hpx : (part e xs (i * 1)).run P w = .ok (.int k a) w := by simp [part, hagg, ha]
    have hpy : (part e ys (i * 1)).run P w = .ok (.int k b) w := by simp [part, hagg, hb]
    have hq : (Op.equalIn (d + 1) e (.int k a) (.int k b)).run P w = .ok (a == b) w := run_equalIn_int w d e k k a b he
    simp only [List.forIn_cons, Sem.run_bind, hpx, hpy, Result.andThen_ok, hq, eqUpTo, ha, hb]
    cases hab : (a == b)
    · simp only [Bool.not_false, if_true, Sem.run_pure, Result.andThen_ok, Bool.false_and]
    · simp only [Bool.not_true, Bool.false_eq_true, if_false, Sem.run_pure, Result.andThen_ok, Bool.true_and]
      exact ih'
/-- 'x == y', whole arrays of ints -/
theorem run_eql_intArray {t e : TypeId} {len : Nat} {k : IntKind} {xs ys : Array Value} (ht : P.underlying t = some (.array len e)) (he : P.underlying e = some (.int k))
    (hs : (P.info? e).map (·.size) = some 1) (hx : ∀ i, i < len → ∃ a, xs[i]? = some (.int k a)) (hy : ∀ i, i < len → ∃ a, ys[i]? = some (.int k a)) :
    (binOp .eql t (.agg xs) (.agg ys)).run P w = .ok (.bool (eqUpTo xs ys (List.range len))) w := by
  rw [run_eql_struct, run_equalIn_intArray w 9998 t e len k xs ys ht he hs hx hy]
  rfl
end

section
variable {P : Program}
/-- n cells that hold z -/
def rep (n : Nat) (z : Value) : Array Value := (List.replicate n z).toArray
theorem rep_size (n : Nat) (z : Value) : (rep n z).size = n := by simp [rep]
theorem rep_get (n : Nat) (z : Value) (k : Nat) (h : k < n) : (rep n z)[k]? = some z := by simp [rep, h]
theorem made_rep (n : Nat) (z : Value) : madeCells #[z] n = rep n z := by
  apply Array.ext'
  rw [toList_madeCells_one]; simp [rep]
/-- 'make([]T, n)', elements of one cell -/
theorem run_make_rep {t e : TypeId} {z : Value} {by_ : Nat} (ht : P.underlying t = some (.slice e)) (hi : (P.info? e).map (fun i => (i.zero, i.size, i.bytes)) = some (some z, 1, by_)) (hz1 : z.cells = #[z])
    (k k' : IntKind) (n c : Nat) (hc : n ≤ c) (hn : by_ * c ≤ 281474976710656) (h63 : c ≤ 9223372036854775807) (w : World) :
    (Instr.makeSlice t (.int k (n : Int)) (.int k' (c : Int))).run P w = .ok (.slice (some ⟨w.heap.size, 0, none⟩) n c) (w.alloc (.cells (rep c z) e)) := by
  cases hq : P.info? e with
  | none => simp [hq] at hi
  | some i =>
    simp [hq] at hi
    obtain ⟨h1, h2, h3⟩ := hi
    rw [run_make_rowN t e i z ht hq h1 k k' n c hc (by rw [h3]; exact hn) h63, hz1, h2, Nat.mul_one, made_rep]
/-- 'copy' onto a whole row from its head -/
theorem run_copy_head (w : World) {dT sT ty elem : TypeId} {g dLen dCap : Nat} {a : Addr} {sLen sCap : Nat} {cur : Array Value} {t : TypeId} (cs rest : List Value)
    (hu : P.underlying dT = some (.slice elem)) (hs : (P.info? elem).map (·.size) = some 1) (hg : Blk w g t cur) (hn : cs.length = Nat.min sLen dLen)
    (hsrc : ∀ (j : Nat) (v : Value), cs[j]? = some v → w.cell? (a.add j) = some v) (hfit : cs.length ≤ cur.size) (h1 : ∀ v ∈ cs, v.oneCell' = true) (hr : cur.toList.drop cs.length = rest) :
    (Builtin.copy_ #[dT, sT] ty #[.slice (some ⟨g, 0, none⟩) dLen dCap, .slice (some a) sLen sCap]).run P w = .ok (goInt cs.length) (w.setRow g (cs ++ rest).toArray) := by
  have h := run_copy_row (P := P) w dT sT ty elem g 0 dLen dCap a sLen sCap cur t cs hu hs hg hn hsrc (by omega) h1
  rw [h, ← hr]
  simp
end

theorem add_mk (b o j : Nat) : (⟨b, o, none⟩ : Addr).add j = ⟨b, o + j, none⟩ := by unfold Addr.add; split <;> simp_all
theorem Blk.new_at {w : World} {g : Nat} (h : w.heap.size = g) (t : TypeId) (cs : Array Value) : Blk (w.alloc (.cells cs t)) g t cs := by subst h; exact Blk.new w t cs
section
variable {P : Program}
/-- a whole row stored, as the walk's simp leaves it -/
theorem run_storeCells_row (w : World) {g : Nat} {t : TypeId} {old : Array Value} (cells : Array Value) (hg : Blk w g t old) (ho : old.size = cells.size) (h1 : cells.all (·.oneCell') = true) :
    (storeCells ⟨g, 0, none⟩ cells.toList 0).run P w = .ok () (w.setRow g cells) := by
  have := run_storeCells_from (P := P) g t cells.toList 0 old w hg (by simp; omega) (fun v hv => (Array.all_eq_true_iff_forall_mem.1 h1) v (by simpa using hv))
  simpa using this
theorem run_loadFrom_blk (w : World) {g : Nat} {t : TypeId} {cs : Array Value} {n : Nat} (hg : Blk w g t cs) (hn : cs.size = n) : (loadCellsFrom ⟨g, 0, none⟩ 0 n #[]).run P w = .ok cs w := by
  subst hn
  have := run_loadCells_list (P := P) w ⟨g, 0, none⟩ cs.toList (fun j v hv => by
    have hadd : (⟨g, 0, none⟩ : Addr).add j = ⟨g, j, none⟩ := by unfold Addr.add; split <;> simp_all
    rw [hadd, hg.cell]
    simpa using hv)
  simpa [loadCells] using this
theorem run_loadVar_blk (w : World) {g : Nat} {t ty : TypeId} {cs : Array Value} {n e : Nat} (hg : Blk w g t cs) (hu : P.underlying ty = some (.array n e)) (hi : (P.info? ty).map (·.size) = some cs.size) :
    (loadVar ty ⟨g, 0, none⟩).run P w = .ok (.agg cs) w := run_loadVar_row w g t ty cs (0, 0) _ hg hu rfl hi
end

section
variable {P : Program}
/-- 'append(s, x)' of one element (of whatever number of cells), which the walk has just laid into a block of its own -/
theorem wpList_append_elem {ops : Array Oper} {rest : List Oper} {o : Oper} {a : Act} {Q : Exit → Act → World → Prop} {wr : World} (hgd : o.guard = none) (s x : Operand) (t : TypeId)
    (ho : o.op = .call { callee := .builtin .append, args := #[s, x], argTypes := #[t, t] })
    (base : Nat) {e : TypeId} {z : Value} {size bytes : Nat} (ht : P.underlying t = some (.slice e)) (hinfo : (P.info? e).map (fun i => (i.zero, i.size, i.bytes)) = some (some z, size, bytes)) (hzs : z.cells.size = size) (hsz : 0 < size)
    (v : Value) (n : Nat) (xs : List Value) (hs : a.eval s = v) (hown : wr.ownsRow base e size v n xs)
    (news : Array Value) (e' : TypeId) (hx : a.eval x = .slice (some ⟨wr.heap.size, 0, none⟩) 1 1) (hl : news.size = size) (h1 : ∀ u ∈ news.toList, u.oneCell' = true)
    (h63 : n + 1 ≤ maxLen) (hbytes : (n + 1) * bytes ≤ 140737488355328) (hbase : base ≤ wr.heap.size)
    (h : ∀ v' w', w'.ownsRow base e size v' (n + 1) (xs ++ news.toList) → wr.grownBy w' v.ownBlock → (v'.ownBlock = v.ownBlock ∨ v'.ownBlock = some (wr.heap.size + 1)) → wpList P ops Q rest (a.put o.dst v') w') :
    wpList P ops Q (o :: rest) a (wr.alloc (.cells news e')) := by
  obtain ⟨i, hi, hz, hsize, hby⟩ := info_parts hinfo
  refine wpList_append_own_at _ hgd s x t ho base e i z size bytes ht hi hz hsize hby hzs hsz v n xs hs (hown.alloc _) ⟨wr.heap.size, 0, none⟩ 1 1 news.toList hx (by simpa using hl) (fun j u hu => ?_) h1 h63 hbytes (by simp; omega) (fun v' w' h2 h3 _ h5 => h v' w' h2 ?_ (by simpa using h5))
  · rw [add_mk, cell_of_row _ _ _ _ _ _ (heap_alloc_new wr _), Nat.zero_add, ← hu]; simp
  · exact ⟨h3.os, h3.tape, h3.output, Nat.le_trans (by simp) h3.size, fun k hk hne => (h3.block k (by simp; omega) hne).trans (Below.heap_alloc wr _ k hk)⟩
theorem below_own {B : Nat} {w0 wr w' : World} {e : TypeId} {size n : Nat} {v : Value} {xs : List Value} (hb : Below B w0 wr) (hown : wr.ownsRow B e size v n xs) (hB : B ≤ wr.heap.size) (hg : wr.grownBy w' v.ownBlock) : Below B w0 w' :=
  hb.grown hg hB fun k hk => (hown.lt k hk).1
end
theorem ints_new (w : World) (xs : List Int) (e : TypeId) : Ints (w.alloc (.cells (xs.map (Value.int .i64)).toArray e)) (w.heap.size + 1) (some ⟨w.heap.size, 0, none⟩) xs :=
  ints_mk (ad := ⟨w.heap.size, 0, none⟩) (by simp) fun k x hx => by
    rw [add_mk, cell_of_row _ _ _ _ _ _ (heap_alloc_new w _), Nat.zero_add]
    simp [hx]
theorem ints_lit1 {w : World} {g B : Nat} (xs : List Int) {e : TypeId} (h : w.heap.size = g) (hB : g < B) : Ints (w.alloc (.cells (xs.map (Value.int .i64)).toArray e)) B (some ⟨g, 0, none⟩) xs := by
  subst h; exact (ints_new w xs e).more hB
theorem ints_lit2 {w : World} {g B : Nat} (xs : List Int) {e : TypeId} {o : Obj} (h : w.heap.size = g) (hB : g < B) : Ints ((w.alloc (.cells (xs.map (Value.int .i64)).toArray e)).alloc o) B (some ⟨g, 0, none⟩) xs := by
  subst h; exact ((ints_new w xs e).alloc (by simp) o).more hB
theorem ints_lit3 {w : World} {g B : Nat} (xs : List Int) {e : TypeId} {o o' : Obj} (h : w.heap.size = g) (hB : g < B) : Ints (((w.alloc (.cells (xs.map (Value.int .i64)).toArray e)).alloc o).alloc o') B (some ⟨g, 0, none⟩) xs := by
  subst h; exact (((ints_new w xs e).alloc (by simp) o).alloc (by simp) o').more hB

/-- what the shell of a proof tells of a slice of ints that came in -/
theorem row_ints {k : IntKind} {w : World} {a : Option Addr} {len cap : Nat} {zs : List Int} (h : (a = none ∧ len = 0 ∧ cap = 0 ∧ zs = []) ∨
    ∃ x, a = some x ∧ len ≤ cap ∧ cap ≤ maxLen ∧ zs.length = cap ∧ (∀ i, i < zs.length → w.cell? (x.add i) = some (.int k (zs.getD i 0))) ∧ ∀ n ∈ zs, (Lit.int k n).wf = true) :
    ∃ xs : List Int, xs.length = len ∧ len ≤ cap ∧ cap ≤ 9223372036854775807 ∧ Rd (Sh.int k) w w.heap.size a xs ∧ ∀ n ∈ xs, (Lit.int k n).wf = true := by
  rcases h with ⟨rfl, rfl, rfl, rfl⟩ | ⟨x, rfl, h1, h2, h3, h4, h5⟩
  · exact ⟨[], rfl, Nat.le_refl _, by omega, Rd.nil, by simp⟩
  · refine ⟨zs.take len, by simp; omega, h1, by simpa [maxLen] using h2, fun hne => ?_, fun n hn => h5 n (List.mem_of_mem_take hn)⟩
    have hl : 0 < zs.length := by
      rcases zs with _ | ⟨z, zs⟩
      · simp at hne
      · simp
    have hb := block_lt_of_cell (h4 0 hl)
    rw [block_of_add] at hb
    refine ⟨x, rfl, hb, fun i v hv => ⟨[.int k v], rfl, fun j u hu => ?_⟩⟩
    rcases j with _ | j
    · simp at hu; subst hu
      rw [List.getElem?_take] at hv
      split at hv
      · have hi := (List.getElem?_eq_some_iff.1 hv).1
        have := h4 i hi
        rw [List.getD_eq_getElem?_getD, hv] at this
        simpa [Sh.int] using this
      · cases hv
    · simp at hu
theorem step_below {B : Nat} {w W W' : World} (hb : Below B w W) (hw : B ≤ W.heap.size) (hc : Below W.heap.size W W') : Below B w W' := hb.trans (hc.mono hw)
theorem Below.step {w W W' : World} (hb : Below w.heap.size w W) (hc : Below W.heap.size W W') : Below w.heap.size w W' := hb.trans (hc.mono hb.size)
theorem Rd.at_world {α : Type} {S : Sh α} {w W : World} {A : Option Addr} {xs : List α} (h : Rd S w w.heap.size A xs) (hb : Below w.heap.size w W) : Rd S W W.heap.size A xs := (h.below hb (Nat.le_refl _)).more hb.size
theorem own_keep {w w' : World} {base : Nat} {e : TypeId} {size n : Nat} {v : Value} {xs : List Value} (h : w.ownsRow base e size v n xs) (hk : ∀ g, v.ownBlock = some g → w'.heap[g]? = w.heap[g]?) : w'.ownsRow base e size v n xs := by
  refine ⟨h.1, ?_⟩
  rcases h.2 with h | ⟨g, cap, cur, rfl, h1, h2, h3⟩
  · exact .inl h
  · exact .inr ⟨g, cap, cur, rfl, h1, (hk g rfl).trans h2, h3⟩
theorem own_shrink {w : World} {base : Nat} {e : TypeId} {A : Option Addr} {n m c : Nat} {xs : List Value} (h : w.ownsRow base e 1 (.slice A n c) n xs) (hm : m ≤ n) : w.ownsRow base e 1 (.slice A m c) m (xs.take m) := by
  have hl := h.1
  refine ⟨by simp; omega, ?_⟩
  rcases h.2 with ⟨h1, h2⟩ | ⟨g, cap, cur, h1, h2, h3, h4, h5, h6, h7⟩
  · injection h1 with h1 h1' h1''
    subst h1 h1' h1''
    have : m = 0 := by omega
    subst this
    exact .inl ⟨rfl, rfl⟩
  · injection h1 with h1 _ h1''
    subst h1 h1''
    refine .inr ⟨g, c, cur, rfl, h2, h3, by omega, h5, h6, ?_⟩
    rw [← h7, List.take_take, Nat.mul_one, Nat.mul_one, Nat.min_eq_left hm]
theorem own_form {w : World} {base : Nat} {e : TypeId} {v : Value} {n size : Nat} {xs : List Value} (h : w.ownsRow base e size v n xs) : ∃ A c, v = .slice A n c ∧ n ≤ c ∧ c ≤ 9223372036854775807 := by
  rcases h.2 with ⟨rfl, rfl⟩ | ⟨g, cap, cur, rfl, _, _, h3, h4, _⟩
  · exact ⟨_, _, rfl, Nat.le_refl _, by omega⟩
  · exact ⟨_, _, rfl, h3, by simpa [maxLen] using h4⟩

/-- the blocks of R, and those that were made since -/
def Grow (R : Nat → Prop) (w w' : World) (b : Nat) : Prop := R b ∨ (w.heap.size ≤ b ∧ b < w'.heap.size)
theorem Grow.old {R : Nat → Prop} {w w' : World} {b : Nat} (h : R b) : Grow R w w' b := .inl h
theorem Grow.lt {R : Nat → Prop} {w w' : World} (hR : ∀ b, R b → b < w.heap.size) (hs : w.heap.size ≤ w'.heap.size) {b : Nat} (h : Grow R w w' b) : b < w'.heap.size := by
  rcases h with h | h
  · exact Nat.lt_of_lt_of_le (hR b h) hs
  · exact h.2
theorem RdR.reads {w : World} {B : Nat} {R : Nat → Prop} {A : Option Addr} {xs : List Int} {n : Nat} (h : RdR (Sh.int .i64) w R A xs) (hR : ∀ b, R b → b < B) (hn : xs.length = n) : Reads w B 1 A n (xs.map (Value.int .i64)) := by
  refine ⟨by simp [hn], fun h0 => ?_⟩
  obtain ⟨ad, e, hb, hc⟩ := h (by rintro rfl; simp at hn; omega)
  refine ⟨ad, e, hR _ hb, fun j u hu => ?_⟩
  rw [List.getElem?_map, Option.map_eq_some_iff] at hu
  obtain ⟨x, hx, rfl⟩ := hu
  obtain ⟨cs, h1, h2⟩ := hc j x hx
  have h1' : cs = [.int .i64 x] := h1
  subst h1'
  simpa [Sh.int] using h2 0 _ rfl
theorem RdR.below {α : Type} {S : Sh α} {w w' : World} {B : Nat} {R : Nat → Prop} {A : Option Addr} {xs : List α} (h : RdR S w R A xs) (hb : Below B w w') (hR : ∀ b, R b → b < B) : RdR S w' R A xs := h.keep fun p hp => hb.cell (hR _ hp)
theorem intsR_own {w : World} {base : Nat} {e : TypeId} {A : Option Addr} {n c : Nat} {xs : List Int} (h : w.ownsRow base e 1 (.slice A n c) n (xs.map (Value.int .i64))) : RdR (Sh.int .i64) w (fun b => base ≤ b ∧ b < w.heap.size) A xs := fun hne => by
  have hl : xs.length = n := by simpa using h.1
  obtain ⟨g, cap, hv, hg, hlt⟩ := h.form (by have := List.length_pos_iff.2 hne; omega)
  have hA : A = some ⟨g, 0, none⟩ := by injection hv
  subst hA
  exact intsR_mk (R := fun b => base ≤ b ∧ b < w.heap.size) (ad := ⟨g, 0, none⟩) ⟨hg, hlt⟩ (fun k x hx => h.cells (g := g) rfl k _ (by simp [hx])) hne
theorem blk2 (w : World) (c1 c2 : Array Value) (t1 t2 : TypeId) : Blk ((w.alloc (.cells c1 t1)).alloc (.cells c2 t2)) w.heap.size t1 c1 ∧ Blk ((w.alloc (.cells c1 t1)).alloc (.cells c2 t2)) (w.heap.size + 1) t2 c2 ∧ Below w.heap.size w ((w.alloc (.cells c1 t1)).alloc (.cells c2 t2)) :=
  ⟨heap_alloc2_old _ _ _, heap_alloc2_new _ _ _, ((Below.refl _ _).alloc (Nat.le_refl _) _).alloc (by simp) _⟩
theorem blk3 (w : World) (c1 c2 c3 : Array Value) (t1 t2 t3 : TypeId) : Blk (((w.alloc (.cells c1 t1)).alloc (.cells c2 t2)).alloc (.cells c3 t3)) w.heap.size t1 c1 ∧ Blk (((w.alloc (.cells c1 t1)).alloc (.cells c2 t2)).alloc (.cells c3 t3)) (w.heap.size + 1) t2 c2 ∧
    Blk (((w.alloc (.cells c1 t1)).alloc (.cells c2 t2)).alloc (.cells c3 t3)) (w.heap.size + 1 + 1) t3 c3 ∧ Below w.heap.size w (((w.alloc (.cells c1 t1)).alloc (.cells c2 t2)).alloc (.cells c3 t3)) :=
  ⟨(blk2 w c1 c2 t1 t2).1.alloc _, (blk2 w c1 c2 t1 t2).2.1.alloc _, Blk.new_at (by simp) _ _, (blk2 w c1 c2 t1 t2).2.2.alloc (by simp; omega) _⟩
theorem blk4 (w : World) (c1 c2 c3 c4 : Array Value) (t1 t2 t3 t4 : TypeId) :
    Blk ((((w.alloc (.cells c1 t1)).alloc (.cells c2 t2)).alloc (.cells c3 t3)).alloc (.cells c4 t4)).drew w.heap.size t1 c1 ∧ Blk ((((w.alloc (.cells c1 t1)).alloc (.cells c2 t2)).alloc (.cells c3 t3)).alloc (.cells c4 t4)).drew (w.heap.size + 1) t2 c2 ∧
    Blk ((((w.alloc (.cells c1 t1)).alloc (.cells c2 t2)).alloc (.cells c3 t3)).alloc (.cells c4 t4)).drew (w.heap.size + 1 + 1) t3 c3 ∧ Blk ((((w.alloc (.cells c1 t1)).alloc (.cells c2 t2)).alloc (.cells c3 t3)).alloc (.cells c4 t4)).drew (w.heap.size + 1 + 1 + 1) t4 c4 ∧
    Below w.heap.size w ((((w.alloc (.cells c1 t1)).alloc (.cells c2 t2)).alloc (.cells c3 t3)).alloc (.cells c4 t4)).drew :=
  have h := blk3 w c1 c2 c3 t1 t2 t3
  ⟨(h.1.alloc _).drew, (h.2.1.alloc _).drew, (h.2.2.1.alloc _).drew, (Blk.new_at (by simp) _ _).drew, (h.2.2.2.alloc (by simp; omega) _).drew⟩

end Go.Proofs.Ytlnbeeflifmnjac
