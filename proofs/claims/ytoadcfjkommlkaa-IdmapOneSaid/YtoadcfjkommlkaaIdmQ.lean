/-
  A map as the document tells it: one list, rising by ids. No condition.
-/
import Derived.Test.YtoadcfjkommlkaaIdmO
import Derived.Test.YtoadcfjkommlkaaIdmJ
import Derived.Test.YtoadcfjkommlkaaIdmE
import Derived.Test.YtoadcfjkommlkaaIdmF
namespace Go.Proofs.Ytoadcfjkommlkaa
set_option linter.unusedSimpArgs false
set_option linter.unusedVariables false
open Go.RowKit

/-- shards as they should be -/
structure GoodI (n : Nat) (ms : List (List NamedV)) : Prop where
  len : ms.length = n
  pos : 0 < n
  home : ∀ (i : Nat) (l : List NamedV), ms[i]? = some l → ∀ p ∈ l, shardF n p.1 = i
  keys : (ms.flatten.map (·.1)).Nodup
theorem IdAt.good {w : World} {B M g : Nat} {hs : List Nat} {ms : List (List NamedV)} {ver : Int} (h : IdAt w B M g hs ms ver) : GoodI hs.length ms := ⟨h.len, h.n0, h.home, h.keys⟩
section
variable {n : Nat} {ms ms' : List (List NamedV)} {id : Int} {r : RefV} {ver : Int}
theorem GoodI.get (G : GoodI n ms) : ∃ l, ms[shardF n id]? = some l := ⟨_, List.getElem?_eq_getElem (by rw [G.len]; exact shardF_lt G.pos id)⟩
theorem look_flat (G : GoodI n ms) (id : Int) : lookF ms.flatten id = getF n ms id := by
  obtain ⟨l, hl⟩ := G.get (id := id)
  unfold getF
  rw [hl]
  show _ = lookF l id
  rcases e : lookF l id with _ | r
  · refine lookF_none fun p hp he => ?_
    obtain ⟨l', hl', hp'⟩ := List.mem_flatten.1 hp
    obtain ⟨i, hi⟩ := List.getElem?_of_mem hl'
    have hh := G.home i l' hi p hp'
    rw [he] at hh
    rw [← hh, hl] at hi
    injection hi with hi
    subst hi
    exact lookF_none_iff.1 e p hp' he
  · exact lookF_at G.keys (List.mem_flatten.2 ⟨l, List.mem_of_getElem? hl, lookF_mem e⟩)
theorem list_perm (hk : (ms.flatten.map (·.1)).Nodup) : (listF ms).Perm ms.flatten := by
  have h : (listF ms).Perm ((ms.flatten.map (·.1)).map fun x => (x, refF ms x)) := srt_perm.map _
  rwa [list_back hk (List.Perm.refl _)] at h
theorem list_pw (hk : (ms.flatten.map (·.1)).Nodup) : (listF ms).Pairwise fun a b => a.1 < b.1 := by
  unfold listF
  rw [List.pairwise_map]
  have h1 := srt_pw swoZ (ms.flatten.map (·.1))
  have h2 : (srt intLt (ms.flatten.map (·.1))).Nodup := srt_perm.nodup_iff.2 hk
  refine (List.Pairwise.and h1 h2).imp fun {a b} h => ?_
  obtain ⟨h3, h4⟩ := h
  simp only [intLt, decide_eq_false_iff_not] at h3
  show a < b
  omega
theorem list_is {L : List NamedV} (hk : (ms.flatten.map (·.1)).Nodup) (hp : L.Perm ms.flatten) (hs : L.Pairwise fun a b => a.1 < b.1) : L = listF ms :=
  List.Perm.eq_of_pairwise (le := fun a b => a.1 < b.1) (fun a b _ _ h1 h2 => by omega) hs (list_pw hk) (hp.trans (list_perm hk).symm)
theorem look_list (G : GoodI n ms) (id : Int) : lookF (listF ms) id = getF n ms id := by
  rw [← look_flat G, lookF_perm G.keys (list_perm G.keys).symm]
/-- one more, at its place -/
def ins (id : Int) (r : RefV) : List NamedV → List NamedV
  | [] => [(id, r)]
  | x :: l => if id < x.1 then (id, r) :: x :: l else x :: ins id r l
theorem fold_true (l o : List NamedV) : l.foldl (stepP id r) (o, true) = (o ++ l, true) := by
  induction l generalizing o with
  | nil => simp
  | cons x l ih =>
    rw [List.foldl_cons]
    have : stepP id r (o, true) x = (o ++ [x], true) := by simp [stepP]
    rw [this, ih]
    simp
theorem fold_ins (l o : List NamedV) : (if (l.foldl (stepP id r) (o, false)).2 then (l.foldl (stepP id r) (o, false)).1 else (l.foldl (stepP id r) (o, false)).1 ++ [(id, r)]) = o ++ ins id r l := by
  induction l generalizing o with
  | nil => simp [ins]
  | cons x l ih =>
    rw [List.foldl_cons]
    by_cases e : id < x.1
    · have : stepP id r (o, false) x = (o ++ [(id, r)] ++ [x], true) := by simp [stepP, e]
      rw [this, fold_true]
      simp [ins, e]
    · have : stepP id r (o, false) x = (o ++ [x], false) := by simp [stepP, e]
      rw [this, ih]
      simp [ins, e]
theorem insP_eq (l : List NamedV) : insP l id r = ins id r l := by
  have h := fold_ins (id := id) (r := r) l []
  unfold insP foldP
  simpa using h
theorem ins_perm (l : List NamedV) : (ins id r l).Perm ((id, r) :: l) := by
  induction l with
  | nil => exact List.Perm.refl _
  | cons x l ih =>
    unfold ins
    split
    · exact List.Perm.refl _
    · exact (ih.cons x).trans (List.Perm.swap _ _ _)
theorem ins_pw {l : List NamedV} (h : l.Pairwise fun a b => a.1 < b.1) (hn : ∀ p ∈ l, p.1 ≠ id) : (ins id r l).Pairwise fun a b => a.1 < b.1 := by
  induction l with
  | nil => simp [ins]
  | cons x l ih =>
    obtain ⟨h1, h2⟩ := List.pairwise_cons.1 h
    have hx := hn x (List.mem_cons_self)
    unfold ins
    split
    · next e =>
      refine List.pairwise_cons.2 ⟨fun y hy => ?_, h⟩
      rcases List.mem_cons.1 hy with rfl | hy
      · exact e
      · have := h1 y hy
        show id < y.1
        omega
    · next e =>
      refine List.pairwise_cons.2 ⟨fun y hy => ?_, ih h2 fun p hp => hn p (List.mem_cons_of_mem _ hp)⟩
      rcases List.mem_cons.1 ((ins_perm l).mem_iff.1 hy) with rfl | hy
      · show x.1 < id
        omega
      · exact h1 y hy
theorem look_ins {l : List NamedV} (hk : (l.map (·.1)).Nodup) (hn : lookF l id = none) (x : Int) : lookF (ins id r l) x = if x = id then some r else lookF l x := by
  have hk2 : ((ins id r l).map (·.1)).Nodup := by
    refine (((ins_perm l).map (·.1)).nodup_iff).2 ?_
    rw [List.map_cons, List.nodup_cons]
    refine ⟨fun h => ?_, hk⟩
    obtain ⟨p, hp, e⟩ := List.mem_map.1 h
    exact lookF_none_iff.1 hn p hp e
  rw [lookF_perm hk2 (ins_perm l), lookF_cons]
  by_cases e : x = id
  · subst e; simp
  · rw [if_neg e, if_neg (by simpa using Ne.symm e)]
theorem pw_nodup {l : List NamedV} (h : l.Pairwise fun a b => a.1 < b.1) : (l.map (·.1)).Nodup := by
  unfold List.Nodup
  rw [List.pairwise_map]
  exact h.imp fun {a b} h e => by omega
theorem flat_at {k : Nat} {l : List NamedV} (h : ms[k]? = some l) : ms.flatten = (ms.take k).flatten ++ l ++ (ms.drop (k + 1)).flatten := by
  obtain ⟨hk, e⟩ := List.getElem?_eq_some_iff.1 h
  conv => lhs; rw [← List.take_append_drop k ms, List.drop_eq_getElem_cons hk, e]
  simp
theorem flat_set {k : Nat} {l l' : List NamedV} (h : ms[k]? = some l) : (ms.set k l').flatten = (ms.take k).flatten ++ l' ++ (ms.drop (k + 1)).flatten := by
  obtain ⟨hk, e⟩ := List.getElem?_eq_some_iff.1 h
  rw [List.set_eq_take_append_cons_drop, if_pos hk]
  simp
theorem GoodI.off (G : GoodI n ms) {k : Nat} {p : NamedV} (h : p ∈ (ms.take k).flatten ∨ p ∈ (ms.drop (k + 1)).flatten) : shardF n p.1 ≠ k := by
  rcases h with h | h
  · obtain ⟨l, hl, hp⟩ := List.mem_flatten.1 h
    obtain ⟨i, hi⟩ := List.getElem?_of_mem hl
    rw [List.getElem?_take] at hi
    split at hi
    · rw [G.home i l hi p hp]; omega
    · cases hi
  · obtain ⟨l, hl, hp⟩ := List.mem_flatten.1 h
    obtain ⟨i, hi⟩ := List.getElem?_of_mem hl
    rw [List.getElem?_drop] at hi
    rw [G.home _ l hi p hp]; omega
theorem put_list (G : GoodI n ms) (G' : GoodI n (PutI n ms ver id r).1) (hn : getF n ms id = none) : listF (PutI n ms ver id r).1 = insP (listF ms) id r := by
  have hl := look_list G id
  rw [hn] at hl
  rw [insP_eq]
  refine (list_is G'.keys ?_ (ins_pw (list_pw G.keys) (lookF_none_iff.1 hl))).symm
  obtain ⟨l, h1⟩ := G.get (id := id)
  have h2 : lookF l id = none := by unfold getF at hn; rw [h1] at hn; exact hn
  have e : (PutI n ms ver id r).1 = ms.set (shardF n id) (l ++ [(id, r)]) := by
    unfold PutI
    rw [hn, h1]
    unfold putF
    simp [h2]
  rw [e, flat_set h1]
  refine (ins_perm _).trans (((list_perm G.keys).cons _).trans ?_)
  rw [flat_at h1]
  simp only [List.append_assoc, List.cons_append, List.nil_append]
  refine List.Perm.trans ?_ (List.Perm.append_left _ List.perm_middle.symm)
  exact List.perm_middle.symm
theorem put_same (h : (getF n ms id).isSome = true) : PutI n ms ver id r = (ms, ver) := by unfold PutI; rw [if_pos h]
theorem drop_list (G : GoodI n ms) (G' : GoodI n (DropI n ms ver id).1) (hn : (getF n ms id).isSome = true) : listF (DropI n ms ver id).1 = dropF (listF ms) id := by
  refine (list_is G'.keys ?_ (List.Pairwise.sublist List.filter_sublist (list_pw G.keys))).symm
  obtain ⟨l, h1⟩ := G.get (id := id)
  have e : (DropI n ms ver id).1 = ms.set (shardF n id) (dropF l id) := by
    unfold DropI
    rw [if_pos hn, h1]
    rfl
  rw [e, flat_set h1]
  refine ((list_perm G.keys).filter _).trans ?_
  rw [flat_at h1, List.filter_append, List.filter_append]
  have k : ∀ q : List NamedV, (∀ p ∈ q, shardF n p.1 ≠ shardF n id) → q.filter (fun p => !(p.1 == id)) = q := fun q hq => List.filter_eq_self.2 fun p hp => by
    have := hq p hp
    have h3 : p.1 ≠ id := fun e => this (by rw [e])
    simpa using h3
  rw [k _ fun p hp => G.off (.inl hp), k _ fun p hp => G.off (.inr hp)]
  exact List.Perm.refl _
theorem drop_same (h : (getF n ms id).isSome = false) : DropI n ms ver id = (ms, ver) := by unfold DropI; rw [if_neg (by rw [h]; simp)]
theorem len_list (G : GoodI n ms) : lenF ms n = (listF ms).length := by
  rw [(list_perm G.keys).length_eq, List.length_flatten]
  unfold lenF
  rw [List.take_of_length_le (by rw [G.len]; omega)]
theorem len_le (G : GoodI n ms) (i : Nat) : lenF ms i ≤ (listF ms).length := by
  rw [(list_perm G.keys).length_eq]
  conv => rhs; rw [← List.take_append_drop i ms]
  rw [List.flatten_append, List.length_append, List.length_flatten]
  unfold lenF
  omega
/-- how many of a list a shard has -/
def sizeR (n : Nat) (l : List NamedV) (i : Int) : Nat := (l.filter fun p => decide ((shardF n p.1 : Int) = i)).length
theorem size_list (G : GoodI n ms) (i : Int) : sizeF ms i = sizeR n (listF ms) i := by
  unfold sizeR
  rw [((list_perm G.keys).filter _).length_eq]
  unfold sizeF
  by_cases h0 : 0 ≤ i
  · obtain ⟨k, rfl⟩ : ∃ k : Nat, i = k := ⟨i.toNat, by omega⟩
    rw [if_pos h0, show ((k : Int)).toNat = k by omega]
    rcases Nat.lt_or_ge k n with h1 | h1
    · have h2 : ms[k]? = some (ms[k]'(by rw [G.len]; exact h1)) := List.getElem?_eq_getElem _
      generalize ms[k]'(by rw [G.len]; exact h1) = l at h2
      rw [h2, flat_at h2, List.filter_append, List.filter_append]
      have ka : ∀ q : List NamedV, (∀ p ∈ q, shardF n p.1 ≠ k) → q.filter (fun p => decide ((shardF n p.1 : Int) = k)) = [] := fun q hq => List.filter_eq_nil_iff.2 fun p hp => by
        have := hq p hp
        simp; omega
      rw [ka _ fun p hp => G.off (.inl hp), ka _ fun p hp => G.off (.inr hp), List.filter_eq_self.2 fun p hp => by simp [G.home k l h2 p hp]]
      simp
    · rw [List.getElem?_eq_none (by rw [G.len]; exact h1), List.filter_eq_nil_iff.2 fun p hp => by have := shardF_lt G.pos p.1; simp; omega]
      rfl
  · rw [if_neg h0, List.filter_eq_nil_iff.2 fun p hp => by simp; omega]
    rfl
theorem size_at (G : GoodI n ms) {k : Nat} (hk : k < n) : sizeF ms (k : Int) + lenF ms k = lenF ms (k + 1) := by
  have h2 : ms[k]? = some (ms[k]'(by rw [G.len]; exact hk)) := List.getElem?_eq_getElem _
  rw [lenF_succ h2]
  unfold sizeF
  rw [if_pos (by omega), show ((k : Int)).toNat = k by omega, h2]
  simp only [Option.getD_some]
  omega
end
/-- the map, by its list -/
def KAt (w : World) (B M g : Nat) (hs : List Nat) (L : List NamedV) (ver : Int) : Prop := ∃ ms, IdAt w B M g hs ms ver ∧ listF ms = L
section
variable {w w' : World} {B M g : Nat} {hs : List Nat} {L : List NamedV} {ver : Int}
theorem KAt.below (h : KAt w B M g hs L ver) (hb : Below w.heap.size w w') : KAt w' B M g hs L ver := by
  obtain ⟨ms, h1, h2⟩ := h
  exact ⟨ms, h1.below hb, h2⟩
theorem KAt.pw (h : KAt w B M g hs L ver) : L.Pairwise fun a b => a.1 < b.1 := by
  obtain ⟨ms, h1, rfl⟩ := h
  exact list_pw h1.good.keys
theorem KAt.nums (h : KAt w B M g hs L ver) : 0 < hs.length ∧ hs.length ≤ 64 := by
  obtain ⟨ms, h1, rfl⟩ := h
  exact ⟨h1.n0, h1.n1⟩
theorem kShard (h : KAt w B M g hs L ver) (id : Int) : Calls Try.prog 16 #[.pointer (some ⟨M, 0, none⟩), .int .u64 id] w fun e w' => e = .returned (.int .i64 (shardF hs.length id)) ∧ Below w.heap.size w w' := by
  obtain ⟨ms, h1, rfl⟩ := h
  exact shard_any h1 id
theorem kGet (h : KAt w B M g hs L ver) {id : Int} (hw : (Lit.int .u64 id).wf = true) : Calls Try.prog 12 #[.pointer (some ⟨M, 0, none⟩), .int .u64 id] w fun e w' => e = .returned (.tuple #[encR ((lookF L id).getD (0, 0)), .bool (lookF L id).isSome]) ∧ Below w.heap.size w w' := by
  obtain ⟨ms, h1, rfl⟩ := h
  rw [look_list h1.good]
  exact get_any h1 hw
/-- what a deed leaves -/
def putL (L : List NamedV) (ver id : Int) (r : RefV) : List NamedV × Int := if (lookF L id).isSome then (L, ver) else (insP L id r, ver + 1)
def dropL (L : List NamedV) (ver id : Int) : List NamedV × Int := if (lookF L id).isSome then (dropF L id, ver + 1) else (L, ver)
theorem kPut (h : KAt w B M g hs L ver) {id : Int} (hw : (Lit.int .u64 id).wf = true) (r1 r2 : Int) (hv : 0 ≤ ver ∧ ver ≤ 1000000) :
    Calls Try.prog 9 #[.pointer (some ⟨M, 0, none⟩), .int .u64 id, .agg #[.int .i64 r1, .int .i64 r2]] w fun e w' => e = .returned (.bool (!(lookF L id).isSome)) ∧ KAt w' B M g hs (putL L ver id (r1, r2)).1 (putL L ver id (r1, r2)).2 ∧ TurnI w w' M hs := by
  obtain ⟨ms, h1, rfl⟩ := h
  refine (put_any h1 hw r1 r2 hv).mono ?_
  rintro e w' ⟨rfl, k1, k2⟩
  refine ⟨by rw [look_list h1.good], ⟨(PutI hs.length ms ver id (r1, r2)).1, ?_, ?_⟩, k2⟩
  · have : (putL (listF ms) ver id (r1, r2)).2 = (PutI hs.length ms ver id (r1, r2)).2 := by
      unfold putL PutI
      rw [look_list h1.good]
      split <;> rfl
    rw [this]
    exact k1
  · unfold putL
    rw [look_list h1.good]
    by_cases e : (getF hs.length ms id).isSome = true
    · rw [if_pos e, put_same e]
    · rw [if_neg e]
      exact put_list h1.good k1.good (by simpa using e)
theorem kDrop (h : KAt w B M g hs L ver) {id : Int} (hw : (Lit.int .u64 id).wf = true) (hv : 0 ≤ ver ∧ ver ≤ 1000000) :
    Calls Try.prog 11 #[.pointer (some ⟨M, 0, none⟩), .int .u64 id] w fun e w' => e = .returned (.tuple #[encR ((lookF L id).getD (0, 0)), .bool (lookF L id).isSome]) ∧ KAt w' B M g hs (dropL L ver id).1 (dropL L ver id).2 ∧ TurnI w w' M hs := by
  obtain ⟨ms, h1, rfl⟩ := h
  refine (drop_any h1 hw hv).mono ?_
  rintro e w' ⟨rfl, k1, k2⟩
  refine ⟨by rw [look_list h1.good]; rfl, ⟨(DropI hs.length ms ver id).1, ?_, ?_⟩, k2⟩
  · have : (dropL (listF ms) ver id).2 = (DropI hs.length ms ver id).2 := by
      unfold dropL DropI
      rw [look_list h1.good]
      split <;> rfl
    rw [this]
    exact k1
  · unfold dropL
    rw [look_list h1.good]
    by_cases e : (getF hs.length ms id).isSome = true
    · rw [if_pos e]
      exact drop_list h1.good k1.good e
    · rw [if_neg e, drop_same (by simpa using e)]
theorem kVersion (h : KAt w B M g hs L ver) : Calls Try.prog 15 #[.pointer (some ⟨M, 0, none⟩)] w fun e w' => e = .returned (.int .i64 ver) ∧ w = w' := by
  obtain ⟨ms, h1, rfl⟩ := h
  exact version_any h1
theorem kLen (h : KAt w B M g hs L ver) (h6 : L.length ≤ 1000) : Calls Try.prog 14 #[.pointer (some ⟨M, 0, none⟩)] w fun e w' => e = .returned (.int .i64 L.length) ∧ w = w' := by
  obtain ⟨ms, h1, rfl⟩ := h
  rw [← len_list h1.good]
  exact len_any h1 fun i _ => by have := len_le h1.good i; omega
theorem kSize (h : KAt w B M g hs L ver) (i : Int) : Calls Try.prog 18 #[.pointer (some ⟨M, 0, none⟩), .int .i64 i] w fun e w' => e = .returned (.int .i64 (sizeR hs.length L i)) ∧ w = w' := by
  obtain ⟨ms, h1, rfl⟩ := h
  rw [← size_list h1.good]
  exact size_any h1 i
theorem kList (h : KAt w B M g hs L ver) (h6 : L.length ≤ 1000) : Calls Try.prog 21 #[.pointer (some ⟨M, 0, none⟩)] w fun e w' => ∃ v, e = .returned v ∧ w'.ownsRow w.heap.size 56 3 v L.length (fcs encN L) ∧ Below w.heap.size w w' := by
  obtain ⟨ms, h1, rfl⟩ := h
  exact list_any h1 (by rw [← (list_perm h1.good.keys).length_eq]; exact h6)
theorem kNew (n : Nat) (h1 : 1 ≤ n) (h2 : n ≤ 64) (w : World) : Calls Try.prog 6 #[.int .i64 n] w fun e w' => ∃ M g hs, e = .returned (.tuple #[.pointer (some ⟨M, 0, none⟩), .int .i64 0]) ∧ KAt w' w.heap.size M g hs [] 0 ∧ hs.length = n ∧ Below w.heap.size w w' := by
  refine (new_any n h1 h2 w).mono ?_
  rintro e w' ⟨M, g, hs, rfl, k1, k2, k3⟩
  refine ⟨M, g, hs, rfl, ⟨_, k1, ?_⟩, k2, k3⟩
  have : (listF (List.replicate n ([] : List NamedV))).length = 0 := by
    rw [(list_perm (by simp)).length_eq]; simp
  exact List.length_eq_zero_iff.1 this
theorem sum_sizes (h : KAt w B M g hs L ver) : ∃ f : Nat → Nat, f 0 = 0 ∧ f hs.length = L.length ∧ (∀ i, f i ≤ L.length) ∧ ∀ k, k < hs.length → sizeR hs.length L (k : Int) + f k = f (k + 1) := by
  obtain ⟨ms, h1, rfl⟩ := h
  refine ⟨lenF ms, by simp [lenF], len_list h1.good, len_le h1.good, fun k hk => ?_⟩
  rw [← size_list h1.good]
  exact size_at h1.good hk
end
end Go.Proofs.Ytoadcfjkommlkaa
