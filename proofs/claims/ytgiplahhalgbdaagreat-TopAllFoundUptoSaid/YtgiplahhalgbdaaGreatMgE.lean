/-
  Texts of one part, put together. No condition.
-/
import Derived.Test.YtgiplahhalgbdaaGreatWlkP
import Derived.Test.YtgiplahhalgbdaaGreatMgA
import Derived.Test.YtgiplahhalgbdaaGreatLib2
import Derived.Test.YtgiplahhalgbdaaGreatRowN
import Derived.Test.YtgiplahhalgbdaaGreatMapI
/-
  Planes: nodes as cells; There. Conditions: the slice of nodes reads as a list.
-/
namespace Go.Proofs.YtgiplahhalgbdaaGreat
set_option linter.unusedSimpArgs false
set_option linter.unusedVariables false
open Go.RowKit

def SItemW : Sh (Int × List Int × Int) := Sh.pair (Sh.int .u64) (Sh.pair (Sh.list (Sh.int .i32)) (Sh.int .u64))
def SNode : Sh NodeP := Sh.pair SItemW (Sh.pair (Sh.int .i64) (Sh.pair (Sh.list (Sh.list (Sh.int .i64))) (Sh.pair (Sh.int .i64) (Sh.int .i64))))
/-- a node's cells -/
structure NodeC (w : World) (R : Nat → Prop) (a : Addr) (x : NodeP) (V : Option Addr) (cV : Nat) (L : Option Addr) (cL : Nat) : Prop where
  c0 : w.cell? a = some (.int .u64 x.1.1)
  c1 : w.cell? ⟨a.block, a.off + 1, none⟩ = some (.slice V x.1.2.1.length cV)
  c2 : w.cell? ⟨a.block, a.off + 2, none⟩ = some (.int .u64 x.1.2.2)
  c3 : w.cell? ⟨a.block, a.off + 3, none⟩ = some (.int .i64 x.2.1)
  c4 : w.cell? ⟨a.block, a.off + 4, none⟩ = some (.slice L x.2.2.1.length cL)
  c5 : w.cell? ⟨a.block, a.off + 5, none⟩ = some (.int .i64 x.2.2.2.1)
  c6 : w.cell? ⟨a.block, a.off + 6, none⟩ = some (.int .i64 x.2.2.2.2)
  v1 : x.1.2.1.length ≤ cV
  v2 : cV ≤ 9223372036854775807
  v : RdR (Sh.int .i32) w R V x.1.2.1
  l1 : x.2.2.1.length ≤ cL
  l2 : cL ≤ 9223372036854775807
  l : RdR (Sh.list (Sh.int .i64)) w R L x.2.2.1
theorem RdR.node {w : World} {R : Nat → Prop} {A : Option Addr} {l : List NodeP} (h : RdR SNode w R A l) {k : Nat} (hk : k < l.length) : ∃ ad x V cV L cL, A = some ad ∧ R ad.block ∧ l[k]? = some x ∧ NodeC w R (ad.add (k * 7)) x V cV L cL := by
  obtain ⟨ad, x, cs, e, hb, hx, hr, hc⟩ := h.at_ hk
  obtain ⟨b, d, rfl, ⟨b1, d1, rfl, hr1, b2, d2, rfl, ⟨V, cV, hr2, v1, v2, v3⟩, hr3⟩, b4, d4, rfl, hr4, b5, d5, rfl, ⟨L, cL, hr5, l1, l2, l3⟩, b6, d6, rfl, hr6, hr7⟩ := hr
  have h1 : b1 = [.int .u64 x.1.1] := hr1
  have h3 : d2 = [.int .u64 x.1.2.2] := hr3
  have h4 : b4 = [.int .i64 x.2.1] := hr4
  have h6 : b6 = [.int .i64 x.2.2.2.1] := hr6
  have h7 : d6 = [.int .i64 x.2.2.2.2] := hr7
  subst h1 hr2 h3 h4 hr5 h6 h7
  have c0 := hc 0 _ rfl
  have c1 := hc 1 _ rfl
  have c2 := hc 2 _ rfl
  have c3 := hc 3 _ rfl
  have c4 := hc 4 _ rfl
  have c5 := hc 5 _ rfl
  have c6 := hc 6 _ rfl
  rw [show SNode.size = 7 from rfl, ← add_of_add] at c1 c2 c3 c4 c5 c6
  refine ⟨ad, x, V, cV, L, cL, e, hb, hx, ?_, c1, c2, c3, c4, c5, c6, v1, v2, v3, l1, l2, l3⟩
  simpa [SNode, SItemW, Sh.pair, Sh.int, Sh.list] using c0
theorem node_at {ns : List NodeP} {k : Nat} {x : NodeP} (h : ns[k]? = some x) : thereF ns k = (decide ((0 : Int) < k) && decide (0 ≤ x.2.2.2.1)) := by
  have hk := (List.getElem?_eq_some_iff.1 h).1
  unfold thereF
  rw [show (decide ((k : Int) < ns.length)) = true from decide_eq_true (by omega), show ((k : Int)).toNat = k by omega, h]
  simp
theorem there_out {ns : List NodeP} {s : Int} (h : s ≤ 0 ∨ (ns.length : Int) ≤ s) : thereF ns s = false := by
  unfold thereF
  rcases h with h | h
  · rw [decide_eq_false (by omega)]; simp
  · rw [decide_eq_false (show ¬ s < (ns.length : Int) by omega)]; simp
section
variable {w : World} {N : Option Addr} {nn cN : Nat} {ns : List NodeP} {en top : Int}
set_option maxHeartbeats 4000000 in
theorem there_any (hx : Rd SNode w w.heap.size N ns) (hn : ns.length = nn) (s : Int) : Calls Tryz.prog 17 #[.agg #[.slice N nn cN, .int .i64 en, .int .i64 top], .int .i64 s] w fun e w' => e = .returned (.bool (thereF ns s)) ∧ Below w.heap.size w w' := by
  have hb := below1 w (.cells #[.slice N nn cN, .int .i64 en, .int .i64 top] 24)
  have HB := hide hb
  by_cases h0 : 0 < s
  · have b0 : decide (0 < s) = true := decide_eq_true h0
    by_cases h1 : s < nn
    · obtain ⟨k, rfl⟩ : ∃ k : Nat, s = k := ⟨s.toNat, by omega⟩
      obtain ⟨ad, x, V, cV, L, cL, rfl, hbl, hk, hc⟩ := hx.node (k := k) (by omega)
      have HT := hide (show thereF ns (k : Int) = decide (0 ≤ x.2.2.2.1) by rw [node_at hk, b0]; rfl)
      have hk0 : (0 : Int) ≤ k := by omega
      have c5 : (w.alloc (.cells #[.slice (some ad) nn cN, .int .i64 en, .int .i64 top] 24)).cell? ⟨(ad.add (k * 7)).block, (ad.add (k * 7)).off + 5, none⟩ = some (.int .i64 x.2.2.2.1) := (hb.cell (by show (ad.add (k * 7)).block < _; rw [block_of_add]; exact hbl)).trans hc.c5
      have hlt : decide ((k : Int) < nn) = true := decide_eq_true h1
      clear hx hn hk hc hb
      go_enter Tryz.func17, Tryz.ntmps17
      go_wp2
      go_ret
      exact ⟨by rw [HT.out]; rfl, HB.out⟩
    · have HT := hide (show thereF ns s = false from there_out (.inr (by omega)))
      have hlt : decide (s < (nn : Int)) = false := decide_eq_false h1
      clear hx hn hb
      go_enter Tryz.func17, Tryz.ntmps17
      go_wp2
      go_ret
      exact ⟨by rw [HT.out]; rfl, HB.out⟩
  · have b0 : decide (0 < s) = false := decide_eq_false h0
    have HT := hide (show thereF ns s = false from there_out (.inl (by omega)))
    clear hx hn hb
    go_enter Tryz.func17, Tryz.ntmps17
    go_wp2
    go_ret
    exact ⟨by rw [HT.out]; rfl, HB.out⟩
end
end Go.Proofs.YtgiplahhalgbdaaGreat

/-
  The package plane: what Near calls: the closure that counts, slices.IndexFunc, slices.DeleteFunc. Conditions: the row is the call's own.
-/
namespace Go.Proofs.YtgiplahhalgbdaaGreat
set_option linter.unusedSimpArgs false
set_option linter.unusedVariables false
open Go.RowKit

def lookW (m : List (Int × Int)) (x : Int) : Int := (lookF m x).getD 0
theorem lookW_put (m : List (Int × Int)) (k v x : Int) : lookW (putF m k v) x = if x = k then v else lookW m x := by
  unfold lookW
  rw [lookF_put]
  split <;> simp
/-- a map that counts what was met -/
structure CntM (m : List (Int × Int)) (kn : List Int) : Prop where
  lo : ∀ x, 0 ≤ lookW m x
  hi : ∀ x, lookW m x ≤ kn.length
  kn : ∀ x, 0 < lookW m x ↔ x ∈ kn
theorem CntM.nil : CntM [] [] := ⟨fun x => by simp [lookW, lookF_nil], fun x => by simp [lookW, lookF_nil], fun x => by simp [lookW, lookF_nil]⟩
theorem CntM.next {m : List (Int × Int)} {kn : List Int} (h : CntM m kn) (s : Int) : CntM (putF m s (lookW m s + 1)) (kn ++ [s]) := by
  refine ⟨fun x => ?_, fun x => ?_, fun x => ?_⟩ <;> rw [lookW_put]
  · have := h.lo x; have := h.lo s; split <;> omega
  · have := h.hi x; have := h.hi s; rw [List.length_append]; simp only [List.length_cons, List.length_nil]; split <;> omega
  · have h1 := h.lo s
    rw [List.mem_append, List.mem_singleton]
    split
    · rename_i e
      exact ⟨fun _ => .inr e, fun _ => by omega⟩
    · rename_i e
      exact ⟨fun hx => .inl ((h.kn x).1 hx), fun hx => (h.kn x).2 (hx.resolve_right e)⟩
theorem take_snocW {l : List Int} {k : Nat} {x : Int} (h : l[k]? = some x) : l.take (k + 1) = l.take k ++ [x] := by
  rw [List.take_add_one, h]; rfl
/-- what may have turned: the map -/
structure TurnMp (w w' : World) (M : Nat) : Prop where
  os : w'.os = w.os
  tape : w'.tape = w.tape
  output : w'.output = w.output
  size : w.heap.size ≤ w'.heap.size
  block : ∀ d, d < w.heap.size → d ≠ M → w'.heap[d]? = w.heap[d]?
/-- the plane's variable, the variable of the map, the map, the nodes -/
structure NrW (w : World) (b3 b9 M : Nat) (cs : Array Value) (N : Option Addr) (ns : List NodeP) (m : List (Int × Int)) (W : World) : Prop where
  bel : Below w.heap.size w W
  p : Blk W b3 24 cs
  q : Blk W b9 94 #[.map (some M)]
  mp : MapA .i64 (Value.int .i64) W M m
  nd : Rd SNode W w.heap.size N ns
  hM : w.heap.size ≤ M
section
variable {w W W' : World} {b3 b9 M g : Nat} {cs : Array Value} {N : Option Addr} {ns : List NodeP} {m m' : List (Int × Int)}
theorem NrW.turn (h : NrW w b3 b9 M cs N ns m W) (ht : TurnMp W W' M) (hm : MapA .i64 (Value.int .i64) W' M m') : NrW w b3 b9 M cs N ns m' W' :=
  ⟨⟨ht.os.trans h.bel.os, ht.tape.trans h.bel.tape, ht.output.trans h.bel.output, Nat.le_trans h.bel.size ht.size, fun k hk => (ht.block k (Nat.lt_of_lt_of_le hk h.bel.size) (by have := h.hM; omega)).trans (h.bel.block k hk)⟩,
    (ht.block b3 h.p.lt (blk_ne_map h.p h.mp)).trans h.p, (ht.block b9 h.q.lt (blk_ne_map h.q h.mp)).trans h.q, hm, RdR.keepBlocks h.nd fun d hd => ht.block d (Nat.lt_of_lt_of_le hd h.bel.size) (by have := h.hM; omega), h.hM⟩
theorem TurnMp.of_below (hb : Below W.heap.size W W') : TurnMp W W' M := ⟨hb.os, hb.tape, hb.output, hb.size, fun d hd _ => hb.block d hd⟩
theorem TurnMp.of_put (hp : MapPut W W' M) : TurnMp W W' M := ⟨hp.1, hp.2.1, hp.2.2.1, Nat.le_of_eq hp.2.2.2.1.symm, fun d _ hd => hp.2.2.2.2 d hd⟩
theorem TurnMp.trans {W'' : World} (h : TurnMp W W' M) (k : TurnMp W' W'' M) : TurnMp W W'' M := ⟨k.os.trans h.os, k.tape.trans h.tape, k.output.trans h.output, Nat.le_trans h.size k.size, fun d hd hm => (k.block d (Nat.lt_of_lt_of_le hd h.size) hm).trans (h.block d hd hm)⟩
theorem NrW.step (h : NrW w b3 b9 M cs N ns m W) (hb : Below W.heap.size W W') : NrW w b3 b9 M cs N ns m W' := h.turn (TurnMp.of_below hb) (h.mp.block (hb.block M h.mp.lt))
theorem NrW.set (h : NrW w b3 b9 M cs N ns m W) {n cap : Nat} {l : List Int} (hR : RowN W w.heap.size g n cap l) (i : Nat) (u : Value) : NrW w b3 b9 M cs N ns m (W.setCell ⟨g, i, none⟩ u) := by
  obtain ⟨h0, cur, h1, _⟩ := hR.blk
  exact ⟨h.bel.setCell h0 _, h.p.far (h.p.ne_ h1 (by decide)) _, h.q.far (h.q.ne_ h1 (by decide)) _, h.mp.block (Below.heap_setCell _ _ _ _ fun e => own_ne_map hR h.mp (by rw [show M = g from e]; rfl)), h.nd.setCell h0 _, h.hM⟩
theorem RowN.turn {base n cap : Nat} {l : List Int} (hR : RowN W base g n cap l) (ht : TurnMp W W' M) (hm : MapA .i64 (Value.int .i64) W M m) : RowN W' base g n cap l :=
  own_keep hR fun d hd => ht.block d (World.ownsRow.lt hR d hd).2 fun e => own_ne_map hR hm (e ▸ hd)
set_option maxHeartbeats 4000000 in
/-- the closure: it counts, and tells whether one is to go -/
theorem near1_any (h : NrW w b3 b9 M cs N ns m W) {nn cN : Nat} {en top : Int} (hcs : cs = #[.slice N nn cN, .int .i64 en, .int .i64 top]) (hn : ns.length = nn) {x : Int} (hw : (Lit.int .i64 x).wf = true) {kn : List Int} (hc : CntM m kn) (hk : kn.length ≤ 2000000) :
    Calls Tryz.prog 77 #[.int .i64 x, .pointer (some ⟨b9, 0, none⟩), .pointer (some ⟨b3, 0, none⟩)] W fun e w' => e = .returned (.bool (!(decide (x ∉ kn) && thereF ns x))) ∧ NrW w b3 b9 M cs N ns (putF m x (lookW m x + 1)) w' ∧ TurnMp W w' M := by
  subst hcs
  have h1 := hc.lo x
  have h2 := hc.hi x
  have L := h.mp.atI hw
  obtain ⟨d, hd⟩ : ∃ d, lookW m x = d := ⟨_, rfl⟩
  rw [show (lookF m x).getD 0 = d from hd] at L
  rw [hd] at h1 h2 ⊢
  have hwr : IntKind.i64.wrap (d + 1) = d + 1 := IntWalk.i64_in _ (by omega)
  obtain ⟨W2, U, hM2, hP2⟩ := h.mp.setI hw (d + 1)
  have H2 := hide (h.turn (TurnMp.of_put hP2) hM2)
  have T2 := hide (TurnMp.of_put hP2)
  have L2 := hM2.atI hw
  rw [show (lookF (putF m x (d + 1)) x).getD 0 = d + 1 from by rw [lookF_put, if_pos rfl]; rfl] at L2
  have q0 : W.cell? ⟨b9, 0, none⟩ = some (.map (some M)) := h.q.cell 0
  have q1 : W2.cell? ⟨b9, 0, none⟩ = some (.map (some M)) := H2.out.q.cell 0
  have p0 := H2.out.p.cell 0
  have p1 := H2.out.p.cell 1
  have p2 := H2.out.p.cell 2
  simp at p0 p1 p2
  have HT := hide (fun W3 (k : NrW w b3 b9 M #[.slice N nn cN, .int .i64 en, .int .i64 top] N ns (putF m x (d + 1)) W3) => there_any (w := W3) (nn := nn) (cN := cN) (en := en) (top := top) (k.nd.more k.bel.size) hn x)
  by_cases hx : x ∈ kn
  · have hd1 : 0 < d := by have := (hc.kn x).2 hx; omega
    have b0 : decide (1 < d + 1) = true := decide_eq_true (by omega)
    have HF := hide (show (!(decide (x ∉ kn) && thereF ns x)) = true by rw [decide_eq_false (by simpa using hx)]; rfl)
    clear h hM2 hP2 hd hx hc HT
    have HU := hide U
    go_enter Tryz.func77, Tryz.ntmps77
    go_wp2
    go_ret
    exact ⟨by rw [HF.out]; rfl, H2.out, T2.out⟩
  · have hd1 : d = 0 := by have := mt (hc.kn x).1 hx; omega
    have b0 : decide (1 < d + 1) = false := decide_eq_false (by omega)
    have HF := hide (show (!(decide (x ∉ kn) && thereF ns x)) = !thereF ns x by rw [decide_eq_true hx]; simp)
    clear h hM2 hP2 hd hx hc hd1
    have HU := hide U
    go_enter Tryz.func77, Tryz.ntmps77
    go_wp2_with (go_at_call 17; refine (HT.out _ H2.out).mono ?_; rintro e W4 ⟨rfl, hb⟩; have H4 := hide (H2.out.step hb); have T4 := hide (T2.out.trans (TurnMp.of_below hb)); clear hb)
    go_ret
    exact ⟨by rw [HF.out]; rfl, H4.out, T4.out⟩
end
end Go.Proofs.YtgiplahhalgbdaaGreat

/-
  The package plane: slices.IndexFunc, slices.DeleteFunc with Near's closure. Conditions: the row is the call's own.
-/
namespace Go.Proofs.YtgiplahhalgbdaaGreat
set_option linter.unusedSimpArgs false
set_option linter.unusedVariables false
open Go.RowKit

/-- what DeleteFunc's loop keeps -/
def KW (ns : List NodeP) (t : List Int) (j i : Nat) (l : List Int) : Prop := l.length = t.length ∧ i < j ∧ j ≤ t.length ∧ l.take i = kept ns t j ∧ ∀ k, j ≤ k → l[k]? = t[k]?
theorem KW.start {ns : List NodeP} {x : Int} {t : List Int} {k : Nat} (hx : t[k]? = some x) (hz : stayF ns t k x = false) (ha : kept ns t k = t.take k) : KW ns t (k + 1) k t := by
  have hk := (List.getElem?_eq_some_iff.1 hx).1
  exact ⟨rfl, by omega, by omega, by rw [kept_succ hx, if_neg (by rw [hz]; simp), List.append_nil, ha], fun _ _ => rfl⟩
theorem KW.skip {ns : List NodeP} {x : Int} {t : List Int} {j i : Nat} {l : List Int} (h : KW ns t j i l) (hx : t[j]? = some x) (hz : stayF ns t j x = false) : KW ns t (j + 1) i l := by
  have hk := (List.getElem?_eq_some_iff.1 hx).1
  obtain ⟨h1, h2, h3, h4, h5⟩ := h
  exact ⟨h1, by omega, by omega, by rw [kept_succ hx, if_neg (by rw [hz]; simp), List.append_nil]; exact h4, fun k hk => h5 k (by omega)⟩
theorem KW.keep {ns : List NodeP} {y : Int} {t : List Int} {j i : Nat} {l : List Int} (h : KW ns t j i l) (hy : t[j]? = some y) (e : stayF ns t j y = true) : KW ns t (j + 1) (i + 1) (l.set i y) := by
  have hk := (List.getElem?_eq_some_iff.1 hy).1
  obtain ⟨h1, h2, h3, h4, h5⟩ := h
  refine ⟨by simpa using h1, by omega, by omega, ?_, fun k hk => ?_⟩
  · rw [kept_succ hy, if_pos e, ← h4, take_snocW (x := y) (by rw [List.getElem?_set, if_pos rfl, if_pos (by omega)])]
    rw [List.take_set, List.set_eq_of_length_le (by rw [List.length_take]; omega)]
  · rw [List.getElem?_set, if_neg (by omega)]; exact h5 k (by omega)
section
variable {w W : World} {b3 b9 M g : Nat} {cs : Array Value} {N : Option Addr} {ns : List NodeP} {nn cN n cap : Nat} {en top : Int} {t : List Int}
/-- while IndexFunc looks: all so far stay -/
structure IxW (w : World) (b3 b9 M : Nat) (cs : Array Value) (N : Option Addr) (ns : List NodeP) (g n cap : Nat) (t : List Int) (j : Nat) (W : World) : Prop where
  nr : ∃ m, NrW w b3 b9 M cs N ns m W ∧ CntM m (t.take j)
  row : RowN W w.heap.size g n cap t
  all : kept ns t j = t.take j
/-- the closure at the j-th -/
theorem near1_at (h : ∃ m, NrW w b3 b9 M cs N ns m W ∧ CntM m (t.take n)) (hcs : cs = #[.slice N nn cN, .int .i64 en, .int .i64 top]) (hn : ns.length = nn) {x : Int} (hx : t[n]? = some x) (hw : (Lit.int .i64 x).wf = true) (ht : t.length ≤ 2000000) {b : Bool} (hb : stayF ns t n x = b) :
    Calls Tryz.prog 77 #[.int .i64 x, .pointer (some ⟨b9, 0, none⟩), .pointer (some ⟨b3, 0, none⟩)] W fun e w' => e = .returned (.bool (!b)) ∧ (∃ m, NrW w b3 b9 M cs N ns m w' ∧ CntM m (t.take (n + 1))) ∧ ∃ M', (∃ m, MapA .i64 (Value.int .i64) W M' m) ∧ TurnMp W w' M' := by
  obtain ⟨m, h1, h2⟩ := h
  refine (near1_any h1 hcs hn hw h2 (by rw [List.length_take]; omega)).mono ?_
  rintro e w' ⟨rfl, h3, h4⟩
  exact ⟨by rw [← hb]; rfl, ⟨_, h3, by rw [take_snocW hx]; exact h2.next x⟩, M, ⟨m, h1.mp⟩, h4⟩
theorem RowN.turnE {W' : World} {base : Nat} {l : List Int} (hR : RowN W base g n cap l) (h : ∃ M', (∃ m, MapA .i64 (Value.int .i64) W M' m) ∧ TurnMp W W' M') : RowN W' base g n cap l := by
  obtain ⟨M', ⟨m, hm⟩, ht⟩ := h
  exact hR.turn ht hm
set_option maxHeartbeats 4000000 in
theorem indexNear_any (hI : IxW w b3 b9 M cs N ns g n cap t 0 W) (hcs : cs = #[.slice N nn cN, .int .i64 en, .int .i64 top]) (hn : ns.length = nn) (hw : ∀ x ∈ t, (Lit.int .i64 x).wf = true) (ht : t.length ≤ 2000000) (hm : cap ≤ 9223372036854775807) (hc : n ≤ cap) :
    Calls Tryz.prog 50 #[.slice (some ⟨g, 0, none⟩) n cap, .func (.func 77) #[] #[.pointer (some ⟨b9, 0, none⟩), .pointer (some ⟨b3, 0, none⟩)]] W fun e w' =>
      (e = .returned (.int .i64 (-1)) ∧ kept ns t n = t ∧ RowN w' w.heap.size g n cap t ∧ Below w.heap.size w w') ∨ ∃ (k : Nat) (x : Int), e = .returned (.int .i64 (k : Int)) ∧ t[k]? = some x ∧ stayF ns t k x = false ∧ kept ns t k = t.take k ∧ RowN w' w.heap.size g n cap t ∧ ∃ m, NrW w b3 b9 M cs N ns m w' ∧ CntM m (t.take (k + 1)) := by
  have HI := hide hI
  have HW := hide hw
  have Hl := hide hI.row.len
  have CC := hide (fun (W' : World) (j : Nat) (x : Int) (b : Bool) h hx hw hb => near1_at (W := W') (w := w) (b3 := b3) (b9 := b9) (M := M) (cs := cs) (N := N) (ns := ns) (nn := nn) (cN := cN) (en := en) (top := top) (t := t) (n := j) h hcs hn (x := x) hx hw ht (b := b) hb)
  clear hI hw hcs
  go_enter Tryz.func50, Tryz.ntmps50
  go_wp2
  go_loopw [5, 8] (fun _ i wr => ∃ j : Nat, j ≤ n ∧ i = .int .i64 j ∧ Hid (IxW w b3 b9 M cs N ns g n cap t j wr)) (fun _ i _ => n - (intOf i).toNat)
  case atStart => exact ⟨0, by omega, rfl, HI⟩
  case round =>
    obtain ⟨j, hj, rfl, HJ⟩ := hrel
    clear HI
    by_cases hlt : j < n
    · obtain ⟨y, hv⟩ : ∃ v, t[j]? = some v := ⟨_, List.getElem?_eq_getElem (by have := Hl.out; omega)⟩
      have q0 : wr.cell? ⟨g, j, none⟩ = some (.int .i64 y) := HJ.out.row.cell hv
      have g0 : (0 : Int) ≤ j := by omega
      have g1 : (j : Int) < n := by omega
      have HV := hide hv
      have HWy := hide (HW.out y (List.mem_of_getElem? hv))
      clear hv
      rcases e : stayF ns t j y with _ | _
      · have C1 := hide (CC.out wr j y false HJ.out.nr HV.out HWy.out e)
        have HE := hide e
        clear e
        go_wp2_with (go_at_call 77; refine C1.out.mono ?_; rintro e w2 ⟨rfl, hnr, htu⟩; have HN := hide hnr; have HR := hide (HJ.out.row.turnE htu); clear hnr htu)
        go_ret
        exact .inr ⟨j, y, rfl, HV.out, HE.out, HJ.out.all, HR.out, HN.out⟩
      · have C1 := hide (CC.out wr j y true HJ.out.nr HV.out HWy.out e)
        have HE := hide e
        clear e
        go_wp2_with (go_at_call 77; refine C1.out.mono ?_; rintro e w2 ⟨rfl, hnr, htu⟩; have HN := hide (show IxW w b3 b9 M cs N ns g n cap t (j + 1) w2 from ⟨hnr, HJ.out.row.turnE htu, by rw [kept_succ HV.out, if_pos HE.out, HJ.out.all, take_snocW HV.out]⟩); clear hnr htu)
        go_roundw
        case rel => exact ⟨j + 1, by omega, by go_num, HN⟩
        case measure => simp [intOf]; omega
    · obtain rfl : n = j := by omega
      go_wp2
      go_ret
      exact .inl ⟨rfl, by have h := HJ.out.all; rwa [List.take_of_length_le (by have := Hl.out; omega)] at h, HJ.out.row, by obtain ⟨m, h1, _⟩ := HJ.out.nr; exact h1.bel⟩
set_option maxHeartbeats 8000000 in
theorem deleteNear_any (hI : IxW w b3 b9 M cs N ns g n cap t 0 W) (hcs : cs = #[.slice N nn cN, .int .i64 en, .int .i64 top]) (hn : ns.length = nn) (hw : ∀ x ∈ t, (Lit.int .i64 x).wf = true) (ht : t.length ≤ 2000000) (hm : cap ≤ 9223372036854775807) (hc : n ≤ cap) :
    Calls Tryz.prog 76 #[.slice (some ⟨g, 0, none⟩) n cap, .func (.func 77) #[] #[.pointer (some ⟨b9, 0, none⟩), .pointer (some ⟨b3, 0, none⟩)]] W fun e w' =>
      e = .returned (.slice (some ⟨g, 0, none⟩) (kept ns t n).length cap) ∧ RowN w' w.heap.size g (kept ns t n).length cap (kept ns t n) ∧ Below w.heap.size w w' := by
  have HC := hide (indexNear_any hI hcs hn hw ht hm hc)
  have Hl := hide hI.row.len
  have HW := hide hw
  have CC := hide (fun (W' : World) (j : Nat) (x : Int) (b : Bool) h hx hw hb => near1_at (W := W') (w := w) (b3 := b3) (b9 := b9) (M := M) (cs := cs) (N := N) (ns := ns) (nn := nn) (cN := cN) (en := en) (top := top) (t := t) (n := j) h hcs hn (x := x) hx hw ht (b := b) hb)
  clear hI hw hcs
  go_enter Tryz.func76, Tryz.ntmps76
  go_wp2_with fail
  refine HC.out.mono ?_
  rintro e w1 (⟨rfl, hk, hR, hb⟩ | ⟨k, x, rfl, hx, hz, hk, hR, hnr⟩)
  · have HK := hide hk
    have HR := hide hR
    have HB := hide hb
    clear hk hR hb HC CC
    go_wp2
    go_ret
    have hle : t.length = n := Hl.out
    exact ⟨by rw [HK.out, hle]; rfl, by rw [HK.out, hle]; exact HR.out, HB.out⟩
  · have HK := hide (KW.start hx hz hk)
    have hkn : k < n := by have := (List.getElem?_eq_some_iff.1 hx).1; have := Hl.out; omega
    have hne : ((k : Int) == -1) = false := beq_eq_false_iff_ne.2 (by omega)
    have HR := hide hR
    have HN := hide hnr
    clear hx hz hk hR hnr HC
    go_upto_region 5 with fail
    go_loopw [5, 6, 7] (fun s5 s6 _ wr => ∃ (i j : Nat) (l : List Int), s5 = .int .i64 i ∧ s6 = .int .i64 j ∧ j ≤ n ∧ i < j ∧ Hid (KW ns t j i l) ∧ Hid (RowN wr w.heap.size g n cap l) ∧ Hid (∃ m, NrW w b3 b9 M cs N ns m wr ∧ CntM m (t.take j))) (fun _ j _ _ => n - (intOf j).toNat)
    case atStart => exact ⟨k, k + 1, t, rfl, by first | rfl | go_num, by omega, by omega, HK, HR, HN⟩
    case round =>
      obtain ⟨i, j, l, rfl, rfl, hj, hij, HI, HRw, HNw⟩ := hrel
      clear HR HN HK
      have hln : l.length = n := HRw.out.len
      by_cases hlt : j < n
      · obtain ⟨y, hv⟩ : ∃ v, l[j]? = some v := ⟨_, List.getElem?_eq_getElem (by omega)⟩
        obtain ⟨z, hu⟩ : ∃ v, l[i]? = some v := ⟨_, List.getElem?_eq_getElem (by omega)⟩
        have q0 : wr.cell? ⟨g, j, none⟩ = some (.int .i64 y) := HRw.out.cell hv
        have HV := hide (show t[j]? = some y by rw [← HI.out.2.2.2.2 j (Nat.le_refl _)]; exact hv)
        have HU := hide hu
        have HWy := hide (HW.out y (List.mem_of_getElem? HV.out))
        have g0 : (0 : Int) ≤ j := by omega
        have g1 : (j : Int) < n := by omega
        have g2 : (0 : Int) ≤ i := by omega
        have g3 : (i : Int) < n := by omega
        clear hv hu hln
        rcases e : stayF ns t j y with _ | _
        · have C1 := hide (CC.out wr j y false HNw.out HV.out HWy.out e)
          have HE := hide (HI.out.skip HV.out e)
          clear e
          go_wp2_with (go_at_call 77; refine C1.out.mono ?_; rintro e w2 ⟨rfl, hnr, htu⟩; have HN := hide hnr; have HR := hide (HRw.out.turnE htu); clear hnr htu)
          go_roundw
          case rel => exact ⟨i, j + 1, l, rfl, by go_num, by omega, by omega, HE, HR, HN⟩
          case measure => simp [intOf]; omega
        · have C1 := hide (CC.out wr j y true HNw.out HV.out HWy.out e)
          have HE := hide (HI.out.keep HV.out e)
          clear e
          go_wp2_with (go_at_call 77; refine C1.out.mono ?_; rintro e w2 ⟨rfl, hnr, htu⟩; have HN := hide hnr; have HR := hide (HRw.out.turnE htu); have d0 : w2.cell? ⟨g, i, none⟩ = some (.int .i64 z) := HR.out.cell HU.out; have f0 := HR.out.frozen i; clear hnr htu)
          go_roundw
          case rel => exact ⟨i + 1, j + 1, l.set i y, by go_num, by go_num, by omega, by omega, HE, hide (HR.out.set y), hide (by obtain ⟨m, h1, h2⟩ := HN.out; exact ⟨m, h1.set HR.out i _, h2⟩)⟩
          case measure => simp [intOf]; omega
      · obtain rfl : n = j := by omega
        obtain ⟨w7, hw7, h7, hb7⟩ := HRw.out.clearN hij 0 (cap - i)
        have HL := hide (show kept ns t n = l.take i from HI.out.2.2.2.1.symm)
        have hi' : (i : Int) ≤ n := by omega
        have H7 := hide h7
        have HB7 := hide (show Below w.heap.size w w7 from by
          obtain ⟨m, h1, h2⟩ := HNw.out
          obtain ⟨h0, _⟩ := HRw.out.blk
          exact h1.bel.trans (hb7.mono h0))
        have Hln := hide hln
        clear h7 hb7 hln
        go_wp2
        go_ret
        have hli : (kept ns t n).length = i := by rw [HL.out, List.length_take, Hln.out, Nat.min_eq_left (Nat.le_of_lt hij)]
        exact ⟨by rw [hli]; rfl, by rw [hli, HL.out]; exact H7.out, HB7.out⟩
end
end Go.Proofs.YtgiplahhalgbdaaGreat

/-
  The package plane: Near. Conditions: the slice of nodes reads as a list, its numbers are small.
-/
namespace Go.Proofs.YtgiplahhalgbdaaGreat
set_option linter.unusedSimpArgs false
set_option linter.unusedVariables false
open Go.RowKit

/-- the nodes' numbers are numbers -/
structure OkN (x : NodeP) : Prop where
  v : I32 x.1.2.1
  l : ∀ l ∈ x.2.2.1, ∀ y ∈ l, (Lit.int .i64 y).wf = true
  n : (Lit.int .i64 x.2.2.2.1).wf = true
  p : (Lit.int .i64 x.2.2.2.2).wf = true
/-- the nodes' lists and vectors are no greater than all that comes in -/
def SmN (x : NodeP) : Prop := x.2.2.1.length ≤ 1048576 ∧ x.1.2.1.length ≤ 1048576 ∧ ∀ l ∈ x.2.2.1, l.length ≤ 1048576
theorem own_lowW {w : World} {base base' : Nat} {e : TypeId} {k n : Nat} {v : Value} {xs : List Value} (h : w.ownsRow base e k v n xs) (hb : base' ≤ base) : w.ownsRow base' e k v n xs :=
  ⟨h.1, h.2.imp id fun ⟨g, cap, cur, a, b, c⟩ => ⟨g, cap, cur, a, Nat.le_trans hb b, c⟩⟩
theorem own_or {w : World} {base n : Nat} {v : Value} {l : List Int} (h : w.ownsRow base 3 1 v n (fcs encI l)) : (v = .slice none 0 0 ∧ n = 0 ∧ l = []) ∨ ∃ g cap, v = .slice (some ⟨g, 0, none⟩) n cap ∧ RowN w base g n cap l ∧ n ≤ cap ∧ cap ≤ 9223372036854775807 := by
  rcases h.2 with ⟨rfl, hn⟩ | ⟨g, cap, cur, rfl, h1, h2, h3, h4, h5⟩
  · have hl := h.1
    subst hn
    rw [fcsI, List.length_map] at hl
    exact .inl ⟨rfl, rfl, List.eq_nil_of_length_eq_zero (by omega)⟩
  · exact .inr ⟨g, cap, rfl, h, h3, by simpa [maxLen] using h4⟩
set_option maxHeartbeats 1000000 in
theorem cloneW_any (A : Option Addr) (n c : Nat) (l : List Int) (w : World) (hx : Rd (Sh.int .i64) w w.heap.size A l) (hn : l.length = n) (hc : n ≤ c) (hm : c ≤ 9223372036854775807) (h6 : n ≤ 2000000) :
    Calls Tryz.prog 75 #[.slice A n c] w fun e w' => ∃ v, e = .returned v ∧ w'.ownsRow w.heap.size 3 1 v n (fcs encI l) ∧ Below w.heap.size w w' := by
  have he := fun (W : World) (a : Option Addr) (n c : Nat) => Lib.run_eql_slice_nil (P := Tryz.prog) W 47 3 a n c 0 0 Tryz.underlying47
  rcases A with _ | ad
  · have hl : l = [] := by
      rcases l with _ | ⟨x, l⟩
      · rfl
      · obtain ⟨_, h, _⟩ := hx (by simp)
        cases h
    subst hl
    obtain rfl : n = 0 := by simpa using hn.symm
    go_enter Tryz.func75, Tryz.ntmps75
    go_wp2
    go_ret
    exact ⟨_, rfl, ⟨rfl, .inl ⟨rfl, rfl⟩⟩, Below.refl _ _⟩
  · have HB := hide (below1 w (.cells #[] 3))
    have HR := hide (flatI.reads (fun _ h => h) (hx.alloc (Nat.le_refl _) (.cells #[] 3)) hn)
    have HO := hide (own_start w 3 1)
    obtain ⟨i1, hi1, hz1⟩ := Option.map_eq_some_iff.1 info_intE
    simp only [Prod.mk.injEq] at hz1
    have HI := hide hi1
    have HZ := hide hz1.1
    have HS := hide hz1.2.1
    have HY := hide hz1.2.2
    clear hx hn hi1 hz1
    go_enter Tryz.func75, Tryz.ntmps75
    go_wp2_with (at_builtin; refine wpList_append_any _ rfl _ _ 47 rfl w.heap.size 3 i1 _ 1 8 Tryz.underlying47 HI.out HZ.out HS.out HY.out rfl (by decide) _ 0 [] rfl HO.out _ (some ad) n c (fcs encI l) rfl HR.out (flatI.ones l) (by simp only [maxLen]; omega) (by omega) HB.out.size ?_; intro v' w9 hown9 hgr9 _; have HO9 := hide hown9; have HB9 := hide (below_own HB.out HO.out HB.out.size hgr9); clear hown9 hgr9)
    all_goals go_ret
    all_goals exact ⟨_, rfl, by have h := HO9.out; rwa [Nat.zero_add] at h, HB9.out⟩
set_option maxHeartbeats 1000000 in
theorem deleteNil_any (b3 b9 : Nat) (w : World) : Calls Tryz.prog 76 #[.slice none 0 0, .func (.func 77) #[] #[.pointer (some ⟨b9, 0, none⟩), .pointer (some ⟨b3, 0, none⟩)]] w fun e w' => e = .returned (.slice none 0 0) ∧ w = w' := by
  have HI : ∀ W : World, Calls Tryz.prog 50 #[.slice none 0 0, .func (.func 77) #[] #[.pointer (some ⟨b9, 0, none⟩), .pointer (some ⟨b3, 0, none⟩)]] W fun e w' => e = .returned (.int .i64 (-1)) ∧ W = w' := fun W => by
    go_enter Tryz.func50, Tryz.ntmps50
    go_wp2
    go_loopw [5, 8] (fun _ i wr => i = .int .i64 0 ∧ wr = W) (fun _ _ _ => 0)
    case atStart => exact ⟨rfl, rfl⟩
    case round =>
      obtain ⟨rfl, rfl⟩ := hrel
      go_wp2
      go_ret
      exact ⟨rfl, rfl⟩
  go_enter Tryz.func76, Tryz.ntmps76
  go_wp2_with (go_at_call 50; refine (HI _).mono ?_; rintro e _ ⟨rfl, rfl⟩)
  go_ret
  exact ⟨rfl, rfl⟩
theorem near_start {w W : World} {b3 : Nat} {cs : Array Value} {N : Option Addr} {ns : List NodeP} (hb : Below w.heap.size w W) (p : Blk W b3 24 cs) (hx : Rd SNode w w.heap.size N ns) : NrW w b3 (W.heap.size + 1) W.heap.size cs N ns [] ((W.alloc (.map #[] 0)).alloc (.cells #[.map (some W.heap.size)] 94)) := by
  have hb2 : Below w.heap.size w ((W.alloc (.map #[] 0)).alloc (.cells #[.map (some W.heap.size)] 94)) := (hb.alloc hb.size _).alloc (by have := hb.size; simp; omega) _
  refine ⟨hb2, (p.alloc _).alloc _, ?_, ?_, hx.below hb2 (Nat.le_refl _), hb.size⟩
  · have := Blk.new (W.alloc (.map #[] 0)) 94 #[.map (some W.heap.size)]
    simpa using this
  · exact MapA.block (MapA.new W) (Below.heap_alloc _ _ _ (by simp))
/-- what Near gives -/
def GivesN (w : World) (l : List Int) (e : Ending) (w' : World) : Prop := ∃ A n c, e = .returned (.slice A n c) ∧ l.length = n ∧ n ≤ c ∧ c ≤ 9223372036854775807 ∧ RdR (Sh.int .i64) w' (Btw w.heap.size w'.heap.size) A l ∧ Below w.heap.size w w'
theorem GivesN.row {w w' : World} {g n cap : Nat} {l : List Int} (hR : RowN w' w.heap.size g n cap l) (hb : Below w.heap.size w w') : GivesN w l (.returned (.slice (some ⟨g, 0, none⟩) n cap)) w' := by
  obtain ⟨h0, cur, h1, h2, h3, h4, h5⟩ := hR.blk
  exact ⟨_, _, _, rfl, hR.len, h4, by simpa [maxLen] using h5, hR.rdr ⟨h0, hR.lt⟩, hb⟩
section
variable {w : World} {N : Option Addr} {nn cN : Nat} {ns : List NodeP} {en top : Int}
set_option maxHeartbeats 8000000 in
theorem near_any (hx : Rd SNode w w.heap.size N ns) (hn : ns.length = nn) (hok : ∀ x ∈ ns, OkN x) (hsm : ∀ x ∈ ns, SmN x) (slot level : Int) : Calls Tryz.prog 59 #[.agg #[.slice N nn cN, .int .i64 en, .int .i64 top], .int .i64 slot, .int .i64 level] w (GivesN w (nearF ns slot level)) := by
  have hb1 := below1 w (.cells #[.slice N nn cN, .int .i64 en, .int .i64 top] 24)
  have HB1 := hide hb1
  have HP1 := hide (Blk.new w 24 #[.slice N nn cN, .int .i64 en, .int .i64 top])
  have HX := hide hx
  have Hn := hide hn
  by_cases hout : slot < 0 ∨ (nn : Int) ≤ slot
  · have HF := hide (show nearF ns slot level = [] by unfold nearF; rw [if_pos (by rw [hn]; exact hout)])
    clear hb1 hx hn
    have HG := hide (show GivesN w [] (.returned (.slice none 0 0)) (w.alloc (.cells #[.slice N nn cN, .int .i64 en, .int .i64 top] 24)) from ⟨none, 0, 0, rfl, rfl, by omega, by omega, RdR.nil, HB1.out⟩)
    rw [HF.out]
    by_cases h0 : slot < 0
    · have b0 : decide (slot < 0) = true := decide_eq_true h0
      go_enter Tryz.func59, Tryz.ntmps59
      go_wp2
      go_ret
      exact HG.out
    · have b0 : decide (slot < 0) = false := decide_eq_false h0
      have h1 : (nn : Int) ≤ slot := by omega
      have b1 : decide ((nn : Int) ≤ slot) = true := decide_eq_true h1
      go_enter Tryz.func59, Tryz.ntmps59
      go_wp2
      go_ret
      exact HG.out
  obtain ⟨k, rfl⟩ : ∃ k : Nat, slot = k := ⟨slot.toNat, by omega⟩
  have hk0 : (0 : Int) ≤ k := by omega
  have hk1 : (k : Int) < nn := by omega
  have b0 : decide ((k : Int) < 0) = false := decide_eq_false (by omega)
  have b1 : decide ((nn : Int) ≤ k) = false := decide_eq_false (by omega)
  obtain ⟨ad, x, V, cV, L, cL, rfl, hbl, hkx, hc⟩ := hx.node (k := k) (by omega)
  have HOk := hide (hok x (List.mem_of_getElem? hkx))
  have HSm := hide (hsm x (List.mem_of_getElem? hkx))
  have HF := hide (show nearF ns k level = kept ns (rawF x k level) (rawF x k level).length by
    unfold nearF
    rw [if_neg (by rw [hn]; exact hout), show ((k : Int)).toNat = k by omega, hkx])
  have HC := hide hc
  have hcell : ∀ p : Addr, p.block = ad.block → (w.alloc (.cells #[.slice (some ad) nn cN, .int .i64 en, .int .i64 top] 24)).cell? p = w.cell? p := fun p hp => hb1.cell (by rw [hp]; exact hbl)
  have hba : (ad.add (k * 7)).block = ad.block := block_of_add _ _
  have c0 := (hcell _ hba).trans hc.c0
  have c1 := (hcell ⟨(ad.add (k * 7)).block, (ad.add (k * 7)).off + 1, none⟩ hba).trans hc.c1
  have c2 := (hcell ⟨(ad.add (k * 7)).block, (ad.add (k * 7)).off + 2, none⟩ hba).trans hc.c2
  have c3 := (hcell ⟨(ad.add (k * 7)).block, (ad.add (k * 7)).off + 3, none⟩ hba).trans hc.c3
  have c4 := (hcell ⟨(ad.add (k * 7)).block, (ad.add (k * 7)).off + 4, none⟩ hba).trans hc.c4
  have c5 := (hcell ⟨(ad.add (k * 7)).block, (ad.add (k * 7)).off + 5, none⟩ hba).trans hc.c5
  have c6 := (hcell ⟨(ad.add (k * 7)).block, (ad.add (k * 7)).off + 6, none⟩ hba).trans hc.c6
  rw [HF.out]
  obtain ⟨⟨id, vs, tg⟩, lv, ls, nx, pv⟩ := x
  simp only at c0 c1 c2 c3 c4 c5 c6
  clear hx hn hok hsm hout hc hcell hba hb1 hkx hbl
  have hmm := @run_makeMap Tryz.prog
  go_enter Tryz.func59, Tryz.ntmps59
  go_upto_region 4 with fail
  have HB2 := hide (Below.step HB1.out (below1 (w.alloc (.cells #[.slice (some ad) nn cN, .int .i64 en, .int .i64 top] 24)) (.cells #[.int .u64 id, .slice V vs.length cV, .int .u64 tg, .int .i64 lv, .slice L ls.length cL, .int .i64 nx, .int .i64 pv] 53)))
  have HP2 := hide (HP1.out.alloc (.cells #[.int .u64 id, .slice V vs.length cV, .int .u64 tg, .int .i64 lv, .slice L ls.length cL, .int .i64 nx, .int .i64 pv] 53))
  have HN2 := hide (show Blk ((w.alloc (.cells #[.slice (some ad) nn cN, .int .i64 en, .int .i64 top] 24)).alloc (.cells #[.int .u64 id, .slice V vs.length cV, .int .u64 tg, .int .i64 lv, .slice L ls.length cL, .int .i64 nx, .int .i64 pv] 53)) (w.heap.size + 1) 53 #[.int .u64 id, .slice V vs.length cV, .int .u64 tg, .int .i64 lv, .slice L ls.length cL, .int .i64 nx, .int .i64 pv] by have := Blk.new (w.alloc (.cells #[.slice (some ad) nn cN, .int .i64 en, .int .i64 top] 24)) 53 #[.int .u64 id, .slice V vs.length cV, .int .u64 tg, .int .i64 lv, .slice L ls.length cL, .int .i64 nx, .int .i64 pv]; simpa using this)
  clear c0 c1 c2 c3 c4 c5 c6 HB1 HP1
  generalize World.alloc (World.alloc w _) _ = W2 at *
  generalize w.heap.size + 1 = g2 at *
  obtain ⟨b3, hb3⟩ : ∃ b, w.heap.size = b := ⟨_, rfl⟩
  rw [hb3] at HP2
  rw [hb3]
  have Hb3 := hide hb3
  clear hb3
  have d4 := HN2.out.cell 4
  have d5 := HN2.out.cell 5
  have d6 := HN2.out.cell 6
  simp at d4 d5 d6
  by_cases hin : 0 < (k : Int) ∧ 0 ≤ level ∧ level < ls.length
  · obtain ⟨hk2, hlv, hll⟩ := hin
    obtain ⟨lev, rfl⟩ : ∃ m : Nat, level = m := ⟨level.toNat, by omega⟩
    have e0 : decide (0 < (k : Int)) = true := decide_eq_true hk2
    have e1 : decide (0 ≤ (lev : Int)) = true := decide_eq_true hlv
    have e2 : decide ((lev : Int) < ls.length) = true := decide_eq_true hll
    obtain ⟨adL, li, Li, cLi, hAL, hbL, hli, q0, q1, q2, hrl⟩ := RdR.slc HC.out.l (k := lev) (show lev < ls.length by omega)
    obtain rfl : L = some adL := hAL
    have HLi := hide hli
    have q0' : W2.cell? (adL.add lev) = some (.slice Li li.length cLi) := (HB2.out.cell (by rw [block_of_add]; exact hbL)).trans q0
    have HRl := hide (show Rd (Sh.int .i64) W2 W2.heap.size Li li from Rd.at_world hrl HB2.out)
    have hl80 : li.length ≤ 1048576 := HSm.out.2.2 li (List.mem_of_getElem? hli)
    have HWl := hide (fun y hy => HOk.out.l li (List.mem_of_getElem? hli) y hy)
    clear hli q0 hrl hbL
    go_upto_region 7 with (go_at_call 75; refine (cloneW_any Li li.length cLi li _ HRl.out rfl q1 q2 (by omega)).mono ?_; rintro e w3 ⟨v3, rfl, ho3, hb3⟩; have HB3 := hide (Below.step HB2.out hb3); have HPp := hide (HP2.out.below hb3 HP2.out.lt); have HPn := hide (HN2.out.below hb3 HN2.out.lt); have HO3 := hide (own_lowW ho3 HB2.out.size); clear ho3 hb3)
    clear q0' HRl HP2 HN2 HB2 d4 d5 d6
    obtain ⟨A3, c3, rfl, k31, k32⟩ := own_form HO3.out
    by_cases hl0 : lev = 0
    · have el : ((lev : Int) == 0) = true := by rw [hl0]; rfl
      have HT := hide (show rawF ((id, vs, tg), lv, ls, nx, pv) k (lev : Int) = li ++ [nx, pv] by unfold rawF; rw [if_pos ⟨hk2, hlv, hll⟩, if_pos (show (lev : Int) = 0 by omega), show ((lev : Int)).toNat = lev by omega, HLi.out]; rfl)
      have HWf := hide (show ∀ x ∈ li ++ [nx, pv], (Lit.int .i64 x).wf = true from fun y hy => (List.mem_append.1 hy).elim (HWl.out y) fun h => by
        rcases List.mem_cons.1 h with rfl | h
        · exact HOk.out.n
        · rw [List.mem_singleton.1 h]; exact HOk.out.p)
      have HLn := hide (show (li ++ [nx, pv]).length ≤ 2000000 by simp; omega)
      go_upto_region 8 with fail
      have d5 := HPn.out.cell 5
      have d6 := HPn.out.cell 6
      simp at d5 d6
      have HLit := hide (Blk.new w3 3 #[.int .i64 nx, .int .i64 pv])
      have HRl := hide (show Rd (Sh.int .i64) (w3.alloc (.cells #[.int .i64 nx, .int .i64 pv] 3)) (w3.alloc (.cells #[.int .i64 nx, .int .i64 pv] 3)).heap.size (some ⟨w3.heap.size, 0, none⟩) [nx, pv] from flatI.blk (l := [nx, pv]) HLit.out rfl)
      have HOa := hide (HO3.out.alloc _ : (w3.alloc (.cells #[.int .i64 nx, .int .i64 pv] 3)).ownsRow w.heap.size 3 1 _ li.length (fcs encI li))
      have HBa := hide (HB3.out.alloc HB3.out.size (.cells #[.int .i64 nx, .int .i64 pv] 3))
      have HPa := hide (HPp.out.alloc (.cells #[.int .i64 nx, .int .i64 pv] 3))
      have HSa := hide (show w.heap.size ≤ (w3.alloc (.cells #[.int .i64 nx, .int .i64 pv] 3)).heap.size from HBa.out.size)
      go_upto_region 9 with (at_builtin; refine wpList_append_ints rfl (.tmp 45) (.tmp 50) 47 rfl w.heap.size Tryz.underlying47 info_intE rfl _ _ _ rfl HOa.out _ _ 2 2 [nx, pv] rfl HRl.out rfl (by simp only [maxLen]; omega) (by omega) HSa.out ?_; intro v9 w9 hown9 hgr9 hat9; have HB := hide (below_own HBa.out HOa.out HSa.out hgr9); have HPq := hide (HPa.out.grown hgr9 (fun e => own_blk_ne HOa.out HPa.out (by decide) e.symm)); have HO := hide (show w9.ownsRow w.heap.size 3 1 v9 (li.length + 2) (fcs encI (li ++ [nx, pv])) by rw [fcsI]; simpa [fcsI] using hown9); obtain ⟨A9, c9, rfl, k1, k2⟩ := own_form HO.out; clear hown9 hgr9 hat9)
      clear HOa HBa HPa HSa
      clear HLit HRl
      have HS := hide (near_start HB.out HPq.out HX.out)
      rcases own_or HO.out with ⟨hv, hn0, ht0⟩ | ⟨g, cap, hv, hR, hnc, hcm⟩
      · exact absurd hn0 (by omega)
      · rw [hv]
        clear hv
        have HI := hide (show IxW w b3 (w9.heap.size + 1) w9.heap.size #[.slice (some ad) nn cN, .int .i64 en, .int .i64 top] (some ad) ns g _ _ (li ++ [nx, pv]) 0 ((w9.alloc (.map #[] 0)).alloc (.cells #[.map (some w9.heap.size)] 94)) from ⟨⟨[], HS.out, CntM.nil⟩, (hR.below (below1 _ _) hR.lt).below (below1 _ _) (by have := hR.lt; simp; omega), rfl⟩)
        have Hl := hide hR.len
        clear hR HS
        go_wp2_with (go_at_call 76; refine (deleteNear_any HI.out rfl Hn.out HWf.out HLn.out hcm hnc).mono ?_; rintro e W9 ⟨rfl, hr9, hb9⟩; have HG := hide (GivesN.row hr9 hb9); clear hr9 hb9)
        go_ret
        have hle := Hl.out
        rw [HT.out]
        first
          | (rw [hle]; exact HG.out)
          | exact HG.out
    · have el : ((lev : Int) == 0) = false := by rw [beq_eq_false_iff_ne]; omega
      have HT := hide (show rawF ((id, vs, tg), lv, ls, nx, pv) k (lev : Int) = li by unfold rawF; rw [if_pos ⟨hk2, hlv, hll⟩, if_neg (by omega), show ((lev : Int)).toNat = lev by omega, HLi.out, List.append_nil]; rfl)
      have HWf := hide (show ∀ x ∈ li, (Lit.int .i64 x).wf = true from HWl.out)
      have HLn := hide (show li.length ≤ 2000000 by omega)
      go_upto_region 9 with fail
      have HB := hide HB3.out
      have HPq := hide HPp.out
      have HO := hide HO3.out
      have HS := hide (near_start HB.out HPq.out HX.out)
      rcases own_or HO.out with ⟨hv, hn0, ht0⟩ | ⟨g, cap, hv, hR, hnc, hcm⟩
      · rw [hv]
        clear hv
        have HT0 := hide ht0
        have HB9 := hide HS.out.bel
        clear ht0
        go_wp2_with (go_at_call 76; refine (deleteNil_any _ _ _).mono ?_; rintro e _ ⟨rfl, rfl⟩)
        go_ret
        rw [HT.out, HT0.out]
        exact ⟨none, 0, 0, rfl, rfl, by omega, by omega, RdR.nil, HB9.out⟩
      · rw [hv]
        clear hv
        have HI := hide (show IxW w b3 (w3.heap.size + 1) w3.heap.size #[.slice (some ad) nn cN, .int .i64 en, .int .i64 top] (some ad) ns g _ _ li 0 ((w3.alloc (.map #[] 0)).alloc (.cells #[.map (some w3.heap.size)] 94)) from ⟨⟨[], HS.out, CntM.nil⟩, (hR.below (below1 _ _) hR.lt).below (below1 _ _) (by have := hR.lt; simp; omega), rfl⟩)
        have Hl := hide hR.len
        clear hR HS
        go_wp2_with (go_at_call 76; refine (deleteNear_any HI.out rfl Hn.out HWf.out HLn.out hcm hnc).mono ?_; rintro e W9 ⟨rfl, hr9, hb9⟩; have HG := hide (GivesN.row hr9 hb9); clear hr9 hb9)
        go_ret
        have hle := Hl.out
        rw [HT.out]
        first
          | (rw [hle]; exact HG.out)
          | exact HG.out
  · have HT1 := hide (show rawF ((id, vs, tg), lv, ls, nx, pv) k level = (if level = 0 then [nx, pv] else []) by unfold rawF; rw [if_neg hin, List.nil_append])
    have HB3 := hide HB2.out
    have HPp := hide HP2.out
    have HPn := hide HN2.out
    by_cases hl0 : level = 0
    · subst hl0
      have HT := hide (show rawF ((id, vs, tg), lv, ls, nx, pv) k 0 = [nx, pv] by rw [HT1.out, if_pos rfl])
      have HWf := hide (show ∀ x ∈ [nx, pv], (Lit.int .i64 x).wf = true from fun y h => by
        rcases List.mem_cons.1 h with rfl | h
        · exact HOk.out.n
        · rw [List.mem_singleton.1 h]; exact HOk.out.p)
      have HLn := hide (show [nx, pv].length ≤ 2000000 by simp)
      have hdd : (if 0 < (k : Int) then decide ((0 : Int) < ls.length) else false) = false := by
        split
        · exact decide_eq_false (by omega)
        · rfl
      by_cases hk2 : 0 < (k : Int)
      · have e0 : decide (0 < (k : Int)) = true := decide_eq_true hk2
        have e2 : decide ((0 : Int) < ls.length) = false := decide_eq_false (by omega)
        go_upto_region 8 with fail
        have d5 := HPn.out.cell 5
        have d6 := HPn.out.cell 6
        simp at d5 d6
        have HLit := hide (Blk.new W2 3 #[.int .i64 nx, .int .i64 pv])
        have HRl := hide (show Rd (Sh.int .i64) (W2.alloc (.cells #[.int .i64 nx, .int .i64 pv] 3)) (W2.alloc (.cells #[.int .i64 nx, .int .i64 pv] 3)).heap.size (some ⟨W2.heap.size, 0, none⟩) [nx, pv] from flatI.blk (l := [nx, pv]) HLit.out rfl)
        have HOa := hide (World.ownsRow_nil _ _ _ _ : (W2.alloc (.cells #[.int .i64 nx, .int .i64 pv] 3)).ownsRow w.heap.size 3 1 _ 0 [])
        have HBa := hide (HB3.out.alloc HB3.out.size (.cells #[.int .i64 nx, .int .i64 pv] 3))
        have HPa := hide (HPp.out.alloc (.cells #[.int .i64 nx, .int .i64 pv] 3))
        have HSa := hide (show w.heap.size ≤ (W2.alloc (.cells #[.int .i64 nx, .int .i64 pv] 3)).heap.size from HBa.out.size)
        go_upto_region 9 with (at_builtin; refine wpList_append_ints rfl (.tmp 45) (.tmp 50) 47 rfl w.heap.size Tryz.underlying47 info_intE rfl _ _ _ rfl HOa.out _ _ 2 2 [nx, pv] rfl HRl.out rfl (by simp only [maxLen]; omega) (by omega) HSa.out ?_; intro v9 w9 hown9 hgr9 hat9; have HB := hide (below_own HBa.out HOa.out HSa.out hgr9); have HPq := hide (HPa.out.grown hgr9 (fun e => own_blk_ne HOa.out HPa.out (by decide) e.symm)); have HO := hide (show w9.ownsRow w.heap.size 3 1 v9 (0 + 2) (fcs encI [nx, pv]) by rw [fcsI]; simpa [fcsI] using hown9); obtain ⟨A9, c9, rfl, k1, k2⟩ := own_form HO.out; clear hown9 hgr9 hat9)
        clear HOa HBa HPa HSa
        clear HLit HRl
        have HS := hide (near_start HB.out HPq.out HX.out)
        rcases own_or HO.out with ⟨hv, hn0, ht0⟩ | ⟨g, cap, hv, hR, hnc, hcm⟩
        · exact absurd hn0 (by omega)
        · rw [hv]
          clear hv
          have HI := hide (show IxW w b3 (w9.heap.size + 1) w9.heap.size #[.slice (some ad) nn cN, .int .i64 en, .int .i64 top] (some ad) ns g _ _ [nx, pv] 0 ((w9.alloc (.map #[] 0)).alloc (.cells #[.map (some w9.heap.size)] 94)) from ⟨⟨[], HS.out, CntM.nil⟩, (hR.below (below1 _ _) hR.lt).below (below1 _ _) (by have := hR.lt; simp; omega), rfl⟩)
          have Hl := hide hR.len
          clear hR HS
          go_wp2_with (go_at_call 76; refine (deleteNear_any HI.out rfl Hn.out HWf.out HLn.out hcm hnc).mono ?_; rintro e W9 ⟨rfl, hr9, hb9⟩; have HG := hide (GivesN.row hr9 hb9); clear hr9 hb9)
          go_ret
          have hle := Hl.out
          rw [HT.out]
          first
            | (rw [hle]; exact HG.out)
            | exact HG.out
      · have e0 : decide (0 < (k : Int)) = false := decide_eq_false hk2
        go_upto_region 8 with fail
        have d5 := HPn.out.cell 5
        have d6 := HPn.out.cell 6
        simp at d5 d6
        have HLit := hide (Blk.new W2 3 #[.int .i64 nx, .int .i64 pv])
        have HRl := hide (show Rd (Sh.int .i64) (W2.alloc (.cells #[.int .i64 nx, .int .i64 pv] 3)) (W2.alloc (.cells #[.int .i64 nx, .int .i64 pv] 3)).heap.size (some ⟨W2.heap.size, 0, none⟩) [nx, pv] from flatI.blk (l := [nx, pv]) HLit.out rfl)
        have HOa := hide (World.ownsRow_nil _ _ _ _ : (W2.alloc (.cells #[.int .i64 nx, .int .i64 pv] 3)).ownsRow w.heap.size 3 1 _ 0 [])
        have HBa := hide (HB3.out.alloc HB3.out.size (.cells #[.int .i64 nx, .int .i64 pv] 3))
        have HPa := hide (HPp.out.alloc (.cells #[.int .i64 nx, .int .i64 pv] 3))
        have HSa := hide (show w.heap.size ≤ (W2.alloc (.cells #[.int .i64 nx, .int .i64 pv] 3)).heap.size from HBa.out.size)
        go_upto_region 9 with (at_builtin; refine wpList_append_ints rfl (.tmp 45) (.tmp 50) 47 rfl w.heap.size Tryz.underlying47 info_intE rfl _ _ _ rfl HOa.out _ _ 2 2 [nx, pv] rfl HRl.out rfl (by simp only [maxLen]; omega) (by omega) HSa.out ?_; intro v9 w9 hown9 hgr9 hat9; have HB := hide (below_own HBa.out HOa.out HSa.out hgr9); have HPq := hide (HPa.out.grown hgr9 (fun e => own_blk_ne HOa.out HPa.out (by decide) e.symm)); have HO := hide (show w9.ownsRow w.heap.size 3 1 v9 (0 + 2) (fcs encI [nx, pv]) by rw [fcsI]; simpa [fcsI] using hown9); obtain ⟨A9, c9, rfl, k1, k2⟩ := own_form HO.out; clear hown9 hgr9 hat9)
        clear HOa HBa HPa HSa
        clear HLit HRl
        have HS := hide (near_start HB.out HPq.out HX.out)
        rcases own_or HO.out with ⟨hv, hn0, ht0⟩ | ⟨g, cap, hv, hR, hnc, hcm⟩
        · exact absurd hn0 (by omega)
        · rw [hv]
          clear hv
          have HI := hide (show IxW w b3 (w9.heap.size + 1) w9.heap.size #[.slice (some ad) nn cN, .int .i64 en, .int .i64 top] (some ad) ns g _ _ [nx, pv] 0 ((w9.alloc (.map #[] 0)).alloc (.cells #[.map (some w9.heap.size)] 94)) from ⟨⟨[], HS.out, CntM.nil⟩, (hR.below (below1 _ _) hR.lt).below (below1 _ _) (by have := hR.lt; simp; omega), rfl⟩)
          have Hl := hide hR.len
          clear hR HS
          go_wp2_with (go_at_call 76; refine (deleteNear_any HI.out rfl Hn.out HWf.out HLn.out hcm hnc).mono ?_; rintro e W9 ⟨rfl, hr9, hb9⟩; have HG := hide (GivesN.row hr9 hb9); clear hr9 hb9)
          go_ret
          have hle := Hl.out
          rw [HT.out]
          first
            | (rw [hle]; exact HG.out)
            | exact HG.out
    · have el : (level == 0) = false := by rw [beq_eq_false_iff_ne]; exact hl0
      have HT := hide (show rawF ((id, vs, tg), lv, ls, nx, pv) k level = [] by rw [HT1.out, if_neg hl0])
      have HS := hide (near_start HB3.out HPp.out HX.out)
      have HB9 := hide HS.out.bel
      have fin : GivesN w (kept ns (rawF ((id, vs, tg), lv, ls, nx, pv) k level) (rawF ((id, vs, tg), lv, ls, nx, pv) k level).length) (.returned (.slice none 0 0)) ((W2.alloc (.map #[] 0)).alloc (.cells #[.map (some W2.heap.size)] 94)) := by
        rw [HT.out]
        exact ⟨none, 0, 0, rfl, rfl, by omega, by omega, RdR.nil, HB9.out⟩
      have HG := hide fin
      clear fin
      by_cases hk2 : 0 < (k : Int)
      · have e0 : decide (0 < (k : Int)) = true := decide_eq_true hk2
        by_cases hl2 : 0 ≤ level
        · have e1 : decide (0 ≤ level) = true := decide_eq_true hl2
          have e2 : decide (level < (ls.length : Int)) = false := decide_eq_false (by omega)
          go_wp2_with (go_at_call 76; refine (deleteNil_any _ _ _).mono ?_; rintro e _ ⟨rfl, rfl⟩)
          go_ret
          exact HG.out
        · have e1 : decide (0 ≤ level) = false := decide_eq_false hl2
          go_wp2_with (go_at_call 76; refine (deleteNil_any _ _ _).mono ?_; rintro e _ ⟨rfl, rfl⟩)
          go_ret
          exact HG.out
      · have e0 : decide (0 < (k : Int)) = false := decide_eq_false hk2
        go_wp2_with (go_at_call 76; refine (deleteNil_any _ _ _).mono ?_; rintro e _ ⟨rfl, rfl⟩)
        go_ret
        exact HG.out
end
end Go.Proofs.YtgiplahhalgbdaaGreat
