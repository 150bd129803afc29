/-
  The package plane: what Near calls: the closure that counts, slices.IndexFunc, slices.DeleteFunc. Conditions: the row is the call's own.
-/
import Derived.Test.YtphbdffgeeicaadWlkA
import Derived.Test.YtphbdffgeeicaadRowN
import Derived.Test.YtphbdffgeeicaadMapI
namespace Go.Proofs.Ytphbdffgeeicaad
set_option linter.unusedSimpArgs false
set_option linter.unusedVariables false
open Go.RowKit

def lookD (m : List (Int × Int)) (x : Int) : Int := (lookF m x).getD 0
theorem lookD_put (m : List (Int × Int)) (k v x : Int) : lookD (putF m k v) x = if x = k then v else lookD m x := by
  unfold lookD
  rw [lookF_put]
  split <;> simp
/-- a map that counts what was met -/
structure CntM (m : List (Int × Int)) (kn : List Int) : Prop where
  lo : ∀ x, 0 ≤ lookD m x
  hi : ∀ x, lookD m x ≤ kn.length
  kn : ∀ x, 0 < lookD m x ↔ x ∈ kn
theorem CntM.nil : CntM [] [] := ⟨fun x => by simp [lookD, lookF_nil], fun x => by simp [lookD, lookF_nil], fun x => by simp [lookD, lookF_nil]⟩
theorem CntM.next {m : List (Int × Int)} {kn : List Int} (h : CntM m kn) (s : Int) : CntM (putF m s (lookD m s + 1)) (kn ++ [s]) := by
  refine ⟨fun x => ?_, fun x => ?_, fun x => ?_⟩ <;> rw [lookD_put]
  · have := h.lo x; have := h.lo s; split <;> omega
  · have := h.hi x; have := h.hi s; rw [List.length_append]; simp only [List.length_cons, List.length_nil]; split <;> omega
  · have h1 := h.lo s
    rw [List.mem_append, List.mem_singleton]
    split
    · rename_i e
      exact ⟨fun _ => .inr e, fun _ => by omega⟩
    · rename_i e
      exact ⟨fun hx => .inl ((h.kn x).1 hx), fun hx => (h.kn x).2 (hx.resolve_right e)⟩
theorem take_snocW {l : List Int} {k : Nat} {x : Int} (h : l[k]? = some x) : l.take (k + 1) = l.take k ++ [x] := by
  rw [List.take_add_one, h]; rfl
/-- what may have turned: the map -/
structure TurnMp (w w' : World) (M : Nat) : Prop where
  os : w'.os = w.os
  tape : w'.tape = w.tape
  output : w'.output = w.output
  size : w.heap.size ≤ w'.heap.size
  block : ∀ d, d < w.heap.size → d ≠ M → w'.heap[d]? = w.heap[d]?
/-- the plane's variable, the variable of the map, the map, the nodes -/
structure NrW (w : World) (b3 b9 M : Nat) (cs : Array Value) (N : Option Addr) (ns : List NodeP) (m : List (Int × Int)) (W : World) : Prop where
  bel : Below w.heap.size w W
  p : Blk W b3 24 cs
  q : Blk W b9 51 #[.map (some M)]
  mp : MapA .i64 (Value.int .i64) W M m
  nd : Rd SNode W w.heap.size N ns
  hM : w.heap.size ≤ M
section
variable {w W W' : World} {b3 b9 M g : Nat} {cs : Array Value} {N : Option Addr} {ns : List NodeP} {m m' : List (Int × Int)}
theorem NrW.turn (h : NrW w b3 b9 M cs N ns m W) (ht : TurnMp W W' M) (hm : MapA .i64 (Value.int .i64) W' M m') : NrW w b3 b9 M cs N ns m' W' :=
  ⟨⟨ht.os.trans h.bel.os, ht.tape.trans h.bel.tape, ht.output.trans h.bel.output, Nat.le_trans h.bel.size ht.size, fun k hk => (ht.block k (Nat.lt_of_lt_of_le hk h.bel.size) (by have := h.hM; omega)).trans (h.bel.block k hk)⟩,
    (ht.block b3 h.p.lt (blk_ne_map h.p h.mp)).trans h.p, (ht.block b9 h.q.lt (blk_ne_map h.q h.mp)).trans h.q, hm, RdR.keepBlocks h.nd fun d hd => ht.block d (Nat.lt_of_lt_of_le hd h.bel.size) (by have := h.hM; omega), h.hM⟩
theorem TurnMp.of_below (hb : Below W.heap.size W W') : TurnMp W W' M := ⟨hb.os, hb.tape, hb.output, hb.size, fun d hd _ => hb.block d hd⟩
theorem TurnMp.of_put (hp : MapPut W W' M) : TurnMp W W' M := ⟨hp.1, hp.2.1, hp.2.2.1, Nat.le_of_eq hp.2.2.2.1.symm, fun d _ hd => hp.2.2.2.2 d hd⟩
theorem TurnMp.trans {W'' : World} (h : TurnMp W W' M) (k : TurnMp W' W'' M) : TurnMp W W'' M := ⟨k.os.trans h.os, k.tape.trans h.tape, k.output.trans h.output, Nat.le_trans h.size k.size, fun d hd hm => (k.block d (Nat.lt_of_lt_of_le hd h.size) hm).trans (h.block d hd hm)⟩
theorem NrW.step (h : NrW w b3 b9 M cs N ns m W) (hb : Below W.heap.size W W') : NrW w b3 b9 M cs N ns m W' := h.turn (TurnMp.of_below hb) (h.mp.block (hb.block M h.mp.lt))
theorem NrW.set (h : NrW w b3 b9 M cs N ns m W) {n cap : Nat} {l : List Int} (hR : RowN W w.heap.size g n cap l) (i : Nat) (u : Value) : NrW w b3 b9 M cs N ns m (W.setCell ⟨g, i, none⟩ u) := by
  obtain ⟨h0, cur, h1, _⟩ := hR.blk
  exact ⟨h.bel.setCell h0 _, h.p.far (h.p.ne_ h1 (by decide)) _, h.q.far (h.q.ne_ h1 (by decide)) _, h.mp.block (Below.heap_setCell _ _ _ _ fun e => own_ne_map hR h.mp (by rw [show M = g from e]; rfl)), h.nd.setCell h0 _, h.hM⟩
theorem RowN.turn {base n cap : Nat} {l : List Int} (hR : RowN W base g n cap l) (ht : TurnMp W W' M) (hm : MapA .i64 (Value.int .i64) W M m) : RowN W' base g n cap l :=
  own_keep hR fun d hd => ht.block d (World.ownsRow.lt hR d hd).2 fun e => own_ne_map hR hm (e ▸ hd)
set_option maxHeartbeats 4000000 in
/-- the closure: it counts, and tells whether one is to go -/
theorem near1_any (h : NrW w b3 b9 M cs N ns m W) {nn cN : Nat} {en top : Int} (hcs : cs = #[.slice N nn cN, .int .i64 en, .int .i64 top]) (hn : ns.length = nn) {x : Int} (hw : (Lit.int .i64 x).wf = true) {kn : List Int} (hc : CntM m kn) (hk : kn.length ≤ 1000) :
    Calls Try.prog 17 #[.int .i64 x, .pointer (some ⟨b9, 0, none⟩), .pointer (some ⟨b3, 0, none⟩)] W fun e w' => e = .returned (.bool (!(decide (x ∉ kn) && thereF ns x))) ∧ NrW w b3 b9 M cs N ns (putF m x (lookD m x + 1)) w' ∧ TurnMp W w' M := by
  subst hcs
  have h1 := hc.lo x
  have h2 := hc.hi x
  have L := h.mp.atI hw
  obtain ⟨d, hd⟩ : ∃ d, lookD m x = d := ⟨_, rfl⟩
  rw [show (lookF m x).getD 0 = d from hd] at L
  rw [hd] at h1 h2 ⊢
  have hwr : IntKind.i64.wrap (d + 1) = d + 1 := IntWalk.i64_in _ (by omega)
  obtain ⟨W2, U, hM2, hP2⟩ := h.mp.setI hw (d + 1)
  have H2 := hide (h.turn (TurnMp.of_put hP2) hM2)
  have T2 := hide (TurnMp.of_put hP2)
  have L2 := hM2.atI hw
  rw [show (lookF (putF m x (d + 1)) x).getD 0 = d + 1 from by rw [lookF_put, if_pos rfl]; rfl] at L2
  have q0 : W.cell? ⟨b9, 0, none⟩ = some (.map (some M)) := h.q.cell 0
  have q1 : W2.cell? ⟨b9, 0, none⟩ = some (.map (some M)) := H2.out.q.cell 0
  have p0 := H2.out.p.cell 0
  have p1 := H2.out.p.cell 1
  have p2 := H2.out.p.cell 2
  simp at p0 p1 p2
  have HT := hide (fun W3 (k : NrW w b3 b9 M #[.slice N nn cN, .int .i64 en, .int .i64 top] N ns (putF m x (d + 1)) W3) => there_any (w := W3) (nn := nn) (cN := cN) (en := en) (top := top) (k.nd.more k.bel.size) hn x)
  by_cases hx : x ∈ kn
  · have hd1 : 0 < d := by have := (hc.kn x).2 hx; omega
    have b0 : decide (1 < d + 1) = true := decide_eq_true (by omega)
    have HF := hide (show (!(decide (x ∉ kn) && thereF ns x)) = true by rw [decide_eq_false (by simpa using hx)]; rfl)
    clear h hM2 hP2 hd hx hc HT
    have HU := hide U
    go_enter Try.func17, Try.ntmps17
    go_wp2
    go_ret
    exact ⟨by rw [HF.out]; rfl, H2.out, T2.out⟩
  · have hd1 : d = 0 := by have := mt (hc.kn x).1 hx; omega
    have b0 : decide (1 < d + 1) = false := decide_eq_false (by omega)
    have HF := hide (show (!(decide (x ∉ kn) && thereF ns x)) = !thereF ns x by rw [decide_eq_true hx]; simp)
    clear h hM2 hP2 hd hx hc hd1
    have HU := hide U
    go_enter Try.func17, Try.ntmps17
    go_wp2_with (go_at_call 12; refine (HT.out _ H2.out).mono ?_; rintro e W4 ⟨rfl, hb⟩; have H4 := hide (H2.out.step hb); have T4 := hide (T2.out.trans (TurnMp.of_below hb)); clear hb)
    go_ret
    exact ⟨by rw [HF.out]; rfl, H4.out, T4.out⟩
end
end Go.Proofs.Ytphbdffgeeicaad
