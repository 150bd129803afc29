/-
  The reference's tables: Take. Conditions: the lists read as said.
-/
import Derived.Test.YtknljldmjicfgaaLckI
namespace Go.Proofs.Ytknljldmjicfgaa
open Go.RowKit

theorem RefT.br {w : World} {R : Nat → Prop} {s : Tab} {AH AW : Option Addr} {cH cW : Nat} (h : RefT w R s (.agg #[.slice AH s.h.length cH, .slice AW s.ws.length cW, .bool s.br])) (b : Bool) : RefT w R ⟨s.h, s.ws, b⟩ (.agg #[.slice AH s.h.length cH, .slice AW s.ws.length cW, .bool b]) := by
  obtain ⟨AH', cH', AW', cW', e, h1, h2, h3, h4, h5, h6⟩ := h
  injection e with e
  simp at e
  obtain ⟨⟨rfl, rfl⟩, rfl, rfl⟩ := e
  exact ⟨AH, cH, AW, cW, rfl, h1, h2, h3, h4, h5, h6⟩
set_option maxHeartbeats 1000000 in
/-- what is not taken because a number is no mutex's or no worker's, or because it is held by the same worker -/
theorem refTake_no {w : World} {s : Tab} {v : Value} {R : Nat → Prop} (h : RefT w R s v) (hR : ∀ d, R d → d < w.heap.size) (x n : Int) (hno : outL x n ∨ lookF s.h n = some x) :
    Calls Try.prog 9 #[v, .int .i64 x, .int .i64 n] w (RefGivesT w R (s, false)) := by
  obtain ⟨AH, cH, AW, cW, rfl⟩ := h.parts
  have HK := hide (KT.start h hR)
  have HH := hide (fun W (hW : KT w W R (.slice AH s.h.length cH) (.slice AW s.ws.length cW) (.bool s.br) (.slice none 0 0) (.slice none 0 0) (.bool false) s) => refHolder_any hW.call n)
  have cases5 : x < 0 ∨ (0 ≤ x ∧ 64 < x) ∨ (0 ≤ x ∧ x ≤ 64 ∧ n < 0) ∨ (0 ≤ x ∧ x ≤ 64 ∧ 0 ≤ n ∧ 4096 < n) ∨ (0 ≤ x ∧ x ≤ 64 ∧ 0 ≤ n ∧ n ≤ 4096 ∧ (lookF s.h n).isSome = true ∧ ((lookF s.h n).getD 0 == x) = true) := by
    by_cases ho : outL x n
    · unfold outL at ho; omega
    · have e := hno.resolve_left ho
      rw [e]
      unfold outL at ho
      simp
      omega
  clear h hR hno
  generalize (lookF s.h n).isSome = b1 at *
  generalize (lookF s.h n).getD 0 = v1 at *
  rcases cases5 with h1 | ⟨h1, h2⟩ | ⟨h1, h2, h3⟩ | ⟨h1, h2, h3, h4⟩ | ⟨h1, h2, h3, h4, rfl, e1⟩
  all_goals
    go_enter Try.func9, Try.ntmps9
    go_wp2_with (go_at_call 12; refine (HH.out _ HK.out).mono ?_; rintro e w1 ⟨rfl, hb⟩; have HK1 := hide (HK.out.step hb); obtain ⟨z0, z1, z2⟩ := HK1.out.cells; obtain ⟨y0, y1, y2⟩ := HK1.out.cellsQ; have f0 := HK1.out.frozenQ 0; have f1 := HK1.out.frozenQ 1; have f2 := HK1.out.frozenQ 2; clear hb)
    obtain ⟨q, r, hb⟩ := HK1.out.done
    have q0 := q.cell 0
    have q1 := q.cell 1
    have q2 := q.cell 2
    simp at q0 q1 q2
    refine bodyPost_ret (v := .tuple #[.agg #[.slice AH s.h.length cH, .slice AW s.ws.length cW, .bool s.br], .bool false]) (by simp [results, Try.results9, go_sem, q0, q1, q2]) rfl ?_
    exact ⟨_, rfl, r.more fun d hd => .inl hd, hb⟩
theorem own_low {w : World} {base base' : Nat} {e : TypeId} {k n : Nat} {v : Value} {xs : List Value} (h : w.ownsRow base e k v n xs) (hb : base' ≤ base) : w.ownsRow base' e k v n xs :=
  ⟨h.1, h.2.imp id fun ⟨g, cap, cur, e1, a, b⟩ => ⟨g, cap, cur, e1, Nat.le_trans hb a, b⟩⟩
/-- the table with its second list in a row that the call owns, not yet said -/
structure KW (w wr : World) (D : Nat → Prop) (a v c x y z : Value) (s : Tab) (m : List (Int × Int)) : Prop where
  p : Blk wr w.heap.size 28 #[a, v, c]
  q : Blk wr (w.heap.size + 1) 28 #[x, y, z]
  ref : RefT wr D ⟨s.h, [], s.br⟩ (.agg #[a, .slice none 0 0, c])
  own : wr.ownsRow (w.heap.size + 2) 48 2 v m.length (fcs encP (m.map swapP))
  ap : ∀ d, D d → v.ownBlock ≠ some d
  hD : ∀ d, D d → d < wr.heap.size ∧ d ≠ w.heap.size ∧ d ≠ w.heap.size + 1
  bel : Below w.heap.size w wr
theorem RefT.noW {w : World} {R : Nat → Prop} {s : Tab} {AH AW : Option Addr} {cH cW : Nat} (h : RefT w R s (.agg #[.slice AH s.h.length cH, .slice AW s.ws.length cW, .bool s.br])) : RefT w R ⟨s.h, [], s.br⟩ (.agg #[.slice AH s.h.length cH, .slice none 0 0, .bool s.br]) := by
  obtain ⟨⟨h1, h2, h3⟩, _⟩ := h.both
  exact ⟨AH, cH, none, 0, rfl, h1, h2, by simp, by simp, h3, RdR.nil⟩
section
variable {w wr wr' w1 : World} {D : Nat → Prop} {a v v' c x y z : Value} {s : Tab} {m : List (Int × Int)}
theorem KW.cells (h : KW w wr D a v c x y z s m) : wr.cell? ⟨w.heap.size, 0, none⟩ = some a ∧ wr.cell? ⟨w.heap.size, 1, none⟩ = some v ∧ wr.cell? ⟨w.heap.size, 2, none⟩ = some c :=
  ⟨by rw [h.p.cell]; rfl, by rw [h.p.cell]; rfl, by rw [h.p.cell]; rfl⟩
theorem KW.alloc (h : KW w wr D a v c x y z s m) (o : Obj) : KW w (wr.alloc o) D a v c x y z s m :=
  have hb := below1 wr o
  ⟨h.p.below hb h.p.lt, h.q.below hb h.q.lt, h.ref.below hb (fun d hd => (h.hD d hd).1), h.own.alloc o, h.ap, fun d hd => ⟨Nat.lt_of_lt_of_le (h.hD d hd).1 hb.size, (h.hD d hd).2⟩, Below.step h.bel hb⟩
/-- behind the call that made the row, and the store -/
theorem KW.start {AH AW : Option Addr} {cH cW : Nat} (h : KT w wr D (.slice AH s.h.length cH) (.slice AW s.ws.length cW) (.bool s.br) x y z s) (hb : Below wr.heap.size wr w1) (ho : w1.ownsRow wr.heap.size 48 2 v m.length (fcs encP (m.map swapP))) :
    KW w (w1.setCell ⟨w.heap.size, 1, none⟩ v) D (.slice AH s.h.length cH) v (.bool s.br) x y z s m := by
  have k := h.step hb
  have hq := h.q.lt
  have lo := fun g hg => (ho.lt g hg).1
  refine ⟨k.p.set_ 1 v, k.q.far (by simp) _, k.ref.noW.keep fun d hd => Below.heap_setCell _ _ _ _ (k.hD d hd).2.1, own_keep (own_low ho (by omega)) fun g hg => Below.heap_setCell _ _ _ _ (by have := lo g hg; simp only; omega), fun d hd e => ?_, fun d hd => by simpa using k.hD d hd, k.bel.setCell (Nat.le_refl _) _⟩
  have := lo d e
  have := (h.hD d hd).1
  omega
/-- the row has grown, and is stored -/
theorem KW.app {n : Nat} {p : Int × Int} (h : KW w wr D a v c x y z s m) (ho : w1.ownsRow (w.heap.size + 2) 48 2 v' (m.length + 1) (fcs encP (m.map swapP) ++ encP (swapP p))) (hG : wr.grownBy w1 v.ownBlock) (hv : v'.ownBlock = v.ownBlock ∨ v'.ownBlock = some n) (hn : wr.heap.size ≤ n) :
    KW w (w1.setCell ⟨w.heap.size, 1, none⟩ v') D a v' c x y z s (m ++ [p]) := by
  have lo := fun g hg => (h.own.lt g hg).1
  have lo' := fun g hg => (ho.lt g hg).1
  have hq := h.q.lt
  refine ⟨(h.p.grown hG fun e1 => ?_).set_ 1 v', (h.q.grown hG fun e1 => ?_).far (by simp) _, (h.ref.keep fun d hd => hG.block d (h.hD d hd).1 (fun e1 => h.ap d hd e1.symm)).keep fun d hd => Below.heap_setCell _ _ _ _ (h.hD d hd).2.1, ?_, fun d hd e => ?_, fun d hd => ⟨by simpa using Nat.lt_of_lt_of_le (h.hD d hd).1 hG.size, (h.hD d hd).2⟩, ?_⟩
  · have := lo _ e1.symm; omega
  · have := lo _ e1.symm; omega
  · have e : fcs encP ((m ++ [p]).map swapP) = fcs encP (m.map swapP) ++ encP (swapP p) := by rw [List.map_append, fcs_append]; simp [fcs]
    rw [e, List.length_append]
    exact own_keep ho fun g hg => Below.heap_setCell _ _ _ _ (by have := lo' g hg; simp only; omega)
  · rcases hv with hv | hv
    · exact h.ap d hd (hv ▸ e)
    · rw [hv] at e
      injection e with e
      have := (h.hD d hd).1
      omega
  · exact (h.bel.grown hG h.bel.size fun k hk => by have := lo k hk; omega).setCell (Nat.le_refl _) _
/-- said -/
theorem KW.table {R : Nat → Prop} {AH : Option Addr} {cH : Nat} {A : Option Addr} {n cc : Nat} (h : KW w wr D (.slice AH s.h.length cH) (.slice A n cc) (.bool s.br) x y z s m) (up : ∀ d, D d → GrowK R w wr d) (hRD : ∀ d, R d → D d) (hn : n = m.length) (hc : n ≤ cc) (hm : cc ≤ 9223372036854775807) :
    KT w wr (GrowK R w wr) (.slice AH s.h.length cH) (.slice A n cc) (.bool s.br) x y z ⟨s.h, m, s.br⟩ := by
  · subst hn
    refine ⟨h.p, h.q, ?_, fun d hd => ?_, h.bel⟩
    · exact RefT.mkW (s := ⟨s.h, [], s.br⟩) (AW := none) (cW := 0) (m := m) (A := A) (n := m.length) (c := cc) (R' := GrowK R w wr) h.ref up ((flatP.own h.own).more fun d hd => .inr hd) rfl hc hm
    · rcases hd with hd | hd
      · exact h.hD d (hRD d hd)
      · exact ⟨hd.2, by have := hd.1; omega, by have := hd.1; omega⟩
end
end Go.Proofs.Ytknljldmjicfgaa
