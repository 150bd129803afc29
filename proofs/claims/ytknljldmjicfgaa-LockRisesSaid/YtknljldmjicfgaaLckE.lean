/-
  The reference's tables: what they are in memory; Holder, Waits, rest. Conditions: the lists read as said.
-/
import Derived.Test.YtknljldmjicfgaaLckD
import Derived.Test.YtknljldmjicfgaaFlat
namespace Go.Proofs.Ytknljldmjicfgaa
open Go.RowKit

/-- 'append(s, x)' of one element, the number of its block told by an equation -/
theorem wpList_append_elemG {P : Program} {ops : Array Oper} {rest : List Oper} {o : Oper} {a : Act} {Q : Exit → Act → World → Prop} {wr : World} (hgd : o.guard = none) (s x : Operand) (t : TypeId)
    (ho : o.op = .call { callee := .builtin .append, args := #[s, x], argTypes := #[t, t] })
    (base : Nat) {e : TypeId} {z : Value} {size bytes : Nat} (ht : P.underlying t = some (.slice e)) (hinfo : (P.info? e).map (fun i => (i.zero, i.size, i.bytes)) = some (some z, size, bytes)) (hzs : z.cells.size = size) (hsz : 0 < size)
    (v : Value) (n : Nat) (xs : List Value) (hs : a.eval s = v) (hown : wr.ownsRow base e size v n xs) (g : Nat) (hg : wr.heap.size = g)
    (news : Array Value) (e' : TypeId) (hx : a.eval x = .slice (some ⟨g, 0, none⟩) 1 1) (hl : news.size = size) (h1 : ∀ u ∈ news.toList, u.oneCell' = true)
    (h63 : n + 1 ≤ maxLen) (hbytes : (n + 1) * bytes ≤ 140737488355328) (hbase : base ≤ wr.heap.size)
    (h : ∀ v' w', w'.ownsRow base e size v' (n + 1) (xs ++ news.toList) → wr.grownBy w' v.ownBlock → (v'.ownBlock = v.ownBlock ∨ v'.ownBlock = some (g + 1)) → wpList P ops Q rest (a.put o.dst v') w') :
    wpList P ops Q (o :: rest) a (wr.alloc (.cells news e')) := by
  subst hg
  exact wpList_append_elem hgd s x t ho base ht hinfo hzs hsz v n xs hs hown news e' hx hl h1 h63 hbytes hbase h
def SPr : Sh (Int × Int) := Sh.pair (Sh.int .i64) (Sh.int .i64)
def encP (x : Int × Int) : List Value := [.int .i64 x.1, .int .i64 x.2]
theorem flatP : Flat SPr encP := flatPair (flatInt .i64) (flatInt .i64)
theorem RdR.pcell {w : World} {R : Nat → Prop} {A : Option Addr} {l : List (Int × Int)} (h : RdR SPr w R A l) {k : Nat} (hk : k < l.length) : ∃ ad x, A = some ad ∧ R ad.block ∧ l[k]? = some x ∧ w.cell? (ad.add (k * 2)) = some (.int .i64 x.1) ∧ w.cell? ⟨(ad.add (k * 2)).block, (ad.add (k * 2)).off + 1, none⟩ = some (.int .i64 x.2) := by
  obtain ⟨ad, x, cs, e, hb, hx, hr, hc⟩ := h.at_ hk
  obtain ⟨c, d, rfl, hr1, hr2⟩ := hr
  have h1 : c = [.int .i64 x.1] := hr1
  have h2 : d = [.int .i64 x.2] := hr2
  subst h1 h2
  refine ⟨ad, x, e, hb, hx, by simpa [SPr, Sh.pair, Sh.int] using hc 0 _ rfl, ?_⟩
  have := hc 1 _ rfl
  rw [show SPr.size = 2 from rfl, ← add_of_add] at this
  exact this
def swapP (p : Int × Int) : Int × Int := (p.2, p.1)
/-- a table of the reference's: its value, what it refers to lies in blocks of R -/
def RefT (w : World) (R : Nat → Prop) (s : Tab) (v : Value) : Prop := ∃ AH cH AW cW, v = .agg #[.slice AH s.h.length cH, .slice AW s.ws.length cW, .bool s.br] ∧ s.h.length ≤ cH ∧ cH ≤ 9223372036854775807 ∧ s.ws.length ≤ cW ∧ cW ≤ 9223372036854775807 ∧ RdR SPr w R AH s.h ∧ RdR SPr w R AW (s.ws.map swapP)
section
variable {w w' : World} {R R' : Nat → Prop} {s : Tab} {v : Value}
theorem RefT.keep (h : RefT w R s v) (hk : ∀ b, R b → w'.heap[b]? = w.heap[b]?) : RefT w' R s v := by
  obtain ⟨AH, cH, AW, cW, e, h1, h2, h3, h4, h5, h6⟩ := h
  exact ⟨AH, cH, AW, cW, e, h1, h2, h3, h4, h5.keepBlocks hk, h6.keepBlocks hk⟩
theorem RefT.more (h : RefT w R s v) (hk : ∀ b, R b → R' b) : RefT w R' s v := by
  obtain ⟨AH, cH, AW, cW, e, h1, h2, h3, h4, h5, h6⟩ := h
  exact ⟨AH, cH, AW, cW, e, h1, h2, h3, h4, h5.more hk, h6.more hk⟩
theorem RefT.below {B : Nat} (h : RefT w R s v) (hb : Below B w w') (hR : ∀ b, R b → b < B) : RefT w' R s v := h.keep fun b hr => hb.block b (hR b hr)
end
/-- the first k of a list have no such -/
theorem lookF_take_none {m : List (Int × Int)} {k : Nat} {x n : Int} (h : ∀ p ∈ m.take k, p.1 ≠ n) {y : Int} (hv : m[k]? = some (x, y)) : (x ≠ n → ∀ p ∈ m.take (k + 1), p.1 ≠ n) ∧ (x = n → lookF m n = some y) := by
  have ht : m.take (k + 1) = m.take k ++ [(x, y)] := by rw [List.take_add_one, hv]; rfl
  constructor
  · intro hx p hp
    rw [ht] at hp
    rcases List.mem_append.1 hp with hp | hp
    · exact h p hp
    · rw [List.mem_singleton.1 hp]; exact hx
  · rintro rfl
    have : m = m.take k ++ (x, y) :: m.drop (k + 1) := by
      have hk := (List.getElem?_eq_some_iff.1 hv).1
      conv => lhs; rw [← List.take_append_drop k m, List.drop_eq_getElem_cons hk]
      rw [(List.getElem?_eq_some_iff.1 hv).2]
    rw [this, lookF_append, lookF_none h, lookF_cons]
    simp
theorem lookF_all_none {m : List (Int × Int)} {k : Nat} {n : Int} (h : ∀ p ∈ m.take k, p.1 ≠ n) (hk : m.length ≤ k) : lookF m n = none := by
  rw [List.take_of_length_le hk] at h
  exact lookF_none h
section
variable {w : World} {s : Tab}
set_option maxHeartbeats 2000000 in
theorem refHolder_any {v : Value} (h : RefT w (fun b => b < w.heap.size) s v) (n : Int) : Calls Try.prog 12 #[v, .int .i64 n] w fun e w' => e = .returned (.tuple #[.int .i64 ((lookF s.h n).getD 0), .bool (lookF s.h n).isSome]) ∧ Below w.heap.size w w' := by
  obtain ⟨AH, cH, AW, cW, rfl, h1, h2, h3, h4, h5, h6⟩ := h
  have HR := hide h5
  clear h5 h6 h3 h4
  generalize hq : s.h.length = q at *
  have Hq := hide hq
  clear hq
  go_enter Try.func12, Try.ntmps12
  go_wp2
  go_loopw [11, 7] (fun i _ wr => ∃ j : Nat, j ≤ q ∧ i = .int .i64 j ∧ Hid (∀ p ∈ s.h.take j, p.1 ≠ n) ∧ Hid (Below w.heap.size w wr)) (fun i _ _ => q - (intOf i).toNat)
  case atStart => exact ⟨0, by omega, rfl, hide (by simp), hide (below1 _ _)⟩
  case round =>
    obtain ⟨j, hj, rfl, HN, HB⟩ := hrel
    by_cases hlt : j < q
    · obtain ⟨ad, ⟨x, y⟩, rfl, _, hv, q0, q1⟩ := (HR.out.below HB.out (fun _ h => h)).pcell (k := j) (by have := Hq.out; omega)
      simp only at q0 q1
      have g0 : (0 : Int) ≤ j := by omega
      have g1 : (j : Int) < q := by omega
      obtain ⟨k1, k2⟩ := lookF_take_none HN.out hv
      have HB1 := hide (HB.out.alloc HB.out.size (.cells #[.int .i64 x, .int .i64 y] 48))
      by_cases e : x = n
      · have HF := hide (k2 e)
        have e1 : (x == n) = true := by simpa using e
        clear hv k1 k2 e
        go_wp2
        go_ret2
        exact ⟨by rw [HF.out]; rfl, HB1.out⟩
      · have HK := hide (k1 e)
        have e1 : (x == n) = false := by simpa using e
        clear hv k1 k2 e
        go_wp2
        go_roundw
        case rel => exact ⟨j + 1, by omega, by go_num, HK, HB1⟩
        case measure => simp [intOf]; omega
    · have HF := hide (lookF_all_none HN.out (by have := Hq.out; omega))
      obtain rfl : j = q := by omega
      go_wp2
      go_ret2
      exact ⟨by rw [HF.out]; rfl, HB.out⟩
end
end Go.Proofs.Ytknljldmjicfgaa
