/-
  Planes: nodes as cells; There. Conditions: the slice of nodes reads as a list.
-/
import Derived.Test.YtphbdffgeeicaadWlkP
import Derived.Test.YtphbdffgeeicaadVecA
import Derived.Test.YtphbdffgeeicaadLib2
namespace Go.Proofs.Ytphbdffgeeicaad
set_option linter.unusedSimpArgs false
set_option linter.unusedVariables false
open Go.RowKit

def SItemW : Sh (Int × List Int × Int) := Sh.pair (Sh.int .u64) (Sh.pair (Sh.list (Sh.int .i32)) (Sh.int .u64))
def SNode : Sh NodeP := Sh.pair SItemW (Sh.pair (Sh.int .i64) (Sh.pair (Sh.list (Sh.list (Sh.int .i64))) (Sh.pair (Sh.int .i64) (Sh.int .i64))))
/-- a node's cells -/
structure NodeC (w : World) (R : Nat → Prop) (a : Addr) (x : NodeP) (V : Option Addr) (cV : Nat) (L : Option Addr) (cL : Nat) : Prop where
  c0 : w.cell? a = some (.int .u64 x.1.1)
  c1 : w.cell? ⟨a.block, a.off + 1, none⟩ = some (.slice V x.1.2.1.length cV)
  c2 : w.cell? ⟨a.block, a.off + 2, none⟩ = some (.int .u64 x.1.2.2)
  c3 : w.cell? ⟨a.block, a.off + 3, none⟩ = some (.int .i64 x.2.1)
  c4 : w.cell? ⟨a.block, a.off + 4, none⟩ = some (.slice L x.2.2.1.length cL)
  c5 : w.cell? ⟨a.block, a.off + 5, none⟩ = some (.int .i64 x.2.2.2.1)
  c6 : w.cell? ⟨a.block, a.off + 6, none⟩ = some (.int .i64 x.2.2.2.2)
  v1 : x.1.2.1.length ≤ cV
  v2 : cV ≤ 9223372036854775807
  v : RdR (Sh.int .i32) w R V x.1.2.1
  l1 : x.2.2.1.length ≤ cL
  l2 : cL ≤ 9223372036854775807
  l : RdR (Sh.list (Sh.int .i64)) w R L x.2.2.1
theorem RdR.node {w : World} {R : Nat → Prop} {A : Option Addr} {l : List NodeP} (h : RdR SNode w R A l) {k : Nat} (hk : k < l.length) : ∃ ad x V cV L cL, A = some ad ∧ R ad.block ∧ l[k]? = some x ∧ NodeC w R (ad.add (k * 7)) x V cV L cL := by
  obtain ⟨ad, x, cs, e, hb, hx, hr, hc⟩ := h.at_ hk
  obtain ⟨b, d, rfl, ⟨b1, d1, rfl, hr1, b2, d2, rfl, ⟨V, cV, hr2, v1, v2, v3⟩, hr3⟩, b4, d4, rfl, hr4, b5, d5, rfl, ⟨L, cL, hr5, l1, l2, l3⟩, b6, d6, rfl, hr6, hr7⟩ := hr
  have h1 : b1 = [.int .u64 x.1.1] := hr1
  have h3 : d2 = [.int .u64 x.1.2.2] := hr3
  have h4 : b4 = [.int .i64 x.2.1] := hr4
  have h6 : b6 = [.int .i64 x.2.2.2.1] := hr6
  have h7 : d6 = [.int .i64 x.2.2.2.2] := hr7
  subst h1 hr2 h3 h4 hr5 h6 h7
  have c0 := hc 0 _ rfl
  have c1 := hc 1 _ rfl
  have c2 := hc 2 _ rfl
  have c3 := hc 3 _ rfl
  have c4 := hc 4 _ rfl
  have c5 := hc 5 _ rfl
  have c6 := hc 6 _ rfl
  rw [show SNode.size = 7 from rfl, ← add_of_add] at c1 c2 c3 c4 c5 c6
  refine ⟨ad, x, V, cV, L, cL, e, hb, hx, ?_, c1, c2, c3, c4, c5, c6, v1, v2, v3, l1, l2, l3⟩
  simpa [SNode, SItemW, Sh.pair, Sh.int, Sh.list] using c0
theorem node_at {ns : List NodeP} {k : Nat} {x : NodeP} (h : ns[k]? = some x) : thereF ns k = (decide ((0 : Int) < k) && decide (0 ≤ x.2.2.2.1)) := by
  have hk := (List.getElem?_eq_some_iff.1 h).1
  unfold thereF
  rw [show (decide ((k : Int) < ns.length)) = true from decide_eq_true (by omega), show ((k : Int)).toNat = k by omega, h]
  simp
theorem there_out {ns : List NodeP} {s : Int} (h : s ≤ 0 ∨ (ns.length : Int) ≤ s) : thereF ns s = false := by
  unfold thereF
  rcases h with h | h
  · rw [decide_eq_false (by omega)]; simp
  · rw [decide_eq_false (show ¬ s < (ns.length : Int) by omega)]; simp
section
variable {w : World} {N : Option Addr} {nn cN : Nat} {ns : List NodeP} {en top : Int}
set_option maxHeartbeats 4000000 in
theorem there_any (hx : Rd SNode w w.heap.size N ns) (hn : ns.length = nn) (s : Int) : Calls Try.prog 12 #[.agg #[.slice N nn cN, .int .i64 en, .int .i64 top], .int .i64 s] w fun e w' => e = .returned (.bool (thereF ns s)) ∧ Below w.heap.size w w' := by
  have hb := below1 w (.cells #[.slice N nn cN, .int .i64 en, .int .i64 top] 24)
  have HB := hide hb
  by_cases h0 : 0 < s
  · have b0 : decide (0 < s) = true := decide_eq_true h0
    by_cases h1 : s < nn
    · obtain ⟨k, rfl⟩ : ∃ k : Nat, s = k := ⟨s.toNat, by omega⟩
      obtain ⟨ad, x, V, cV, L, cL, rfl, hbl, hk, hc⟩ := hx.node (k := k) (by omega)
      have HT := hide (show thereF ns (k : Int) = decide (0 ≤ x.2.2.2.1) by rw [node_at hk, b0]; rfl)
      have hk0 : (0 : Int) ≤ k := by omega
      have c5 : (w.alloc (.cells #[.slice (some ad) nn cN, .int .i64 en, .int .i64 top] 24)).cell? ⟨(ad.add (k * 7)).block, (ad.add (k * 7)).off + 5, none⟩ = some (.int .i64 x.2.2.2.1) := (hb.cell (by show (ad.add (k * 7)).block < _; rw [block_of_add]; exact hbl)).trans hc.c5
      have hlt : decide ((k : Int) < nn) = true := decide_eq_true h1
      clear hx hn hk hc hb
      go_enter Try.func12, Try.ntmps12
      go_wp2
      go_ret
      exact ⟨by rw [HT.out]; rfl, HB.out⟩
    · have HT := hide (show thereF ns s = false from there_out (.inr (by omega)))
      have hlt : decide (s < (nn : Int)) = false := decide_eq_false h1
      clear hx hn hb
      go_enter Try.func12, Try.ntmps12
      go_wp2
      go_ret
      exact ⟨by rw [HT.out]; rfl, HB.out⟩
  · have b0 : decide (0 < s) = false := decide_eq_false h0
    have HT := hide (show thereF ns s = false from there_out (.inl (by omega)))
    clear hx hn hb
    go_enter Try.func12, Try.ntmps12
    go_wp2
    go_ret
    exact ⟨by rw [HT.out]; rfl, HB.out⟩
end
end Go.Proofs.Ytphbdffgeeicaad
