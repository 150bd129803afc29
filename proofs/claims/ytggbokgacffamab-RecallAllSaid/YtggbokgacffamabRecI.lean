/-
  The package recall: a map that counts hits. Conditions: the slice reads as a list of hits.
-/
import Derived.Test.YtggbokgacffamabRecH
import Derived.Carry
namespace Go.Proofs.Ytggbokgacffamab
open Go.RowKit ChangeMaps

/-- a map of counts lies at a block -/
def MapAt (w : World) (b : Nat) (l : List Hit) : Prop := ∃ es clock, w.heap[b]? = some (.map es clock) ∧ HM es clock l
theorem MapAt.below {w w' : World} {B b : Nat} {l : List Hit} (h : MapAt w b l) (hb : Below B w w') (hB : b < B) : MapAt w' b l := by
  obtain ⟨es, clock, h1, h2⟩ := h
  exact ⟨es, clock, (hb.block b hB).trans h1, h2⟩
theorem MapAt.lt {w : World} {b : Nat} {l : List Hit} (h : MapAt w b l) : b < w.heap.size := by
  obtain ⟨es, clock, h1, _⟩ := h
  exact (Array.getElem?_eq_some_iff.1 h1).1
theorem MapAt.look {w : World} {b : Nat} {l : List Hit} (h : MapAt w b l) {x y : Int} (hw : wfH (x, y)) : (Instr.lookup 45 (.map (some b)) (.agg #[.int .u64 x, .int .u64 y]) false).run Try.prog w = .ok (.int .i64 (l.count (x, y) : Nat)) w := by
  obtain ⟨es, clock, h1, h2⟩ := h
  exact h2.look hw h1
/-- one step: the entry, then what is stored there -/
theorem MapAt.step {w : World} {b : Nat} {l : List Hit} (h : MapAt w b l) {x y : Int} (hw : wfH (x, y)) : ∃ (v0 : Value) (st : Nat) (w3 w4 : World),
    (Instr.mapEntry 45 (.map (some b)) (.agg #[.int .u64 x, .int .u64 y])).run Try.prog w = .ok (.tuple #[v0, .int .i64 (st : Int)]) w3 ∧ MapAt w3 b l ∧ Below b w w3 ∧ (∀ k, k ≠ b → w3.heap[k]? = w.heap[k]?) ∧
    (Instr.entryStore 45 (.map (some b)) (.int .i64 (st : Int)) (.int .i64 ((l.count (x, y) : Int) + 1))).run Try.prog w3 = .ok () w4 ∧ MapAt w4 b (l ++ [(x, y)]) ∧ Below b w w4 ∧ (∀ k, k ≠ b → w4.heap[k]? = w.heap[k]?) := by
  obtain ⟨es, clock, h1, h2⟩ := h
  obtain ⟨v0, st, es1, clock1, e1, M1, j, e0, hj, hk, hst⟩ := h2.entry hw h1
  have hb1 := ChangeMaps.heap_setBlock_same h1 (.map es1 clock1)
  obtain ⟨es2, clock2, e2, M2⟩ := M1.store hw hb1 hj hk hst
  have hb2 := ChangeMaps.heap_setBlock_same hb1 (.map es2 clock2)
  have o1 : ∀ k, k ≠ b → (setBlock w b (.map es1 clock1)).heap[k]? = w.heap[k]? := fun k hk => ChangeMaps.heap_setBlock_other h1 _ hk
  have o2 : ∀ k, k ≠ b → (setBlock (setBlock w b (.map es1 clock1)) b (.map es2 clock2)).heap[k]? = w.heap[k]? := fun k hk => (ChangeMaps.heap_setBlock_other hb1 _ hk).trans (o1 k hk)
  have q1 := setBlock_below (Below.refl b w) h1 (Nat.le_refl _) (.map es1 clock1)
  exact ⟨v0, st, _, _, e1, ⟨_, _, hb1, M1⟩, q1, o1, e2, ⟨_, _, hb2, M2⟩, setBlock_below q1 hb1 (Nat.le_refl _) _, o2⟩

set_option maxHeartbeats 2000000 in
theorem set_any (A : Option Addr) (n c : Nat) (l : List Hit) (w : World) (hx : Rd SH w w.heap.size A l) (hn : l.length = n) (hc : n ≤ c) (hm : c ≤ 9223372036854775807) (hf : ∀ h ∈ l, wfH h) :
    Calls Try.prog 14 #[.slice A n c] w fun e w' => e = .returned (.map (some w.heap.size)) ∧ MapAt w' w.heap.size l ∧ Below w.heap.size w w' := by
  have HX := hide hx
  have Hn := hide hn
  have HW := hide hf
  clear hx hn hf
  have hmm := @run_makeMap Try.prog
  go_enter Try.func14, Try.ntmps14
  go_wp2
  go_loopw [5, 9] (fun _ i wr => ∃ j : Nat, j ≤ n ∧ i = .int .i64 j ∧ Hid (MapAt wr w.heap.size (l.take j)) ∧ Hid (Below w.heap.size w wr)) (fun _ i _ => n - (intOf i).toNat)
  case atStart => exact ⟨0, by omega, rfl, hide ⟨_, _, heap_alloc_new _ _, HM.start⟩, hide (below1 _ _)⟩
  case round =>
    obtain ⟨j, hj, rfl, HT, HBl⟩ := hrel
    by_cases hlt : j < n
    · obtain ⟨ad, ⟨x1, x2⟩, rfl, _, hv, q0, q1⟩ := (HX.out.below HBl.out (Nat.le_refl _)).hcell (k := j) (by have := Hn.out; omega)
      simp only at q0 q1
      have hwx := hide (HW.out _ (List.mem_of_getElem? hv))
      have g0 : (0 : Int) ≤ j := by omega
      have g1 : (j : Int) < n := by omega
      have hlt0 := HT.out.lt
      have HB1 := hide (HBl.out.trans ((below1 wr (.cells #[.int .u64 x1, .int .u64 x2] 36)).mono HBl.out.size))
      have HN := hide (Blk.new wr 36 #[.int .u64 x1, .int .u64 x2])
      have HT1 := hide (HT.out.below (below1 wr (.cells #[.int .u64 x1, .int .u64 x2] 36)) HT.out.lt)
      have HSn := hide (take_snoc hv)
      have Hcl := hide (show (l.take j).count (x1, x2) ≤ j from Nat.le_trans List.count_le_length (by rw [List.length_take]; omega))
      clear hv HT
      generalize l.take j = lj at *
      go_upto_region 5 with fail
      generalize wr.alloc (.cells #[.int .u64 x1, .int .u64 x2] 36) = w2 at *
      generalize wr.heap.size = b1 at *
      have HT2 := hide (show MapAt w2.drew w.heap.size lj from HT1.out)
      obtain ⟨v0, st, w3, w4, E1, T3, B3, O3, E2, T4, B4, O4⟩ := HT2.out.step hwx.out
      have L1 := HT2.out.look hwx.out
      have L2 := T3.look hwx.out
      have HN3 : Blk w3 b1 36 #[.int .u64 x1, .int .u64 x2] := (O3 b1 (by omega)).trans HN.out.drew
      have z0 : w2.cell? ⟨b1, 0, none⟩ = some (.int .u64 x1) := HN.out.cell 0
      have z1 : w2.cell? ⟨b1, 1, none⟩ = some (.int .u64 x2) := HN.out.cell 1
      have y0 : w3.cell? ⟨b1, 0, none⟩ = some (.int .u64 x1) := HN3.cell 0
      have y1 : w3.cell? ⟨b1, 1, none⟩ = some (.int .u64 x2) := HN3.cell 1
      have HB4 := hide (show Below w.heap.size w w4 from (below_drewN HB1.out 1).trans B4)
      have HT4 := hide T4
      have hcl := Hcl.out
      clear T3 T4 B3 B4 O3 O4 HN3
      generalize List.count (x1, x2) lj = u at *
      have e1 : IntKind.i64.wrap ((u : Int) + 1) = ((u + 1 : Nat) : Int) := by rw [IntKind.wrap_i64]; omega
      go_region
      all_goals
        go_wp2
        refine ⟨⟨j + 1, by omega, by go_num, by rw [HSn.out]; exact HT4, HB4⟩, ?_⟩
        simp [intOf]; omega
    · obtain rfl : j = n := by omega
      rw [List.take_of_length_le (by have := Hn.out; omega)] at HT
      go_wp2
      go_ret
      exact ⟨rfl, HT.out, HBl.out⟩
end Go.Proofs.Ytggbokgacffamab
