/-
  The package bitset: Count; sketch.Apart at literals. Conditions: the slice reads as a list of words.
-/
import Derived.Test.YtlnbeeflifmnjacBitA
namespace Go.Proofs.Ytlnbeeflifmnjac
set_option linter.unusedSimpArgs false
set_option linter.unusedVariables false
open Go.RowKit

theorem ones3_any (w : World) : Calls Try.prog 31 #[.int .u64 3] w fun e w' => e = .returned (.int .i64 2) ∧ w = w' := by
  go_enter Try.func31, Try.ntmps31
  go_wp2
  go_ret
  exact ⟨by kernel_rfl, rfl⟩
theorem sum_snoc {oc : Int → Nat} {l : List Int} {k : Nat} {x : Int} (h : l[k]? = some x) : ((l.take (k + 1)).map oc).sum = ((l.take k).map oc).sum + oc x := by
  rw [List.take_add_one, h, List.map_append, List.sum_append]
  simp
theorem sum_le64 {oc : Int → Nat} : ∀ {l : List Int}, (∀ x ∈ l, oc x ≤ 64) → (l.map oc).sum ≤ 64 * l.length
  | [], _ => by simp
  | x :: l, h => by
    have h1 := sum_le64 (l := l) fun y hy => h y (List.mem_cons_of_mem _ hy)
    have h2 := h x (List.mem_cons_self ..)
    rw [List.map_cons, List.sum_cons, List.length_cons]
    omega
set_option maxHeartbeats 1000000 in
theorem eCount_any {oc : Int → Nat} {A : Option Addr} {n c : Nat} {l : List Int} {w : World} (hx : Rd (Sh.int .u64) w w.heap.size A l) (hn : l.length = n) (hc : n ≤ c) (ho : ∀ x ∈ l.take 64, oc x ≤ 64 ∧ ∀ W, Calls Try.prog 31 #[.int .u64 x] W fun e w' => e = .returned (.int .i64 (oc x : Nat)) ∧ W = w') :
    Calls Try.prog 16 #[.slice A n c] w fun e w' => e = .returned (.int .i64 (((l.take 64).map oc).sum : Nat)) ∧ w = w' := by
  have HX := hx.take (min n 64)
  rw [take_cut hn] at HX
  have hl : (l.take 64).length = min n 64 := by rw [List.length_take, hn, Nat.min_comm]
  have CC := hide (cut_any A n c w hc)
  obtain ⟨t, ht⟩ : ∃ t, l.take 64 = t := ⟨_, rfl⟩
  rw [ht] at HX hl ho
  obtain ⟨m, hm⟩ : ∃ m, min n 64 = m := ⟨_, rfl⟩
  rw [hm] at hl CC
  have hm6 : m ≤ 64 := by omega
  have hmc : m ≤ c := by omega
  have HT := hide ht
  have HR := hide HX
  have HL := hide hl
  have HO := hide ho
  clear hx hn ho ht hl hm HX
  go_enter Try.func16, Try.ntmps16
  go_wp2_with fail
  refine CC.out.mono ?_
  rintro e w1 ⟨rfl, rfl⟩
  clear CC
  go_wp2
  go_loopw [3, 9] (fun s i wr => ∃ k : Nat, k ≤ m ∧ i = .int .i64 k ∧ s = .int .i64 (((t.take k).map oc).sum : Nat) ∧ w = wr) (fun _ i _ => m - (intOf i).toNat)
  case atStart => exact ⟨0, by omega, rfl, rfl, rfl⟩
  case round =>
    obtain ⟨k, hk, rfl, rfl, rfl⟩ := hrel
    by_cases hlt : k < m
    · obtain ⟨ad, x, rfl, _, hv, q0⟩ := Rd.icell HR.out (k := k) (by have := HL.out; omega)
      have g0 : (0 : Int) ≤ k := by omega
      have g1 : (k : Int) < m := by omega
      obtain ⟨h1, CO⟩ := HO.out x (List.mem_of_getElem? hv)
      have CO := hide CO
      have HSn := hide (sum_snoc (oc := oc) hv)
      have hs := sum_le64 (oc := oc) (l := t.take k) fun y hy => (HO.out y (List.mem_of_mem_take hy)).1
      rw [List.length_take] at hs
      obtain ⟨z, hz⟩ : ∃ z, ((t.take k).map oc).sum = z := ⟨_, rfl⟩
      obtain ⟨y, hy⟩ : ∃ y, oc x = y := ⟨_, rfl⟩
      rw [hz] at hs HSn
      rw [hy] at h1 CO HSn
      rw [hz]
      have hz6 : z ≤ 4096 := by omega
      clear hv hz hy hs
      go_wp2_with fail
      refine (CO.out _).mono ?_
      rintro e w2 ⟨rfl, rfl⟩
      go_wp2
      go_roundw
      case rel => exact ⟨k + 1, by omega, by go_num, by rw [HSn.out]; go_num, by first | rfl | trivial⟩
      case measure => simp [intOf]; omega
    · obtain rfl : m = k := by omega
      have HF := hide (show t.take m = t from List.take_of_length_le (by rw [HL.out]; exact Nat.le_refl _))
      go_wp2
      go_ret
      exact ⟨by rw [HF.out, HT.out]; rfl, by first | rfl | trivial⟩
theorem less12 : shL (putL (bits .andNot .u64) (([1] : List Int).take 64) (([2] : List Int).take 64)) = [1] := by decide
theorem less21 : shL (putL (bits .andNot .u64) (([2] : List Int).take 64) (([1] : List Int).take 64)) = [2] := by decide
theorem uni12 : shL (putL (bits .or .u64) (([1] : List Int).take 64) (([2] : List Int).take 64)) = [3] := by decide
set_option maxHeartbeats 1000000 in
theorem apart12_any {A B : Option Addr} {w : World} (ha : Rd (Sh.int .u64) w w.heap.size A [1]) (hb : Rd (Sh.int .u64) w w.heap.size B [2]) :
    Calls Try.prog 6 #[.slice A 1 1, .slice B 1 1] w fun e w' => e = .returned (.int .i64 2) ∧ Below w.heap.size w w' := by
  have HA := hide ha
  have HB := hide hb
  clear ha hb
  go_enter Try.func6, Try.ntmps6
  go_wp2_with fail
  refine (eLess_any (n := 1) (m := 1) (c := 1) (d := 1) HA.out rfl (by omega) (by omega) HB.out rfl (by omega) (by omega)).mono ?_
  rintro e w1 ⟨v1, rfl, A1, n1, c1, rfl, k1, k2, k3, k4, k5⟩
  rw [less12] at k1 k4
  obtain rfl : 1 = n1 := k1
  have HR1 := hide (k4.rd (B := w1.heap.size) fun d hd => hd.2)
  have HB1 := hide k5
  have hc1 : 1 ≤ c1 := k2
  clear k2 k4 k5
  go_wp2_with fail
  refine (eLess_any (n := 1) (m := 1) (c := 1) (d := 1) (HB.out.at_world HB1.out) rfl (by omega) (by omega) (HA.out.at_world HB1.out) rfl (by omega) (by omega)).mono ?_
  rintro e w2 ⟨v2, rfl, A2, n2, c2, rfl, k1, k2, k3', k4, k5⟩
  rw [less21] at k1 k4
  obtain rfl : 1 = n2 := k1
  have HR2 := hide (k4.rd (B := w2.heap.size) fun d hd => hd.2)
  replace HR1 := hide (HR1.out.at_world k5)
  have HB2 := hide (Below.step HB1.out k5)
  have hc2 : 1 ≤ c2 := k2
  clear k2 k4 k5 HB1
  go_wp2_with fail
  refine (eUnion_any (n := 1) (m := 1) HR1.out rfl hc1 k3 HR2.out rfl hc2 k3').mono ?_
  rintro e w3 ⟨v3, rfl, A3, n3, c3, rfl, k1, k2, k3'', k4, k5⟩
  rw [uni12] at k1 k4
  obtain rfl : 1 = n3 := k1
  have HR3 := hide (k4.rd (B := w3.heap.size) fun d hd => hd.2)
  have HB3 := hide (Below.step HB2.out k5)
  have hc3 : 1 ≤ c3 := k2
  clear k2 k4 k5 HB2
  go_wp2_with fail
  refine (eCount_any (n := 1) (oc := fun _ => 2) HR3.out rfl hc3 (fun x hx => by
    obtain rfl : x = 3 := by simpa using hx
    exact ⟨by omega, fun W => ones3_any W⟩)).mono ?_
  rintro e w4 ⟨rfl, rfl⟩
  go_wp2
  go_ret
  exact ⟨rfl, HB3.out⟩
end Go.Proofs.Ytlnbeeflifmnjac
