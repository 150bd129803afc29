/-
  The reference's tables: Waits, rest. Conditions: the lists read as said.
-/
import Derived.Test.YtknljldmjicfgaaLckE
namespace Go.Proofs.Ytknljldmjicfgaa
open Go.RowKit

theorem swap_at {m : List (Int × Int)} {k : Nat} {a b : Int} (h : (m.map swapP)[k]? = some (a, b)) : m[k]? = some (b, a) := by
  rw [List.getElem?_map, Option.map_eq_some_iff] at h
  obtain ⟨⟨x, y⟩, h1, h2⟩ := h
  injection h2 with h2 h3
  simp only at h2 h3
  subst h2 h3
  exact h1
theorem info_pair : (Try.prog.info? 48).map (fun i => (i.zero, i.size, i.bytes)) = some (some (.agg #[.int .i64 0, .int .i64 0]), 2, 16) := by kernel_rfl
/-- a list without what has the key n, as far as it was gone through -/
theorem dropF_snoc {m : List (Int × Int)} {k : Nat} {x y n : Int} (hv : m[k]? = some (x, y)) : dropF (m.take (k + 1)) n = if x = n then dropF (m.take k) n else dropF (m.take k) n ++ [(x, y)] := by
  have ht : m.take (k + 1) = m.take k ++ [(x, y)] := by rw [List.take_add_one, hv]; rfl
  unfold dropF
  rw [ht, List.filter_append]
  by_cases e : x = n <;> simp [List.filter_cons, e]
theorem dropF_le (m : List (Int × Int)) (k : Nat) (n : Int) : (dropF (m.take k) n).length ≤ k := by
  have := List.length_filter_le (fun p : Int × Int => !(p.1 == n)) (m.take k)
  have h2 := List.length_take_le k m
  unfold dropF
  omega
section
variable {w : World} {s : Tab}
set_option maxHeartbeats 2000000 in
theorem refWaits_any {v : Value} (h : RefT w (fun b => b < w.heap.size) s v) (n : Int) : Calls Try.prog 14 #[v, .int .i64 n] w fun e w' => e = .returned (.tuple #[.int .i64 ((lookF s.ws n).getD 0), .bool (lookF s.ws n).isSome]) ∧ Below w.heap.size w w' := by
  obtain ⟨AH, cH, AW, cW, rfl, h1, h2, h3, h4, h5, h6⟩ := h
  have HR := hide h6
  clear h5 h6 h1 h2
  generalize hq : s.ws.length = q at *
  have Hq := hide hq
  clear hq
  go_enter Try.func14, Try.ntmps14
  go_wp2
  go_loopw [11, 7] (fun i _ wr => ∃ j : Nat, j ≤ q ∧ i = .int .i64 j ∧ Hid (∀ p ∈ s.ws.take j, p.1 ≠ n) ∧ Hid (Below w.heap.size w wr)) (fun i _ _ => q - (intOf i).toNat)
  case atStart => exact ⟨0, by omega, rfl, hide (by simp), hide (below1 _ _)⟩
  case round =>
    obtain ⟨j, hj, rfl, HN, HB⟩ := hrel
    by_cases hlt : j < q
    · obtain ⟨ad, ⟨y, x⟩, rfl, _, hv, q0, q1⟩ := (HR.out.below HB.out (fun _ h => h)).pcell (k := j) (by have := Hq.out; rw [List.length_map]; omega)
      simp only at q0 q1
      have g0 : (0 : Int) ≤ j := by omega
      have g1 : (j : Int) < q := by omega
      obtain ⟨k1, k2⟩ := lookF_take_none HN.out (swap_at hv)
      have HB1 := hide (HB.out.alloc HB.out.size (.cells #[.int .i64 y, .int .i64 x] 48))
      by_cases e : x = n
      · have HF := hide (k2 e)
        have e1 : (x == n) = true := by simpa using e
        clear hv k1 k2 e
        go_wp2
        go_ret2
        exact ⟨by rw [HF.out]; rfl, HB1.out⟩
      · have HK := hide (k1 e)
        have e1 : (x == n) = false := by simpa using e
        clear hv k1 k2 e
        go_wp2
        go_roundw
        case rel => exact ⟨j + 1, by omega, by go_num, HK, HB1⟩
        case measure => simp [intOf]; omega
    · have HF := hide (lookF_all_none HN.out (by have := Hq.out; omega))
      obtain rfl : j = q := by omega
      go_wp2
      go_ret2
      exact ⟨by rw [HF.out]; rfl, HB.out⟩
set_option maxHeartbeats 2000000 in
theorem rest_own (A : Option Addr) (q c : Nat) (m : List (Int × Int)) (n : Int) (hr : RdR SPr w (fun b => b < w.heap.size) A (m.map swapP)) (hq : m.length = q) (hc : q ≤ c) (hm : c ≤ 9223372036854775807) (h6 : q ≤ 1000000) :
    Calls Try.prog 21 #[.slice A q c, .int .i64 n] w fun e w' => ∃ v, e = .returned v ∧ w'.ownsRow w.heap.size 48 2 v (dropF m n).length (fcs encP ((dropF m n).map swapP)) ∧ Below w.heap.size w w' := by
  have HR := hide hr
  have Hq := hide hq
  clear hr hq
  go_enter Try.func21, Try.ntmps21
  go_wp2
  go_loopw [10, 7, 5] (fun i _ v wr => ∃ j : Nat, j ≤ q ∧ i = .int .i64 j ∧ Hid (wr.ownsRow w.heap.size 48 2 v (dropF (m.take j) n).length (fcs encP ((dropF (m.take j) n).map swapP))) ∧ Hid (Below w.heap.size w wr)) (fun i _ _ _ => q - (intOf i).toNat)
  case atStart => exact ⟨0, by omega, rfl, hide (World.ownsRow_nil _ _ _ _), hide (Below.refl _ _)⟩
  case round =>
    obtain ⟨j, hj, rfl, HO, HB⟩ := hrel
    obtain ⟨AV, cV, rfl, o1, o2⟩ := own_form HO.out
    by_cases hlt : j < q
    · obtain ⟨ad, ⟨y, x⟩, rfl, _, hv, q0, q1⟩ := (HR.out.below HB.out (fun _ h => h)).pcell (k := j) (by have := Hq.out; rw [List.length_map]; omega)
      simp only at q0 q1
      have g0 : (0 : Int) ≤ j := by omega
      have g1 : (j : Int) < q := by omega
      have HD := hide (dropF_snoc (n := n) (swap_at hv))
      have Hle := hide (dropF_le m j n)
      have HB1 := hide (HB.out.alloc HB.out.size (.cells #[.int .i64 y, .int .i64 x] 48))
      have HO1 := hide (HO.out.alloc (.cells #[.int .i64 y, .int .i64 x] 48))
      clear hv
      by_cases e : x = n
      · have e1 : (x != n) = false := by simp [e]
        have HF : Hid (dropF (m.take (j + 1)) n = dropF (m.take j) n) := hide (by rw [HD.out, if_pos e])
        clear e
        go_wp2
        go_roundw
        case rel => exact ⟨j + 1, by omega, by go_num, by rw [HF.out]; exact HO1, HB1⟩
        case measure => simp [intOf]; omega
      · have e1 : (x != n) = true := by simp [e]
        have HF : Hid (dropF (m.take (j + 1)) n = dropF (m.take j) n ++ [(x, y)]) := hide (by rw [HD.out, if_neg e])
        clear e
        go_wp2_with (at_builtin; refine wpList_append_elemG rfl _ _ 26 rfl w.heap.size Try.underlying26 info_pair rfl (by decide) (.slice AV (dropF (m.take j) n).length cV) (dropF (m.take j) n).length _ rfl HO1.out (wr.heap.size + 1) (by simp) _ _ rfl rfl (by simp [Value.oneCell']) (by have := Hle.out; simp only [maxLen]; omega) (by have := Hle.out; omega) HB1.out.size ?_; intro v' w3 hown3 hgr3 hat3; have HB3 := hide (below_own HB1.out HO1.out HB1.out.size hgr3); have HO3 := hide hown3; clear hown3 hgr3 hat3)
        go_roundw
        case rel => exact ⟨j + 1, by omega, by go_num, by rw [HF.out, List.length_append, List.map_append, fcs_append]; exact HO3, HB3⟩
        case measure => simp [intOf]; omega
    · obtain rfl : j = q := by omega
      have HF : Hid (m.take j = m) := hide (List.take_of_length_le (by have := Hq.out; omega))
      rw [HF.out] at HO
      go_wp2
      go_ret
      exact ⟨.slice AV (dropF (m.take j) n).length cV, rfl, by rw [HF.out]; exact HO.out, HB.out⟩
theorem rest_any (A : Option Addr) (q c : Nat) (m : List (Int × Int)) (n : Int) (hr : RdR SPr w (fun b => b < w.heap.size) A (m.map swapP)) (hq : m.length = q) (hc : q ≤ c) (hm : c ≤ 9223372036854775807) (h6 : q ≤ 1000000) :
    Calls Try.prog 21 #[.slice A q c, .int .i64 n] w fun e w' => ∃ v, e = .returned v ∧ NewL SPr w ((dropF m n).map swapP) v w' :=
  (rest_own A q c m n hr hq hc hm h6).mono fun _ _ ⟨v, he, ho, hb⟩ => ⟨v, he, flatP.new ho hb⟩
end
end Go.Proofs.Ytknljldmjicfgaa
