/-
  The law's own few and lives. Conditions (few): the slice reads as a list of items.
-/
import Derived.Test.YtclpmpikeadnpaaExaC
namespace Go.Proofs.Ytclpmpikeadnpaa
open Go.RowKit

/-- few items, all of them short -/
def fewE (l : List ItemP) : Bool := decide (l.length ≤ 100) && l.all fun it => decide (it.2.1.length ≤ 100)
theorem fewE_spec {l : List ItemP} (h : fewE l = true) : l.length ≤ 100 ∧ ∀ it ∈ l, it.2.1.length ≤ 100 := by
  unfold fewE at h
  rw [Bool.and_eq_true, List.all_eq_true] at h
  exact ⟨of_decide_eq_true h.1, fun v hv => of_decide_eq_true (h.2 v hv)⟩
theorem fewE_no {l : List ItemP} {k : Nat} {v : ItemP} (hv : l[k]? = some v) (h : 100 < v.2.1.length) : fewE l = false := by
  unfold fewE
  have : l.all (fun it => decide (it.2.1.length ≤ 100)) = false := by
    rw [List.all_eq_false]
    exact ⟨v, List.mem_of_getElem? hv, by simp; omega⟩
  rw [this, Bool.and_false]
theorem fewE_yes {l : List ItemP} (h : l.length ≤ 100) (hs : ∀ (k : Nat) (v : ItemP), l[k]? = some v → v.2.1.length ≤ 100) : fewE l = true := by
  unfold fewE
  rw [Bool.and_eq_true, List.all_eq_true]
  refine ⟨decide_eq_true h, fun v hv => decide_eq_true ?_⟩
  obtain ⟨k, hk⟩ := List.getElem?_of_mem hv
  exact hs k v hk
set_option maxHeartbeats 1000000 in
theorem few_any (A : Option Addr) (n c : Nat) (l : List ItemP) (w : World) (hx : Rd SItem w w.heap.size A l) (hn : l.length = n) (hc : n ≤ c) (hm : c ≤ 9223372036854775807) :
    Calls Try.prog 5 #[.slice A n c] w fun e w' => e = .returned (.bool (fewE l)) ∧ Below w.heap.size w w' := by
  have HX := hide hx
  have Hn := hide hn
  clear hx
  by_cases h1 : 100 < (n : Int)
  · have HF := hide (show fewE l = false by unfold fewE; rw [decide_eq_false (by omega), Bool.false_and])
    have b1 : decide (100 < (n : Int)) = true := decide_eq_true h1
    clear hn
    go_enter Try.func5, Try.ntmps5
    go_wp2
    go_ret
    exact ⟨by rw [HF.out]; rfl, Below.refl _ _⟩
  · have b1 : decide (100 < (n : Int)) = false := decide_eq_false h1
    clear hn
    go_enter Try.func5, Try.ntmps5
    go_wp2
    go_loopw [4, 10] (fun _ i wr => ∃ k : Nat, k ≤ n ∧ i = .int .i64 k ∧ Hid (∀ (j : Nat) (v : ItemP), j < k → l[j]? = some v → v.2.1.length ≤ 100) ∧ Hid (Below w.heap.size w wr)) (fun _ i _ => n - (intOf i).toNat)
    case atStart => exact ⟨0, by omega, rfl, hide (fun _ _ h => absurd h (by omega)), hide (Below.refl _ _)⟩
    case round =>
      obtain ⟨k, hk, rfl, HS, HB⟩ := hrel
      by_cases hlt : k < n
      · obtain ⟨ad, ⟨id, vec, tags⟩, V, cv, rfl, _, hv, q0, q1, q2, hcv, hcm, _⟩ := RdR.itcell (HX.out.below HB.out (Nat.le_refl _)) (k := k) (by have := Hn.out; omega)
        simp only at q0 q1 q2 hcv
        have g0 : (0 : Int) ≤ k := by omega
        have g1 : (k : Int) < n := by omega
        have HV := hide hv
        have HB1 := hide (HB.out.trans ((below1 wr (.cells #[.int .u64 id, .slice V vec.length cv, .int .u64 tags] 36)).mono HB.out.size))
        have HN := hide (Blk.new wr 36 #[.int .u64 id, .slice V vec.length cv, .int .u64 tags])
        clear hv
        go_upto_region 6 with fail
        clear q0 q1 q2
        generalize wr.alloc (.cells #[.int .u64 id, .slice V vec.length cv, .int .u64 tags] 36) = w2 at *
        have z0 : w2.cell? ⟨wr.heap.size, 0, none⟩ = some (.int .u64 id) := HN.out.cell 0
        have z1 : w2.cell? ⟨wr.heap.size, 1, none⟩ = some (.slice V vec.length cv) := HN.out.cell 1
        generalize wr.heap.size = bx at *
        by_cases h2 : 100 < (vec.length : Int)
        · have b2 : decide (100 < (vec.length : Int)) = true := decide_eq_true h2
          have HF := hide (fewE_no HV.out (by show 100 < vec.length; omega))
          go_wp2
          go_ret
          exact ⟨by rw [HF.out]; rfl, HB1.out⟩
        · have b2 : decide (100 < (vec.length : Int)) = false := decide_eq_false h2
          have HS1 := hide (show ∀ (j : Nat) (v : ItemP), j < k + 1 → l[j]? = some v → v.2.1.length ≤ 100 from fun j v hj h => by
            by_cases e : j = k
            · subst e; rw [HV.out] at h; injection h with h; subst h; show vec.length ≤ 100; omega
            · exact HS.out j v (by omega) h)
          go_wp2
          go_roundw
          case rel => exact ⟨k + 1, by omega, by go_num, HS1, HB1⟩
          case measure => simp [intOf]; omega
      · obtain rfl : k = n := by omega
        have HF := hide (show fewE l = true from fewE_yes (by have := Hn.out; omega) fun j v h => HS.out j v (by have h1 := (List.getElem?_eq_some_iff.1 h).1; have := Hn.out; omega) h)
        go_wp2
        go_ret
        exact ⟨by rw [HF.out]; rfl, HB.out⟩
def lvI : List ItemP := [(1, [3], 1), (2, [1], 3), (3, [-2], 2)]
theorem lv_h0 : hitsM [0] 0 lvI = [(1, 2), (4, 3), (9, 1)] := by
  have e : cntM [0] 0 lvI = [(9, 1), (1, 2), (4, 3)] := by decide +kernel
  unfold hitsM; rw [e]
  exact (srt_eq swoH totH (by decide) (by decide)).symm
theorem lv_h1 : hitsM [0] 1 lvI = [(1, 2), (9, 1)] := by
  have e : cntM [0] 1 lvI = [(9, 1), (1, 2)] := by decide +kernel
  unfold hitsM; rw [e]
  exact (srt_eq swoH totH (by decide) (by decide)).symm
theorem lit_items (w : World) (g a b c : Nat) (h : Blk w g 36 #[.int .u64 1, .slice (some ⟨a, 0, none⟩) 1 1, .int .u64 1, .int .u64 2, .slice (some ⟨b, 0, none⟩) 1 1, .int .u64 3, .int .u64 3, .slice (some ⟨c, 0, none⟩) 1 1, .int .u64 2])
    (ha : Blk w a 21 #[.int .i32 3]) (hb : Blk w b 21 #[.int .i32 1]) (hc : Blk w c 21 #[.int .i32 (-2)]) : Rd SItem w w.heap.size (some ⟨g, 0, none⟩) lvI := fun _ => by
  refine ⟨⟨g, 0, none⟩, rfl, h.lt, fun k x hx => ?_⟩
  have one : ∀ (p : Nat) (v : Int), Blk w p 21 #[.int .i32 v] → Rd (Sh.int .i32) w w.heap.size (some ⟨p, 0, none⟩) [v] := fun p v hp => (flatInt .i32).blk hp rfl
  have rdI : ∀ (p : Nat) (id v t : Int), Blk w p 21 #[.int .i32 v] → SItem.rd w (fun b => b < w.heap.size) (id, [v], t) [.int .u64 id, .slice (some ⟨p, 0, none⟩) 1 1, .int .u64 t] := fun p id v t hp =>
    ⟨[.int .u64 id], [.slice (some ⟨p, 0, none⟩) 1 1, .int .u64 t], rfl, rfl, [.slice (some ⟨p, 0, none⟩) 1 1], [.int .u64 t], rfl, ⟨some ⟨p, 0, none⟩, 1, rfl, Nat.le_refl _, by omega, one p v hp⟩, rfl⟩
  have cl : ∀ j, w.cell? (Addr.add ⟨g, 0, none⟩ j) = (#[.int .u64 1, .slice (some ⟨a, 0, none⟩) 1 1, .int .u64 1, .int .u64 2, .slice (some ⟨b, 0, none⟩) 1 1, .int .u64 3, .int .u64 3, .slice (some ⟨c, 0, none⟩) 1 1, .int .u64 2] : Array Value)[j]? := fun j => by rw [add_mk, Nat.zero_add]; exact h.cell j
  rcases k with _ | _ | _ | k
  · obtain rfl : (1, [3], 1) = x := by simpa [lvI] using hx
    refine ⟨_, rdI a 1 3 1 ha, fun j u hu => ?_⟩
    rw [cl]
    rcases j with _ | _ | _ | j <;> simp at hu <;> subst hu <;> rfl
  · obtain rfl : (2, [1], 3) = x := by simpa [lvI] using hx
    refine ⟨_, rdI b 2 1 3 hb, fun j u hu => ?_⟩
    rw [cl]
    rcases j with _ | _ | _ | j <;> simp at hu <;> subst hu <;> rfl
  · obtain rfl : (3, [-2], 2) = x := by simpa [lvI] using hx
    refine ⟨_, rdI c 3 (-2) 2 hc, fun j u hu => ?_⟩
    rw [cl]
    rcases j with _ | _ | _ | j <;> simp at hu <;> subst hu <;> rfl
  · simp [lvI] at hx
theorem lvI_I : ItsI lvI := by
  intro it hit
  simp only [lvI, List.mem_cons, List.not_mem_nil, or_false] at hit
  rcases hit with rfl | rfl | rfl <;> intro x hx <;> simp at hx <;> omega
theorem lvQ_I : I32 [0] := by intro x hx; simp at hx; omega
end Go.Proofs.Ytclpmpikeadnpaa
