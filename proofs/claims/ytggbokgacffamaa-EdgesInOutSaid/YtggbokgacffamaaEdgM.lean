/-
  The package edges: Right, and the reference's. Conditions: the slice reads as a list of ints; at most a million of them.
-/
import Derived.Test.YtggbokgacffamaaEdgL
namespace Go.Proofs.Ytggbokgacffamaa
open Go.RowKit ChangeMaps

/-- a number that may stand in a list of neighbours -/
def okE (self slots x : Int) : Prop := x ≠ self ∧ 1 ≤ x ∧ x ≤ slots
/-- a list of neighbours is right -/
def rightE (l : List Int) (self links level slots : Int) : Prop := (∀ x ∈ l, okE self slots x) ∧ l.Nodup ∧ (l.length : Int) ≤ mostF links level
noncomputable instance (l : List Int) (self links level slots : Int) : Decidable (rightE l self links level slots) := Classical.propDecidable _
theorem takeI_snoc {α : Type} {l : List α} {j : Nat} {x : α} (h : l[j]? = some x) : l.take (j + 1) = l.take j ++ [x] := by rw [List.take_add_one, h]; rfl
def I64 (l : List Int) : Prop := ∀ x ∈ l, -9223372036854775808 ≤ x ∧ x ≤ 9223372036854775807
theorem okE_snoc {l : List Int} {k : Nat} {y self slots : Int} (h : ∀ x ∈ l.take k, okE self slots x) (hv : l[k]? = some y) (hy : okE self slots y) : ∀ x ∈ l.take (k + 1), okE self slots x := fun x hx => by
  rcases (mem_take_snoc hv).1 hx with h1 | rfl
  · exact h x h1
  · exact hy
theorem not_rightE {l : List Int} {self links level slots y : Int} {k : Nat} (hv : l[k]? = some y) (h : ¬ okE self slots y) : decide (rightE l self links level slots) = false :=
  decide_eq_false fun hr => h (hr.1 y (List.mem_of_getElem? hv))
set_option maxHeartbeats 2000000 in
theorem eRight_any (A : Option Addr) (n c : Nat) (l : List Int) (self links level slots : Int) (w : World) (hx : Rd (Sh.int .i64) w w.heap.size A l) (hn : l.length = n) (hc : n ≤ c) (hm : c ≤ 9223372036854775807) (hi : I64 l) :
    Calls Try.prog 17 #[.slice A n c, .int .i64 self, .int .i64 links, .int .i64 level, .int .i64 slots] w fun e w' => e = .returned (.bool (decide (rightE l self links level slots))) ∧ Below w.heap.size w w' := by
  have HX := hide hx
  have Hn := hide hn
  have HW := hide hi
  clear hx hn hi
  have hmm := @run_makeMap Try.prog
  have HM := hide (fun W => most_any links level W)
  go_enter Try.func17, Try.ntmps17
  go_wp2
  go_loopw [10, 13, 17] (fun _ _ i wr => ∃ j : Nat, j ≤ n ∧ i = .int .i64 j ∧ Hid (MapAtI wr w.heap.size (l.take j)) ∧ Hid (∀ x ∈ l.take j, okE self slots x) ∧ Hid (Below w.heap.size w wr)) (fun _ _ i _ => n - (intOf i).toNat)
  case atStart => exact ⟨0, by omega, rfl, hide ⟨_, _, heap_alloc_new _ _, IM.start⟩, hide (by simp), hide (below1 _ _)⟩
  case round =>
    obtain ⟨j, hj, rfl, HT, HO, HBl⟩ := hrel
    by_cases hlt : j < n
    · obtain ⟨ad, y, rfl, _, hv, q0⟩ := RdR.icell (HX.out.below HBl.out (Nat.le_refl _)) (k := j) (by have := Hn.out; omega)
      have hwy := hide (HW.out _ (List.mem_of_getElem? hv))
      have g0 : (0 : Int) ≤ j := by omega
      have g1 : (j : Int) < n := by omega
      by_cases ho : okE self slots y
      · have hs : (y == self) = false := by simpa using ho.1
        have h2 : ¬ y < 1 := by have := ho.2.1; omega
        have h3 : ¬ slots < y := by have := ho.2.2; omega
        have HO1 := hide (okE_snoc HO.out hv ho)
        have HSn := hide (takeI_snoc hv)
        obtain ⟨v, L1⟩ := HT.out.look hwy.out
        obtain ⟨w4, E1, T1, B1⟩ := HT.out.put hwy.out (wrap64 (v + 1))
        have HT1 := hide T1
        have HB1 := hide (HBl.out.trans B1)
        clear hv ho T1 B1
        go_wp2
        go_roundw
        case rel => exact ⟨j + 1, by omega, by go_num, by rw [HSn.out]; exact HT1, HO1, HB1⟩
        case measure => simp [intOf]; omega
      · have HF := hide (not_rightE (links := links) (level := level) hv ho)
        have HNO := hide ho
        clear hv ho
        by_cases e1 : y = self
        · have hs : (y == self) = true := by simpa using e1
          clear e1
          go_wp2
          all_goals go_ret
          all_goals exact ⟨by rw [HF.out]; try rfl, HBl.out⟩
        · have hs : (y == self) = false := by simpa using e1
          by_cases e2 : y < 1
          · clear e1
            go_wp2
            all_goals go_ret
            all_goals exact ⟨by rw [HF.out]; try rfl, HBl.out⟩
          · have e3 : slots < y := by
              have := HNO.out
              unfold okE at this
              omega
            clear e1
            go_wp2
            all_goals go_ret
            all_goals exact ⟨by rw [HF.out]; try rfl, HBl.out⟩
    · obtain rfl : j = n := by omega
      rw [List.take_of_length_le (by have := Hn.out; omega)] at HT HO
      obtain ⟨m, L1, hml⟩ := HT.out.len 3
      rw [Hn.out] at hml
      by_cases e1 : m = j
      · have HND := hide (hml.1 e1)
        subst e1
        have HF := hide (show decide (rightE l self links level slots) = decide ((m : Int) ≤ mostF links level) from by
          apply decide_eq_decide.2
          unfold rightE
          rw [Hn.out]
          exact ⟨fun h => h.2.2, fun h => ⟨HO.out, HND.out, h⟩⟩)
        clear hml
        go_wp2_with (go_at_call 8; refine (HM.out _).mono ?_; rintro e _ ⟨rfl, rfl⟩)
        all_goals go_ret
        all_goals exact ⟨by rw [HF.out]; try rfl, HBl.out⟩
      · have HF := hide (show decide (rightE l self links level slots) = false from decide_eq_false fun h => e1 (hml.2 h.2.1))
        have e2 : ((m : Int) == j) = false := by rw [beq_eq_false_iff_ne]; omega
        clear hml e1
        go_wp2
        all_goals go_ret
        all_goals exact ⟨by rw [HF.out]; try rfl, HBl.out⟩
set_option maxHeartbeats 2000000 in
theorem refRight_any (A : Option Addr) (n c : Nat) (l : List Int) (self links level slots : Int) (w : World) (hx : Rd (Sh.int .i64) w w.heap.size A l) (hn : l.length = n) (hc : n ≤ c) (hm : c ≤ 9223372036854775807) :
    Calls Try.prog 18 #[.slice A n c, .int .i64 self, .int .i64 links, .int .i64 level, .int .i64 slots] w fun e w' => e = .returned (.bool (decide (rightE l self links level slots))) ∧ w = w' := by
  have HX := hide hx
  have Hn := hide hn
  clear hx hn
  have HM := hide (fun W => refMost_any links level W)
  go_enter Try.func18, Try.ntmps18
  go_wp2
  go_loopw [10, 11, 12, 15] (fun _ _ _ i wr => ∃ j : Nat, j ≤ n ∧ i = .int .i64 j ∧ Hid (∀ x ∈ l.take j, okE self slots x) ∧ Hid (l.take j).Nodup ∧ wr = w) (fun _ _ _ i _ => n - (intOf i).toNat)
  case atStart => exact ⟨0, by omega, rfl, hide (by simp), hide (by simp), rfl⟩
  case round =>
    obtain ⟨j, hj, rfl, HO, HD, rfl⟩ := hrel
    by_cases hlt : j < n
    · obtain ⟨ad, y, rfl, _, hv, q0⟩ := RdR.icell HX.out (k := j) (by have := Hn.out; omega)
      have HH := hide (refHas_any (some ad) j c (l.take j) y wr (HX.out.take j) (by rw [List.length_take]; have := Hn.out; omega) (by omega) hm)
      have g0 : (0 : Int) ≤ j := by omega
      have g1 : (j : Int) < n := by omega
      by_cases ho : okE self slots y
      · have hs : (y == self) = false := by simpa using ho.1
        have h2 : ¬ y < 1 := by have := ho.2.1; omega
        have h3 : ¬ slots < y := by have := ho.2.2; omega
        have HO1 := hide (okE_snoc HO.out hv ho)
        by_cases e : y ∈ l.take j
        · have HF := hide (show decide (rightE l self links level slots) = false from decide_eq_false fun h => by
            have h1 : (l.take (j + 1)).Nodup := h.2.1.sublist (List.take_sublist _ _)
            rw [takeI_snoc hv, List.nodup_append] at h1
            exact h1.2.2 y e y (by simp) rfl)
          rw [decide_eq_true e] at HH
          clear hv ho e
          go_wp2_with (go_at_call 11; refine HH.out.mono ?_; rintro e _ ⟨rfl, rfl⟩)
          all_goals go_ret
          all_goals exact ⟨by rw [HF.out]; try rfl, rfl⟩
        · have HD1 := hide (show (l.take (j + 1)).Nodup from by
            rw [takeI_snoc hv, List.nodup_append]
            exact ⟨HD.out, by simp, fun a ha b hb e1 => e (by rw [List.mem_singleton.1 hb] at e1; exact e1 ▸ ha)⟩)
          rw [decide_eq_false e] at HH
          clear hv ho e
          go_wp2_with (go_at_call 11; refine HH.out.mono ?_; rintro e _ ⟨rfl, rfl⟩)
          go_roundw
          case rel => exact ⟨j + 1, by omega, by go_num, HO1, HD1, by first | exact rfl | trivial⟩
          case measure => simp [intOf]; omega
      · have HF := hide (not_rightE (links := links) (level := level) hv ho)
        have HNO := hide ho
        clear hv ho HH
        by_cases e1 : y = self
        · have hs : (y == self) = true := by simpa using e1
          clear e1
          go_wp2
          all_goals go_ret
          all_goals exact ⟨by rw [HF.out]; try rfl, rfl⟩
        · have hs : (y == self) = false := by simpa using e1
          by_cases e2 : y < 1
          · clear e1
            go_wp2
            all_goals go_ret
            all_goals exact ⟨by rw [HF.out]; try rfl, rfl⟩
          · have e3 : slots < y := by
              have := HNO.out
              unfold okE at this
              omega
            clear e1
            go_wp2
            all_goals go_ret
            all_goals exact ⟨by rw [HF.out]; try rfl, rfl⟩
    · obtain rfl : j = n := by omega
      rw [List.take_of_length_le (by have := Hn.out; omega)] at HD HO
      have HF := hide (show decide (rightE l self links level slots) = decide ((j : Int) ≤ mostF links level) from by
        apply decide_eq_decide.2
        unfold rightE
        rw [Hn.out]
        exact ⟨fun h => h.2.2, fun h => ⟨HO.out, HD.out, h⟩⟩)
      go_wp2_with (go_at_call 9; refine (HM.out _).mono ?_; rintro e _ ⟨rfl, rfl⟩)
      all_goals go_ret
      all_goals exact ⟨by rw [HF.out]; try rfl, rfl⟩
end Go.Proofs.Ytggbokgacffamaa
