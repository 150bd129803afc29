/-
  The document's sets: Less; how far two are apart, in the program and in the document. Conditions: the slices read as lists of words.
-/
import Derived.Test.YtlnbeeflifmnjacSkD
namespace Go.Proofs.Ytlnbeeflifmnjac
set_option linter.unusedSimpArgs false
set_option linter.unusedVariables false
open Go.RowKit

def lessI (a b : List Int) : List Int := ((listW a).filter fun n => !mw b n).map Int.ofNat
theorem listI_at {a : List Int} {k : Nat} {x : Int} (h : (listI a)[k]? = some x) : ∃ q : Nat, q < 4096 ∧ x = q ∧ (listW a)[k]? = some q := by
  unfold listI at h
  rw [List.getElem?_map, Option.map_eq_some_iff] at h
  obtain ⟨q, h1, rfl⟩ := h
  have := (List.mem_filter.1 (List.mem_of_getElem? h1)).1
  exact ⟨q, List.mem_range.1 this, rfl, h1⟩
def lessK (a b : List Int) (k : Nat) : List Int := (((listW a).take k).filter fun n => !mw b n).map Int.ofNat
theorem lessK_yes {a b : List Int} {k q : Nat} (h : (listW a)[k]? = some q) (hm : mw b q = false) : lessK a b (k + 1) = lessK a b k ++ [(q : Int)] := by
  unfold lessK
  rw [List.take_add_one, h, List.filter_append, List.map_append]
  simp [hm]
theorem lessK_no {a b : List Int} {k q : Nat} (h : (listW a)[k]? = some q) (hm : mw b q = true) : lessK a b (k + 1) = lessK a b k := by
  unfold lessK
  rw [List.take_add_one, h, List.filter_append, List.map_append]
  simp [hm]
theorem lessK_end {a b : List Int} {k : Nat} (h : (listI a).length ≤ k) : lessK a b k = lessI a b := by
  unfold lessK lessI
  unfold listI at h
  rw [List.length_map] at h
  rw [List.take_of_length_le h]
theorem lessI_small (a b : List Int) : ∀ x ∈ lessI a b, x ≤ 9223372036854775807 := fun x hx => by
  unfold lessI at hx
  obtain ⟨q, h1, rfl⟩ := List.mem_map.1 hx
  have := List.mem_range.1 (List.mem_filter.1 (List.mem_filter.1 h1).1).1
  show (q : Int) ≤ _
  omega
theorem listI_le (a : List Int) : (listI a).length ≤ 4096 := by
  unfold listI listW
  rw [List.length_map]
  have h := List.length_filter_le (mw a) (List.range 4096)
  rwa [List.length_range] at h
set_option maxHeartbeats 2000000 in
set_option maxRecDepth 100000 in
theorem rLess_any {A B : Option Addr} {n c m d : Nat} {a b : List Int} {w : World} (ha : Rd (Sh.int .u64) w w.heap.size A a) (hn : a.length = n) (hc : n ≤ c) (hua : UL a) (hb : Rd (Sh.int .u64) w w.heap.size B b) (hn' : b.length = m) (hc' : m ≤ d) (hub : UL b) :
    Calls Try.prog 22 #[.slice A n c, .slice B m d] w fun e w' => ∃ v, e = .returned v ∧ NewL (Sh.int .u64) w (lessW a b) v w' := by
  have CL := hide (rList_any ha hn hc hua)
  have HB := hide hb
  have Hm := hide hn'
  have HU := hide hub
  have HUA := hide hua
  clear ha hn hb hn' hub hua
  go_enter Try.func22, Try.ntmps22
  go_wp2_with (go_at_call 21; refine CL.out.mono ?_; rintro e w1 ⟨v1, rfl, A1, n1, c1, rfl, k1, k2, k3, k4, k5⟩; have HR := hide (k4.rd (B := w1.heap.size) fun d hd => hd.2); have HB1 := hide k5; have HL1 := hide k1; clear k4 k5 k1)
  have h40 : n1 ≤ 4096 := by have := listI_le a; have := HL1.out; omega
  have HBb := hide (HB.out.at_world HB1.out)
  have HO0 := hide (World.ownsRow_nil (w := w1) w1.heap.size 3 1)
  clear CL HB
  go_loopw [5, 11] (fun o i wr => ∃ (k j : Nat) (C : Option Addr) (p : Nat), k ≤ n1 ∧ j ≤ k ∧ i = .int .i64 k ∧ o = .slice C j p ∧ j ≤ p ∧ p ≤ 9223372036854775807 ∧ Hid ((lessK a b k).length = j) ∧ Hid (wr.ownsRow w1.heap.size 3 1 (.slice C j p) j (fcs encI (lessK a b k))) ∧ Hid (Below w1.heap.size w1 wr)) (fun _ i _ => n1 - (intOf i).toNat)
  case atStart => exact ⟨0, 0, none, 0, by omega, by omega, rfl, rfl, by omega, by omega, hide rfl, hide (World.ownsRow_nil _ _ _ _), hide (Below.refl _ _)⟩
  case round =>
    obtain ⟨k, j, C, p, hk, hj, rfl, rfl, e1, e2, HLn, HO, HBq⟩ := hrel
    clear HO0
    by_cases hlt : k < n1
    · have g0 : (0 : Int) ≤ k := by omega
      have g1 : (k : Int) < n1 := by omega
      obtain ⟨al, y, rfl, _, hv, q0⟩ := Rd.icell (HR.out.at_world HBq.out) (k := k) (by have := HL1.out; omega)
      obtain ⟨q, hq, rfl, hq2⟩ := listI_at hv
      have CH := hide (rHas_any (HBb.out.at_world HBq.out) Hm.out hc' HU.out (q : Int) (by omega))
      rw [hasW_nat _ _ hq] at CH
      clear hv
      by_cases hm : mw b q = true
      · have HSn := hide (lessK_no hq2 hm)
        rw [hm] at CH
        clear hm hq2
        go_wp2_with (go_at_call 36; refine CH.out.mono ?_; rintro e w3 ⟨rfl, rfl⟩)
        go_roundw
        case rel => exact ⟨k + 1, j, C, p, by omega, by omega, by go_num, rfl, e1, e2, by rw [HSn.out]; exact HLn, by rw [HSn.out]; exact HO, HBq⟩
        case measure => simp [intOf]; omega
      · have hm := Bool.eq_false_iff.2 hm
        have HSn := hide (lessK_yes hq2 hm)
        rw [hm] at CH
        clear hm hq2
        go_wp2_with (first
          | (go_at_call 36; refine CH.out.mono ?_; rintro e w3 ⟨rfl, rfl⟩)
          | (at_builtin; refine wpList_append_elem rfl (.tmp 19) (.tmp 21) 32 rfl w1.heap.size Try.underlying32 info_intE rfl (by decide) (.slice C j p) j _ rfl HO.out _ _ rfl rfl (by simp [Value.oneCell']) (by simp only [maxLen]; omega) (by omega) HBq.out.size ?_; intro v9 w9 hown9 hgr9 hat9; have HO9 := hide (show w9.ownsRow w1.heap.size 3 1 v9 (j + 1) (fcs encI (lessK a b (k + 1))) by rw [HSn.out, fcsI_snoc']; exact hown9); have HB8 := hide (below_own HBq.out HO.out HBq.out.size hgr9); obtain ⟨A8, c8, rfl, l1, l2⟩ := own_form hown9; clear hown9 hgr9 hat9))
        go_roundw
        case rel => exact ⟨k + 1, j + 1, A8, c8, by omega, by omega, by go_num, rfl, l1, l2, hide (by rw [HSn.out, List.length_append, HLn.out]; rfl), HO9, HB8⟩
        case measure => simp [intOf]; omega
    · obtain rfl : n1 = k := by omega
      have HBr := hide (Below.step HB1.out HBq.out)
      have HF := hide (lessK_end (a := a) (b := b) (k := n1) (by rw [HL1.out]; exact Nat.le_refl _))
      rw [HF.out] at HO HLn
      have CO := hide (rOf_any (c := p) ((flatI.own HO.out).rd (B := wr.heap.size) fun d hd => hd.2) HLn.out e1 e2 (lessI_small a b))
      clear HO HF HLn
      go_wp2_with (go_at_call 26; refine CO.out.mono ?_; rintro e w4 ⟨s, v4, hs, rfl, A4, n4, c4, rfl, k1, k2, k3, k4, k5⟩; have HG := hide (show ∃ v, Ending.returned (.slice A4 n4 c4) = .returned v ∧ NewL (Sh.int .u64) w (lessW a b) v w4 from ⟨_, rfl, A4, n4, c4, rfl, (by rw [← k1]; exact congrArg List.length ((less_is HUA.out HU.out).one hs)), k2, k3, (by rw [(less_is HUA.out HU.out).one hs]; exact k4.more fun d hd => ⟨Nat.le_trans HBr.out.size hd.1, hd.2⟩), Below.step HBr.out k5⟩); clear hs k1 k2 k3 k4 k5)
      go_ret
      exact HG.out
set_option maxHeartbeats 1000000 in
theorem rApart_any {A B : Option Addr} {n c m d : Nat} {a b : List Int} {w : World} (ha : Rd (Sh.int .u64) w w.heap.size A a) (hn : a.length = n) (hc : n ≤ c) (hua : UL a) (hb : Rd (Sh.int .u64) w w.heap.size B b) (hn' : b.length = m) (hc' : m ≤ d) (hub : UL b) :
    Calls Try.prog 7 #[.slice A n c, .slice B m d] w fun e w' => e = .returned (.int .i64 (apartW a b : Nat)) ∧ Below w.heap.size w w' := by
  have HA := hide ha
  have HB := hide hb
  have C1 := hide (rLess_any ha hn hc hua hb hn' hc' hub)
  have HE := hide (apart_less hua hub)
  have HN := hide hn
  have HM := hide hn'
  have HUa := hide hua
  have HUb := hide hub
  have l1 : (listW (lessW a b)).length ≤ 4096 := by have := listI_le (lessW a b); unfold listI at this; rwa [List.length_map] at this
  have l2 : (listW (lessW b a)).length ≤ 4096 := by have := listI_le (lessW b a); unfold listI at this; rwa [List.length_map] at this
  clear ha hb hn hn' hua hub
  go_enter Try.func7, Try.ntmps7
  go_wp2_with fail
  refine C1.out.mono ?_
  rintro e w1 ⟨v1, rfl, A1, n1, c1, rfl, k1, k2, k3, k4, k5⟩
  have HR1 := hide (k4.rd (B := w1.heap.size) fun d hd => hd.2)
  have HB1 := hide k5
  have C2 := hide (rList_any HR1.out k1 k2 (lessW_canon HUa.out HUb.out).u)
  clear k4 k5 k1 C1
  go_wp2_with fail
  refine C2.out.mono ?_
  rintro e w2 ⟨v2, rfl, A2, n2, c2, rfl, k1, k2', k3', k4, k5⟩
  have HB2 := hide (Below.step HB1.out k5)
  have hn2 : (listW (lessW a b)).length = n2 := by rw [← k1]; unfold listI; rw [List.length_map]
  have C3 := hide (rLess_any (HB.out.at_world HB2.out) HM.out hc' HUb.out (HA.out.at_world HB2.out) HN.out hc HUa.out)
  clear k4 k5 k1 C2
  go_wp2_with fail
  refine C3.out.mono ?_
  rintro e w3 ⟨v3, rfl, A3, n3, c3, rfl, k1, k2'', k3'', k4, k5⟩
  have HR3 := hide (k4.rd (B := w3.heap.size) fun d hd => hd.2)
  have HB3 := hide (Below.step HB2.out k5)
  have C4 := hide (rList_any HR3.out k1 k2'' (lessW_canon HUb.out HUa.out).u)
  clear k4 k5 k1 C3
  go_wp2_with fail
  refine C4.out.mono ?_
  rintro e w4 ⟨v4, rfl, A4, n4, c4, rfl, k1, k2q, k3q, k4, k5⟩
  have HB4 := hide (Below.step HB3.out k5)
  have hn4 : (listW (lessW b a)).length = n4 := by rw [← k1]; unfold listI; rw [List.length_map]
  rw [hn2, hn4] at HE
  have h2 : n2 ≤ 4096 := by omega
  have h4 : n4 ≤ 4096 := by omega
  clear k4 k5 k1 C4 hn2 hn4 l1 l2
  go_wp2
  go_ret
  refine ⟨?_, HB4.out⟩
  rw [← HE.out]
  go_num
theorem eLessW_any {A B : Option Addr} {n c m d : Nat} {a b : List Int} {w : World} (ha : Rd (Sh.int .u64) w w.heap.size A a) (hn : a.length = n) (hc : n ≤ c) (hm : c ≤ 9223372036854775807) (hb : Rd (Sh.int .u64) w w.heap.size B b) (hn' : b.length = m) (hc' : m ≤ d) (hm' : d ≤ 9223372036854775807) :
    Calls Try.prog 19 #[.slice A n c, .slice B m d] w fun e w' => ∃ v, e = .returned v ∧ NewL (Sh.int .u64) w (lessW a b) v w' := by
  unfold lessW
  exact eLess_any ha hn hc hm hb hn' hc' hm'
theorem eUnionW_any {A B : Option Addr} {n c m d : Nat} {a b : List Int} {w : World} (ha : Rd (Sh.int .u64) w w.heap.size A a) (hn : a.length = n) (hc : n ≤ c) (hm : c ≤ 9223372036854775807) (hb : Rd (Sh.int .u64) w w.heap.size B b) (hn' : b.length = m) (hc' : m ≤ d) (hm' : d ≤ 9223372036854775807) :
    Calls Try.prog 17 #[.slice A n c, .slice B m d] w fun e w' => ∃ v, e = .returned v ∧ NewL (Sh.int .u64) w (unionW a b) v w' := by
  unfold unionW
  exact eUnion_any ha hn hc hm hb hn' hc' hm'
theorem eCountW_any {A : Option Addr} {n c : Nat} {l : List Int} {w : World} (hx : Rd (Sh.int .u64) w w.heap.size A l) (hn : l.length = n) (hc : n ≤ c) (hu : UL l) :
    Calls Try.prog 16 #[.slice A n c] w fun e w' => e = .returned (.int .i64 ((listW l).length : Nat)) ∧ w = w' := by
  rw [← count_list]
  exact eCount_any (oc := oc) hx hn hc fun x hx => ⟨oc_le x, fun W => ones_any x (hu x (List.mem_of_mem_take hx)) W⟩
theorem apart_list {a b : List Int} (ha : UL a) (hb : UL b) : (listW (unionW (lessW a b) (lessW b a))).length = apartW a b := by
  rw [← apart_count ha hb, count_list]
set_option maxHeartbeats 1000000 in
theorem eApart_any {A B : Option Addr} {n c m d : Nat} {a b : List Int} {w : World} (ha : Rd (Sh.int .u64) w w.heap.size A a) (hn : a.length = n) (hc : n ≤ c) (hm : c ≤ 9223372036854775807) (hua : UL a) (hb : Rd (Sh.int .u64) w w.heap.size B b) (hn' : b.length = m) (hc' : m ≤ d) (hm' : d ≤ 9223372036854775807) (hub : UL b) :
    Calls Try.prog 6 #[.slice A n c, .slice B m d] w fun e w' => e = .returned (.int .i64 (apartW a b : Nat)) ∧ Below w.heap.size w w' := by
  have HA := hide ha
  have HB := hide hb
  have C1 := hide (eLessW_any ha hn hc hm hb hn' hc' hm')
  have HE := hide (apart_list hua hub)
  have HN := hide hn
  have HM := hide hn'
  have HU1 := hide (lessW_canon hua hub).u
  have HU2 := hide (lessW_canon hub hua).u
  have HU3 := hide (unionW_canon (lessW_canon hua hub).u (lessW_canon hub hua).u).u
  clear ha hb hn hn' hua hub
  go_enter Try.func6, Try.ntmps6
  go_wp2_with fail
  refine C1.out.mono ?_
  rintro e w1 ⟨v1, rfl, A1, n1, c1, rfl, k1, k2, k3, k4, k5⟩
  have HR1 := hide (k4.rd (B := w1.heap.size) fun d hd => hd.2)
  have HL1 := hide k1
  have HB1 := hide k5
  have C2 := hide (eLessW_any (HB.out.at_world HB1.out) HM.out hc' hm' (HA.out.at_world HB1.out) HN.out hc hm)
  clear k4 k5 k1 C1
  go_wp2_with fail
  refine C2.out.mono ?_
  rintro e w2 ⟨v2, rfl, A2, n2, c2, rfl, k1, k2', k3', k4, k5⟩
  have HR2 := hide (k4.rd (B := w2.heap.size) fun d hd => hd.2)
  have C3 := hide (eUnionW_any (HR1.out.at_world k5) HL1.out k2 k3 HR2.out k1 k2' k3')
  have HB2 := hide (Below.step HB1.out k5)
  clear k4 k5 k1 C2
  go_wp2_with fail
  refine C3.out.mono ?_
  rintro e w3 ⟨v3, rfl, A3, n3, c3, rfl, k1, k2'', k3'', k4, k5⟩
  have HR3 := hide (k4.rd (B := w3.heap.size) fun d hd => hd.2)
  have HB3 := hide (Below.step HB2.out k5)
  have C4 := hide (eCountW_any HR3.out k1 k2'' HU3.out)
  rw [HE.out] at C4
  clear k4 k5 k1 C3
  go_wp2_with fail
  refine C4.out.mono ?_
  rintro e w4 ⟨rfl, rfl⟩
  go_wp2
  go_ret
  exact ⟨rfl, HB3.out⟩
end Go.Proofs.Ytlnbeeflifmnjac
