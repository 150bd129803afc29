/-
  sketch.Near. Conditions: at most twenty sets.
-/
import Derived.Test.YtlnbeeflifmnjacSk2
namespace Go.Proofs.Ytlnbeeflifmnjac
set_option linter.unusedSimpArgs false
set_option linter.unusedVariables false
open Go.RowKit

theorem far_at (l : List (List Int)) (q : List Int) {k : Nat} {s : List Int} (h : l[k]? = some s) (hk : k < 64) : ((farA l q k).1.val : Nat) = apartW s q ∧ (farA l q k).2.val = k := by
  refine ⟨?_, Nat.mod_eq_of_lt hk⟩
  have e : l.getD k [] = s := by rw [List.getD_eq_getElem?_getD, h]; rfl
  unfold farA
  simp only [e]
set_option maxHeartbeats 4000000 in
set_option maxRecDepth 100000 in
theorem eNear_any {A B : Option Addr} {n c m d : Nat} {l : List (List Int)} {q : List Int} {w : World} (hx : Rd (Sh.list (Sh.int .u64)) w w.heap.size A l) (hn : l.length = n) (hc : n ≤ c) (h20 : n ≤ 20) (hu : ∀ s ∈ l, UL s) (hq : Rd (Sh.int .u64) w w.heap.size B q) (hm : q.length = m) (hd : m ≤ d) (hd2 : d ≤ 9223372036854775807) (huq : UL q) (most : Int) (K : Nat) (hK : min (max most 0) (n : Int) = K) :
    Calls Try.prog 14 #[.slice A n c, .slice B m d, .int .i64 most] w fun e w' => ∃ v, e = .returned v ∧ NewL (Sh.int .i64) w (((srtFr ((List.range n).map (farA l q))).take K).map fun x => (x.2.val : Int)) v w' := by
  have HX := hide hx
  have HQ := hide hq
  have Hn := hide hn
  have Hm := hide hm
  have HU := hide hu
  have HUq := hide huq
  have hmk := fun W => run_make_far n (by omega) W
  have HO0 := hide (show RowF _ _ _ _ _ (farK l q n 0) by rw [farK_zero]; exact rowF_made n (by omega) w)
  have HB0 := hide (below1 w (.cells (madeCells #[.int .i64 0, .int .i64 0] (n * 2)) 47))
  clear hx hn hq hm hu huq
  go_enter Try.func14, Try.ntmps14
  go_wp2
  go_loopw [8, 9, 18] (fun _ _ i wr => ∃ k : Nat, k ≤ n ∧ i = .int .i64 k ∧ Hid (RowF wr w.heap.size w.heap.size n n (farK l q n k)) ∧ Hid (Below w.heap.size w wr)) (fun _ _ i _ => n - (intOf i).toNat)
  case atStart => exact ⟨0, by omega, rfl, HO0, HB0⟩
  case round =>
    obtain ⟨k, hk, rfl, HO, HB⟩ := hrel
    clear HO0 HB0
    by_cases hlt : k < n
    · have g0 : (0 : Int) ≤ k := by omega
      have g1 : (k : Int) < n := by omega
      obtain ⟨ad, s, V, cv, rfl, _, hv, q0, hcv, hcm, hr⟩ := Rd.slc (HX.out.at_world HB.out) (k := k) (by have := Hn.out; omega)
      have CA := hide (eApart_any hr rfl hcv hcm (HU.out s (List.mem_of_getElem? hv)) (HQ.out.at_world HB.out) Hm.out hd hd2 HUq.out)
      obtain ⟨f1, f2⟩ := far_at l q hv (by omega)
      have HF1 := hide f1
      have HF2 := hide f2
      clear hr hv f1 f2
      go_wp2_with (go_at_call 6; refine CA.out.mono ?_; rintro e w2 ⟨rfl, hb2⟩; have HO2 := hide (HO.out.below hb2 HO.out.lt); have HB2 := hide (Below.step HB.out hb2); obtain ⟨p0, p1⟩ := HO2.out.cells (farK_get hlt); have f0 := HO2.out.frozen (k * 2); have f1 := HO2.out.frozen (k * 2 + 1); have HO3 := hide (HO2.out.set hlt (farA l q k)); have HB3 := hide ((HB2.out.setCell (p := ⟨w.heap.size, k * 2, none⟩) (Nat.le_refl _) (.int .i64 ((farA l q k).1.val : Nat))).setCell (p := ⟨w.heap.size, k * 2 + 1, none⟩) (Nat.le_refl _) (.int .i64 ((farA l q k).2.val : Nat))); rw [HF1.out, HF2.out, farK_set] at HO3; rw [HF1.out, HF2.out] at HB3; clear hb2)
      go_roundw
      case rel => exact ⟨k + 1, by omega, by go_num, HO3, HB3⟩
      case measure => simp [intOf]; omega
    · obtain rfl : n = k := by omega
      rw [farK_end] at HO
      have CS := hide (sortFr_any w.heap.size _ n _ wr HO.out (by omega))
      have hKn : K ≤ n := by omega
      have hKn' : (K : Int) ≤ n := by omega
      have hK0 : (0 : Int) ≤ K := by omega
      go_wp2_with (go_at_call 27; refine CS.out.mono ?_; rintro e w2 ⟨rfl, ho2, hg2⟩; have HR := hide (show RowF w2 w.heap.size w.heap.size n n (srtFr ((List.range n).map (farA l q))) from ho2); have HB2 := hide (below_own HB.out HO.out HB.out.size hg2); clear ho2 hg2)
      obtain ⟨S, hS⟩ : ∃ S, srtFr ((List.range n).map (farA l q)) = S := ⟨_, rfl⟩
      rw [hS] at HR
      have HSr := hide hS
      have HO0 := hide (World.ownsRow_nil (w := w2) w2.heap.size 3 1)
      have hgl := HR.out.lt
      clear HO CS hS
      go_loopw [10, 12, 42] (fun o _ i wr => ∃ (k : Nat) (C : Option Addr) (p : Nat), k ≤ K ∧ i = .int .i64 k ∧ o = .slice C k p ∧ k ≤ p ∧ p ≤ 9223372036854775807 ∧ Hid (wr.ownsRow w2.heap.size 3 1 (.slice C k p) k (fcs encI ((S.take k).map fun x => (x.2.val : Int)))) ∧ Hid (Below w2.heap.size w2 wr)) (fun _ _ i _ => K - (intOf i).toNat)
      case atStart => exact ⟨0, none, 0, by omega, rfl, rfl, by omega, by omega, hide (World.ownsRow_nil _ _ _ _), hide (Below.refl _ _)⟩
      case round =>
        obtain ⟨k, C, p, hk, rfl, rfl, e1, e2, HO, HBq⟩ := hrel
        clear HO0
        by_cases hlt : k < K
        · have g0 : (0 : Int) ≤ k := by omega
          have g1 : (k : Int) < K := by omega
          have HRq := hide (HR.out.below HBq.out hgl)
          obtain ⟨x, hx⟩ : ∃ x, S[k]? = some x := ⟨_, List.getElem?_eq_getElem (by have := HR.out.len; omega)⟩
          obtain ⟨p0, p1⟩ := HRq.out.cells hx
          have HSn := hide (show (S.take (k + 1)).map (fun x => (x.2.val : Int)) = (S.take k).map (fun x => (x.2.val : Int)) ++ [((x.2.val : Nat) : Int)] by rw [List.take_add_one, hx, List.map_append]; rfl)
          clear hx HRq
          go_upto_region 12 with fail
          have HOa := hide (HO.out.alloc (.cells #[.int .i64 (x.1.val : Nat), .int .i64 (x.2.val : Nat)] 47))
          have HBa := hide (Below.step HBq.out (below1 wr (.cells #[.int .i64 (x.1.val : Nat), .int .i64 (x.2.val : Nat)] 47)))
          have q0 : (wr.alloc (.cells #[.int .i64 (x.1.val : Nat), .int .i64 (x.2.val : Nat)] 47)).cell? ⟨wr.heap.size, 1, none⟩ = some (.int .i64 (x.2.val : Nat)) := (Blk.new wr 47 #[.int .i64 (x.1.val : Nat), .int .i64 (x.2.val : Nat)]).cell 1
          clear HO HBq p0 p1
          generalize World.alloc wr _ = W2 at *
          generalize wr.heap.size = gx at *
          go_wp2_with (at_builtin; refine wpList_append_elem rfl (.tmp 46) (.tmp 49) 32 rfl w2.heap.size Try.underlying32 info_intE rfl (by decide) (.slice C k p) k _ rfl HOa.out _ _ rfl rfl (by simp [Value.oneCell']) (by simp only [maxLen]; omega) (by omega) HBa.out.size ?_; intro v9 w9 hown9 hgr9 hat9; have HO9 := hide (show w9.ownsRow w2.heap.size 3 1 v9 (k + 1) (fcs encI ((S.take (k + 1)).map fun x => (x.2.val : Int))) by rw [HSn.out, fcsI_snoc']; exact hown9); have HB9 := hide (below_own HBa.out HOa.out HBa.out.size hgr9); obtain ⟨A8, c8, rfl, l1, l2⟩ := own_form hown9; clear hown9 hgr9 hat9)
          go_roundw
          case rel => exact ⟨k + 1, A8, c8, by omega, by go_num, rfl, l1, l2, HO9, HB9⟩
          case measure => simp [intOf]; omega
        · obtain rfl : K = k := by omega
          have HG := hide (show ∃ v, Ending.returned (.slice C K p) = .returned v ∧ NewL (Sh.int .i64) w ((S.take K).map fun x => (x.2.val : Int)) v wr from by
            have hl : ((S.take K).map fun x : Far => (x.2.val : Int)).length = K := by have := HO.out.1; rw [fcsI, List.length_map] at this; omega
            exact ⟨_, rfl, C, K, p, rfl, hl, e1, e2, (flatI.own HO.out).more fun d hd => ⟨Nat.le_trans HB2.out.size hd.1, hd.2⟩, Below.step HB2.out HBq.out⟩)
          rw [← HSr.out] at HG
          clear HO
          go_wp2
          go_ret
          exact HG.out
end Go.Proofs.Ytlnbeeflifmnjac
