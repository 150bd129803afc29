/-
  The package ring, and the document's: operations, Do. Conditions: the slices read as lists of words, of operations.
-/
import Derived.Test.YtoadcfjkommlkacRiD
import Derived.Test.YtoadcfjkommlkacFlat
namespace Go.Proofs.Ytoadcfjkommlkac
set_option linter.unusedSimpArgs false
set_option linter.unusedVariables false
open Go.RowKit

def encU (x : Int) : List Value := [.int .u64 x]
theorem flatU : Flat (Sh.int .u64) encU := flatInt .u64
theorem fcsU (l : List Int) : fcs encU l = l.map (Value.int .u64) := by
  unfold fcs encU
  induction l with
  | nil => rfl
  | cons x l ih => simp; exact ih
theorem fcsU_set (l : List Int) (k : Nat) (x : Int) : (fcs encU l).set k (.int .u64 x) = fcs encU (l.set k x) := by rw [fcsU, fcsU, List.map_set]
theorem info_u64 : (Try.prog.info? 39).map (fun i => (i.zero, i.size, i.bytes)) = some (some (.int .u64 0), 1, 8) := by kernel_rfl
theorem own_startU (w : World) (e : TypeId) (k : Nat) : (w.alloc (.cells #[] e)).ownsRow w.heap.size e k (.slice (some ⟨w.heap.size, 0, none⟩) 0 0) 0 [] :=
  ⟨by simp, .inr ⟨w.heap.size, 0, #[], rfl, Nat.le_refl _, heap_alloc_new _ _, Nat.le_refl _, Nat.zero_le _, by simp, by simp⟩⟩
set_option maxHeartbeats 1000000 in
theorem cloneU_any (A : Option Addr) (n c : Nat) (l : List Int) (w : World) (hx : Rd (Sh.int .u64) w w.heap.size A l) (hn : l.length = n) (h6 : n ≤ 1000000) :
    Calls Try.prog 31 #[.slice A n c] w fun e w' => ∃ v, e = .returned v ∧ w'.ownsRow w.heap.size 39 1 v n (fcs encU l) ∧ Below w.heap.size w w' := by
  have he := fun (W : World) (a : Option Addr) (n c : Nat) => Lib.run_eql_slice_nil W 22 39 a n c 0 0 Try.underlying22
  rcases A with _ | ad
  · have hl : l = [] := by
      rcases l with _ | ⟨x, l⟩
      · rfl
      · obtain ⟨_, h, _⟩ := hx (by simp)
        cases h
    subst hl
    obtain rfl : n = 0 := by simpa using hn.symm
    go_enter Try.func31, Try.ntmps31
    go_wp2
    go_ret
    exact ⟨_, rfl, ⟨rfl, .inl ⟨rfl, rfl⟩⟩, Below.refl _ _⟩
  · have HB := hide (below1 w (.cells #[] 39))
    have HR := hide (flatU.reads (fun _ h => h) (hx.at_world HB.out) hn)
    have HO := hide (own_startU w 39 1)
    obtain ⟨i1, hi1, hz1⟩ := Option.map_eq_some_iff.1 info_u64
    simp only [Prod.mk.injEq] at hz1
    have HI := hide hi1
    have HZ := hide hz1.1
    have HS := hide hz1.2.1
    have HY := hide hz1.2.2
    clear hx hn hi1 hz1
    go_enter Try.func31, Try.ntmps31
    go_wp2_with (at_builtin; refine wpList_append_any _ rfl _ _ 22 rfl w.heap.size 39 i1 _ 1 8 Try.underlying22 HI.out HZ.out HS.out HY.out rfl (by decide) _ 0 [] rfl HO.out _ (some ad) n c (fcs encU l) rfl HR.out (flatU.ones l) (by simp only [maxLen]; omega) (by omega) HB.out.size ?_; intro v' w9 hown9 hgr9 _; have HO9 := hide hown9; have HB9 := hide (below_own HB.out HO.out HB.out.size hgr9); clear hown9 hgr9)
    all_goals go_ret
    all_goals exact ⟨_, rfl, by have h := HO9.out; rwa [Nat.zero_add] at h, HB9.out⟩
/-- an operation: kind, A, B, N, M, id; a list, an item -/
abbrev OpV : Type := Int × Int × Int × Int × Int × Int × List Int × Int × List Int × Int
def SOp : Sh OpV := Sh.pair (Sh.int .i64) (Sh.pair (Sh.int .i64) (Sh.pair (Sh.int .i64) (Sh.pair (Sh.int .i64) (Sh.pair (Sh.int .i64) (Sh.pair (Sh.int .u64) (Sh.pair (Sh.list (Sh.int .i64)) (Sh.pair (Sh.int .u64) (Sh.pair (Sh.list (Sh.int .i32)) (Sh.int .u64)))))))))
theorem RdR.opcell {w : World} {R : Nat → Prop} {A : Option Addr} {l : List OpV} (h : RdR SOp w R A l) {k : Nat} (hk : k < l.length) : ∃ (ad : Addr) (o : OpV) (A1 A2 : Option Addr) (n1 c1 n2 c2 : Nat), A = some ad ∧ R ad.block ∧ l[k]? = some o ∧ (∀ j u, #[Value.int .i64 o.1, .int .i64 o.2.1, .int .i64 o.2.2.1, .int .i64 o.2.2.2.1, .int .i64 o.2.2.2.2.1, .int .u64 o.2.2.2.2.2.1, .slice A1 n1 c1, .int .u64 o.2.2.2.2.2.2.2.1, .slice A2 n2 c2, .int .u64 o.2.2.2.2.2.2.2.2.2][j]? = some u → w.cell? ((ad.add (k * 10)).add j) = some u) := by
  obtain ⟨ad, x, cs, e, hb, hx, hr, hc⟩ := h.at_ hk
  obtain ⟨d0, r, rfl, e0, hr⟩ := hr
  obtain ⟨d1, r, rfl, e1, hr⟩ := hr
  obtain ⟨d2, r, rfl, e2, hr⟩ := hr
  obtain ⟨d3, r, rfl, e3, hr⟩ := hr
  obtain ⟨d4, r, rfl, e4, hr⟩ := hr
  obtain ⟨d5, r, rfl, e5, hr⟩ := hr
  obtain ⟨d6, r, rfl, e6, hr⟩ := hr
  obtain ⟨d7, r, rfl, e7, hr⟩ := hr
  obtain ⟨d8, d9, rfl, e8, e9⟩ := hr
  obtain ⟨A1, c1, rfl, _⟩ := e6
  obtain ⟨A2, c2, rfl, _⟩ := e8
  have h0 : d0 = [.int .i64 x.1] := e0
  have h1 : d1 = [.int .i64 x.2.1] := e1
  have h2 : d2 = [.int .i64 x.2.2.1] := e2
  have h3 : d3 = [.int .i64 x.2.2.2.1] := e3
  have h4 : d4 = [.int .i64 x.2.2.2.2.1] := e4
  have h5 : d5 = [.int .u64 x.2.2.2.2.2.1] := e5
  have h7 : d7 = [.int .u64 x.2.2.2.2.2.2.2.1] := e7
  have h9 : d9 = [.int .u64 x.2.2.2.2.2.2.2.2.2] := e9
  subst h0 h1 h2 h3 h4 h5 h7 h9
  refine ⟨ad, x, A1, A2, x.2.2.2.2.2.2.1.length, c1, x.2.2.2.2.2.2.2.2.1.length, c2, e, hb, hx, fun j u hu => ?_⟩
  have := hc j u (by simpa using hu)
  rwa [show SOp.size = 10 from rfl, ← add_of_add] at this
/-- a word is set -/
def doStep (ws : List Int) (o : OpV) : List Int :=
  if o.1 = 12 ∧ (putW o.2.2.2.1 o.2.2.2.2.1).2 = 0 ∧ 0 ≤ o.2.1 ∧ o.2.1 < ws.length then ws.set o.2.1.toNat (putW o.2.2.2.1 o.2.2.2.2.1).1 else ws
def doW (ws : List Int) (l : List OpV) : List Int := l.foldl doStep ws
theorem doStep_len (ws : List Int) (o : OpV) : (doStep ws o).length = ws.length := by unfold doStep; split <;> simp
theorem doW_len (ws : List Int) (l : List OpV) : (doW ws l).length = ws.length := by
  unfold doW
  induction l generalizing ws with
  | nil => rfl
  | cons o l ih => rw [List.foldl_cons, ih, doStep_len]
theorem doW_succ {ws : List Int} {l : List OpV} {k : Nat} {o : OpV} (h : l[k]? = some o) : doW ws (l.take (k + 1)) = doStep (doW ws (l.take k)) o := by
  unfold doW
  rw [List.take_add_one, h, Option.toList_some, List.foldl_append]
  rfl
theorem putW_err (n p : Int) : (putW n p).2 = 0 ∨ (putW n p).2 = 6 := by unfold putW; split <;> simp
set_option maxHeartbeats 4000000 in
theorem do_any (A B : Option Addr) (n c m d : Nat) (ws : List Int) (l : List OpV) (w : World) (hx : Rd (Sh.int .u64) w w.heap.size A ws) (hn : ws.length = n) (h6 : n ≤ 1000000) (hl : Rd SOp w w.heap.size B l) (hm : l.length = m) (h7 : m ≤ 1000000) :
    Calls Try.prog 14 #[.slice A n c, .slice B m d] w fun e w' => ∃ v, e = .returned v ∧ w'.ownsRow w.heap.size 39 1 v n (fcs encU (doW ws l)) ∧ Below w.heap.size w w' := by
  have HL := hide hl
  have Hm := hide hm
  have Hn := hide hn
  have HC := hide (cloneU_any A n c ws w hx hn h6)
  go_enter Try.func14, Try.ntmps14
  go_wp2_with (go_at_call 31; refine HC.out.mono ?_; rintro e w1 ⟨v, rfl, ho, hb⟩; have HO := hide ho; have HB := hide hb; clear ho hb)
  clear hl hm hx hn
  go_loopw [14] (fun i wr => ∃ k : Nat, k ≤ m ∧ i = .int .i64 k ∧ Hid (wr.ownsRow w.heap.size 39 1 v n (fcs encU (doW ws (l.take k)))) ∧ Hid (Below w.heap.size w wr)) (fun i _ => m - (intOf i).toNat)
  case atStart => exact ⟨0, by omega, rfl, HO, HB⟩
  case round =>
    obtain ⟨k, hk, rfl, HOr, HBr⟩ := hrel
    clear HO HB
    obtain ⟨AV, cV, rfl, o1, o2⟩ := own_form HOr.out
    by_cases hlt : k < m
    · obtain ⟨ad, ⟨q0, q1, q2, q3, q4, q5, q6, q7, q8, q9⟩, A1, A2, n1, c1, n2, c2, rfl, hb, hs, hc⟩ := RdR.opcell (HL.out.below HBr.out (Nat.le_refl _)) (k := k) (by rw [Hm.out]; exact hlt)
      simp only at hc
      have e0 := hc 0 _ rfl
      have e1 := hc 1 _ rfl
      have e2 := hc 2 _ rfl
      have e3 := hc 3 _ rfl
      have e4 := hc 4 _ rfl
      have e5 := hc 5 _ rfl
      have e6 := hc 6 _ rfl
      have e7 := hc 7 _ rfl
      have e8 := hc 8 _ rfl
      have e9 := hc 9 _ rfl
      rw [add_zero'] at e0
      have hat : ∀ j, (ad.add (k * 10)).add (j + 1) = ⟨(ad.add (k * 10)).block, (ad.add (k * 10)).off + (j + 1), none⟩ := fun j => by
        rw [add_succ']; first | (simp; done) | (simp; omega)
      rw [hat] at e1 e2 e3 e4 e5 e6 e7 e8 e9
      have g0 : (0 : Int) ≤ k := by omega
      have g1 : (k : Int) < m := by omega
      have HT := hide (doW_succ (ws := ws) hs)
      have HLn := hide (show (doW ws (l.take k)).length = n by rw [doW_len]; exact Hn.out)
      clear hs hb hc hat
      generalize doW ws (l.take k) = cw at *
      go_upto_region 5 with fail
      have hb1 := below1 wr (.cells #[.int .i64 q0, .int .i64 q1, .int .i64 q2, .int .i64 q3, .int .i64 q4, .int .u64 q5, .slice A1 n1 c1, .int .u64 q7, .slice A2 n2 c2, .int .u64 q9] 44)
      have HN := hide (Blk.new wr 44 #[.int .i64 q0, .int .i64 q1, .int .i64 q2, .int .i64 q3, .int .i64 q4, .int .u64 q5, .slice A1 n1 c1, .int .u64 q7, .slice A2 n2 c2, .int .u64 q9])
      have HB2 := hide (Below.step HBr.out hb1)
      have HO2 := hide (own_keep (w' := wr.alloc (.cells #[.int .i64 q0, .int .i64 q1, .int .i64 q2, .int .i64 q3, .int .i64 q4, .int .u64 q5, .slice A1 n1 c1, .int .u64 q7, .slice A2 n2 c2, .int .u64 q9] 44)) HOr.out fun g hg => hb1.block g (HOr.out.lt g hg).2)
      clear hb1 e0 e1 e2 e3 e4 e5 e6 e7 e8 e9 HBr HOr
      generalize World.alloc wr _ = w3 at *
      generalize wr.heap.size = b at *
      have y0 : w3.cell? ⟨b, 0, none⟩ = some (.int .i64 q0) := by rw [HN.out.cell]; rfl
      have y1 : w3.cell? ⟨b, 1, none⟩ = some (.int .i64 q1) := by rw [HN.out.cell]; rfl
      have y3 : w3.cell? ⟨b, 3, none⟩ = some (.int .i64 q3) := by rw [HN.out.cell]; rfl
      have y4 : w3.cell? ⟨b, 4, none⟩ = some (.int .i64 q4) := by rw [HN.out.cell]; rfl
      have he := putW_err q3 q4
      have HP := hide (putRing_any q3 q4)
      unfold doStep at HT
      simp only at HT
      generalize (putW q3 q4).1 = pw at *
      generalize (putW q3 q4).2 = pe at *
      rw [HLn.out] at HT
      by_cases hgo : q0 = 12 ∧ pe = 0 ∧ 0 ≤ q1 ∧ q1 < n
      · obtain ⟨rfl, rfl, h0, h1⟩ := hgo
        obtain ⟨a, rfl⟩ : ∃ a : Nat, q1 = a := ⟨q1.toNat, by omega⟩
        have HT2 := hide (show doW ws (l.take (k + 1)) = cw.set a pw by rw [HT.out, if_pos ⟨rfl, rfl, h0, h1⟩, show ((a : Int)).toNat = a by omega])
        have ha : a < n := by omega
        obtain ⟨g, cap, hv, hg, hglt⟩ := HO2.out.form (by omega)
        injection hv with hv _ hcap
        subst hv hcap
        have ca := HO2.out.cellAt a (by omega)
        rw [fcsU, List.getElem?_map, List.getElem?_eq_getElem (show a < cw.length by rw [HLn.out]; exact ha)] at ca
        simp only [Option.map_some] at ca
        have fa := HO2.out.frozenAt a
        have d1 : decide ((0 : Int) ≤ a) = true := decide_eq_true h0
        have d2 : decide ((a : Int) < n) = true := decide_eq_true h1
        have d3 : decide (a < n) = true := decide_eq_true ha
        have hst := HO2.out.stored a (.int .u64 pw)
        have HO3 := hide hst.1
        have HB3 := hide (HB2.out.setCell (p := ⟨g, a, none⟩) hg (.int .u64 pw))
        rw [fcsU_set] at HO3
        clear hst he
        go_wp2_with (go_at_call 32; refine (HP.out _).mono ?_; rintro e _ ⟨rfl, rfl⟩)
        go_roundw
        case rel => exact ⟨k + 1, by omega, by go_num, hide (by rw [HT2.out]; exact HO3.out), HB3⟩
        case measure => simp [intOf]; omega
      · have HT2 := hide (show doW ws (l.take (k + 1)) = cw by rw [HT.out, if_neg hgo])
        by_cases c0 : q0 = 12
        · subst c0
          rcases he with rfl | rfl
          · by_cases c2 : 0 ≤ q1
            · have c3 : ¬ q1 < n := fun h => hgo ⟨rfl, rfl, c2, h⟩
              obtain ⟨a, rfl⟩ : ∃ a : Nat, q1 = a := ⟨q1.toNat, by omega⟩
              have d1 : decide ((0 : Int) ≤ a) = true := decide_eq_true c2
              have d2 : decide ((a : Int) < n) = false := decide_eq_false c3
              have d3 : decide (a < n) = false := decide_eq_false (by omega)
              clear hgo
              go_wp2_with (go_at_call 32; refine (HP.out _).mono ?_; rintro e _ ⟨rfl, rfl⟩)
              go_roundw
              case rel => exact ⟨k + 1, by omega, by go_num, hide (by rw [HT2.out]; exact HO2.out), HB2⟩
              case measure => simp [intOf]; omega
            · have d1 : decide (0 ≤ q1) = false := decide_eq_false c2
              clear hgo
              go_wp2_with (go_at_call 32; refine (HP.out _).mono ?_; rintro e _ ⟨rfl, rfl⟩)
              go_roundw
              case rel => exact ⟨k + 1, by omega, by go_num, hide (by rw [HT2.out]; exact HO2.out), HB2⟩
              case measure => simp [intOf]; omega
          · clear hgo
            go_wp2_with (go_at_call 32; refine (HP.out _).mono ?_; rintro e _ ⟨rfl, rfl⟩)
            go_roundw
            case rel => exact ⟨k + 1, by omega, by go_num, hide (by rw [HT2.out]; exact HO2.out), HB2⟩
            case measure => simp [intOf]; omega
        · have d0 : (q0 == 12) = false := by simpa using c0
          clear hgo
          go_wp2_with (go_at_call 32; refine (HP.out _).mono ?_; rintro e _ ⟨rfl, rfl⟩)
          go_roundw
          case rel => exact ⟨k + 1, by omega, by go_num, hide (by rw [HT2.out]; exact HO2.out), HB2⟩
          case measure => simp [intOf]; omega
    · obtain rfl : k = m := by omega
      rw [List.take_of_length_le (by rw [Hm.out]; omega)] at HOr
      go_wp2
      go_ret
      exact ⟨_, rfl, HOr.out, HBr.out⟩
set_option maxHeartbeats 4000000 in
theorem refDo_any (A B : Option Addr) (n c m d : Nat) (ws : List Int) (l : List OpV) (w : World) (hx : Rd (Sh.int .u64) w w.heap.size A ws) (hn : ws.length = n) (h6 : n ≤ 1000000) (hl : Rd SOp w w.heap.size B l) (hm : l.length = m) (h7 : m ≤ 1000000) :
    Calls Try.prog 15 #[.slice A n c, .slice B m d] w fun e w' => ∃ v, e = .returned v ∧ w'.ownsRow w.heap.size 39 1 v n (fcs encU (doW ws l)) ∧ Below w.heap.size w w' := by
  have HL := hide hl
  have Hm := hide hm
  have Hn := hide hn
  have HB0 := hide (below1 w (.cells #[] 39))
  have HR := hide (flatU.reads (fun _ h => h) (hx.at_world HB0.out) hn)
  have HO0 := hide (own_startU w 39 1)
  obtain ⟨i1, hi1, hz1⟩ := Option.map_eq_some_iff.1 info_u64
  simp only [Prod.mk.injEq] at hz1
  have HI := hide hi1
  have HZ := hide hz1.1
  have HS := hide hz1.2.1
  have HY := hide hz1.2.2
  clear hi1 hz1
  go_enter Try.func15, Try.ntmps15
  go_wp2_with (at_builtin; refine wpList_append_any _ rfl _ _ 22 rfl w.heap.size 39 i1 _ 1 8 Try.underlying22 HI.out HZ.out HS.out HY.out rfl (by decide) _ 0 [] rfl HO0.out _ A n c (fcs encU ws) rfl HR.out (flatU.ones ws) (by simp only [maxLen]; omega) (by omega) HB0.out.size ?_; intro v w9 hown9 hgr9 _; have HO := hide (show w9.ownsRow w.heap.size 39 1 v n (fcs encU ws) by have h := hown9; rwa [Nat.zero_add] at h); have HB := hide (below_own HB0.out HO0.out HB0.out.size hgr9); clear hown9 hgr9)
  clear hl hm hx hn
  go_loopw [15] (fun i wr => ∃ k : Nat, k ≤ m ∧ i = .int .i64 k ∧ Hid (wr.ownsRow w.heap.size 39 1 v n (fcs encU (doW ws (l.take k)))) ∧ Hid (Below w.heap.size w wr)) (fun i _ => m - (intOf i).toNat)
  case atStart => exact ⟨0, by omega, rfl, HO, HB⟩
  case round =>
    obtain ⟨k, hk, rfl, HOr, HBr⟩ := hrel
    clear HO HB
    obtain ⟨AV, cV, rfl, o1, o2⟩ := own_form HOr.out
    by_cases hlt : k < m
    · obtain ⟨ad, ⟨q0, q1, q2, q3, q4, q5, q6, q7, q8, q9⟩, A1, A2, n1, c1, n2, c2, rfl, hb, hs, hc⟩ := RdR.opcell (HL.out.below HBr.out (Nat.le_refl _)) (k := k) (by rw [Hm.out]; exact hlt)
      simp only at hc
      have e0 := hc 0 _ rfl
      have e1 := hc 1 _ rfl
      have e2 := hc 2 _ rfl
      have e3 := hc 3 _ rfl
      have e4 := hc 4 _ rfl
      have e5 := hc 5 _ rfl
      have e6 := hc 6 _ rfl
      have e7 := hc 7 _ rfl
      have e8 := hc 8 _ rfl
      have e9 := hc 9 _ rfl
      rw [add_zero'] at e0
      have hat : ∀ j, (ad.add (k * 10)).add (j + 1) = ⟨(ad.add (k * 10)).block, (ad.add (k * 10)).off + (j + 1), none⟩ := fun j => by
        rw [add_succ']; first | (simp; done) | (simp; omega)
      rw [hat] at e1 e2 e3 e4 e5 e6 e7 e8 e9
      have g0 : (0 : Int) ≤ k := by omega
      have g1 : (k : Int) < m := by omega
      have HT := hide (doW_succ (ws := ws) hs)
      have HLn := hide (show (doW ws (l.take k)).length = n by rw [doW_len]; exact Hn.out)
      clear hs hb hc hat
      generalize doW ws (l.take k) = cw at *
      go_upto_region 5 with fail
      have hb1 := below1 wr (.cells #[.int .i64 q0, .int .i64 q1, .int .i64 q2, .int .i64 q3, .int .i64 q4, .int .u64 q5, .slice A1 n1 c1, .int .u64 q7, .slice A2 n2 c2, .int .u64 q9] 44)
      have HN := hide (Blk.new wr 44 #[.int .i64 q0, .int .i64 q1, .int .i64 q2, .int .i64 q3, .int .i64 q4, .int .u64 q5, .slice A1 n1 c1, .int .u64 q7, .slice A2 n2 c2, .int .u64 q9])
      have HB2 := hide (Below.step HBr.out hb1)
      have HO2 := hide (own_keep (w' := wr.alloc (.cells #[.int .i64 q0, .int .i64 q1, .int .i64 q2, .int .i64 q3, .int .i64 q4, .int .u64 q5, .slice A1 n1 c1, .int .u64 q7, .slice A2 n2 c2, .int .u64 q9] 44)) HOr.out fun g hg => hb1.block g (HOr.out.lt g hg).2)
      clear hb1 e0 e1 e2 e3 e4 e5 e6 e7 e8 e9 HBr HOr
      generalize World.alloc wr _ = w3 at *
      generalize wr.heap.size = b at *
      have y0 : w3.cell? ⟨b, 0, none⟩ = some (.int .i64 q0) := by rw [HN.out.cell]; rfl
      have y1 : w3.cell? ⟨b, 1, none⟩ = some (.int .i64 q1) := by rw [HN.out.cell]; rfl
      have y3 : w3.cell? ⟨b, 3, none⟩ = some (.int .i64 q3) := by rw [HN.out.cell]; rfl
      have y4 : w3.cell? ⟨b, 4, none⟩ = some (.int .i64 q4) := by rw [HN.out.cell]; rfl
      have he := putW_err q3 q4
      have HP := hide (refPutRing_any q3 q4)
      unfold doStep at HT
      simp only at HT
      generalize (putW q3 q4).1 = pw at *
      generalize (putW q3 q4).2 = pe at *
      rw [HLn.out] at HT
      by_cases hgo : q0 = 12 ∧ pe = 0 ∧ 0 ≤ q1 ∧ q1 < n
      · obtain ⟨rfl, rfl, h0, h1⟩ := hgo
        obtain ⟨a, rfl⟩ : ∃ a : Nat, q1 = a := ⟨q1.toNat, by omega⟩
        have HT2 := hide (show doW ws (l.take (k + 1)) = cw.set a pw by rw [HT.out, if_pos ⟨rfl, rfl, h0, h1⟩, show ((a : Int)).toNat = a by omega])
        have ha : a < n := by omega
        obtain ⟨g, cap, hv, hg, hglt⟩ := HO2.out.form (by omega)
        injection hv with hv _ hcap
        subst hv hcap
        have ca := HO2.out.cellAt a (by omega)
        rw [fcsU, List.getElem?_map, List.getElem?_eq_getElem (show a < cw.length by rw [HLn.out]; exact ha)] at ca
        simp only [Option.map_some] at ca
        have fa := HO2.out.frozenAt a
        have d1 : decide ((0 : Int) ≤ a) = true := decide_eq_true h0
        have d2 : decide ((a : Int) < n) = true := decide_eq_true h1
        have d3 : decide (a < n) = true := decide_eq_true ha
        have hst := HO2.out.stored a (.int .u64 pw)
        have HO3 := hide hst.1
        have HB3 := hide (HB2.out.setCell (p := ⟨g, a, none⟩) hg (.int .u64 pw))
        rw [fcsU_set] at HO3
        clear hst he
        go_wp2_with (go_at_call 33; refine (HP.out _).mono ?_; rintro e _ ⟨rfl, rfl⟩)
        go_roundw
        case rel => exact ⟨k + 1, by omega, by go_num, hide (by rw [HT2.out]; exact HO3.out), HB3⟩
        case measure => simp [intOf]; omega
      · have HT2 := hide (show doW ws (l.take (k + 1)) = cw by rw [HT.out, if_neg hgo])
        by_cases c0 : q0 = 12
        · subst c0
          rcases he with rfl | rfl
          · by_cases c2 : 0 ≤ q1
            · have c3 : ¬ q1 < n := fun h => hgo ⟨rfl, rfl, c2, h⟩
              obtain ⟨a, rfl⟩ : ∃ a : Nat, q1 = a := ⟨q1.toNat, by omega⟩
              have d1 : decide ((0 : Int) ≤ a) = true := decide_eq_true c2
              have d2 : decide ((a : Int) < n) = false := decide_eq_false c3
              have d3 : decide (a < n) = false := decide_eq_false (by omega)
              clear hgo
              go_wp2_with (go_at_call 33; refine (HP.out _).mono ?_; rintro e _ ⟨rfl, rfl⟩)
              go_roundw
              case rel => exact ⟨k + 1, by omega, by go_num, hide (by rw [HT2.out]; exact HO2.out), HB2⟩
              case measure => simp [intOf]; omega
            · have d1 : decide (0 ≤ q1) = false := decide_eq_false c2
              clear hgo
              go_wp2_with (go_at_call 33; refine (HP.out _).mono ?_; rintro e _ ⟨rfl, rfl⟩)
              go_roundw
              case rel => exact ⟨k + 1, by omega, by go_num, hide (by rw [HT2.out]; exact HO2.out), HB2⟩
              case measure => simp [intOf]; omega
          · clear hgo
            go_wp2_with (go_at_call 33; refine (HP.out _).mono ?_; rintro e _ ⟨rfl, rfl⟩)
            go_roundw
            case rel => exact ⟨k + 1, by omega, by go_num, hide (by rw [HT2.out]; exact HO2.out), HB2⟩
            case measure => simp [intOf]; omega
        · have d0 : (q0 == 12) = false := by simpa using c0
          clear hgo
          go_wp2_with (go_at_call 33; refine (HP.out _).mono ?_; rintro e _ ⟨rfl, rfl⟩)
          go_roundw
          case rel => exact ⟨k + 1, by omega, by go_num, hide (by rw [HT2.out]; exact HO2.out), HB2⟩
          case measure => simp [intOf]; omega
    · obtain rfl : k = m := by omega
      rw [List.take_of_length_le (by rw [Hm.out]; omega)] at HOr
      go_wp2
      go_ret
      exact ⟨_, rfl, HOr.out, HBr.out⟩
end Go.Proofs.Ytoadcfjkommlkac
