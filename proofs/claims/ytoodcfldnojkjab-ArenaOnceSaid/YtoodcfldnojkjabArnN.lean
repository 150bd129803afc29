/-
  The document's arena (ganglionref21): New. No condition.
-/
import Derived.Test.YtoodcfldnojkjabArnV
namespace Go.Proofs.Ytoodcfldnojkjab
open Go.RowKit

/-- the free ones of a new arena, as far as they are listed -/
def downTo (n m : Nat) : List Int := (List.range m).map fun i => ((n - i : Nat) : Int)
theorem downTo_succ (n m : Nat) : downTo n (m + 1) = downTo n m ++ [((n - m : Nat) : Int)] := by simp [downTo, List.range_succ]
theorem downTo_len (n m : Nat) : (downTo n m).length = m := by simp [downTo]
def Arn.init (n : Nat) : Arn := ⟨List.replicate (n + 1) 0, List.replicate (n + 1) 0, downTo n n⟩

structure NewAt (w wr : World) (n q a b : Nat) (v : Value) (m : Nat) : Prop where
  q0 : Blk wr q 30 #[.slice (some ⟨a, 0, none⟩) (n + 1) (n + 1), .slice (some ⟨b, 0, none⟩) (n + 1) (n + 1), v]
  a0 : Blk wr a 3 (rep (n + 1) (.int .i64 0))
  b0 : Blk wr b 3 (rep (n + 1) (.int .i64 0))
  r0 : Blk wr w.heap.size 30 nil3
  own : wr.ownsRow w.heap.size 3 1 v m ((downTo n m).map (Value.int .i64))
  hb : Below w.heap.size w wr
  lq : w.heap.size < q
  la : w.heap.size < a
  lb : w.heap.size < b
  na : v.ownBlock ≠ some a
  nb : v.ownBlock ≠ some b
theorem own_nil (w : World) (base : Nat) (e : TypeId) : w.ownsRow base e 1 (.slice none 0 0) 0 [] := ⟨rfl, .inl ⟨rfl, rfl⟩⟩
theorem rep_ints {w : World} {a n : Nat} {t : TypeId} (h : Blk w a t (rep n (.int .i64 0))) {R : Nat → Prop} (hR : R a) : IntsR w R (some ⟨a, 0, none⟩) (List.replicate n 0) :=
  intsR_mk (ad := ⟨a, 0, none⟩) hR fun k x hx => by
    rw [add_mk, h.cell, Nat.zero_add]
    rw [List.getElem?_replicate] at hx
    split at hx
    · injection hx with hx; subst hx; exact rep_get _ _ _ (by omega)
    · cases hx

set_option maxHeartbeats 1000000 in
theorem refNew_no (n : Int) (w : World) (h : n < 1 ∨ 4096 < n) :
    Calls Try.prog 7 #[.int .i64 n] w fun e w' => e = .returned (.tuple #[.agg nil3, .int .i64 6]) ∧ Below w.heap.size w w' := by
  have hb := (Below.refl w.heap.size w).alloc (Nat.le_refl _) (.cells nil3 30)
  have HB := hide hb
  clear hb
  have h2 : n < 1 ∨ (1 ≤ n ∧ 4096 < n) := by omega
  clear h
  rcases h2 with h | ⟨h0, h⟩
  all_goals
    go_enter Try.func7, Try.ntmps7
    go_wp2
    refine bodyPost_ret (v := .tuple #[.agg nil3, .int .i64 6]) (by simp [results, Try.results7, go_sem, nil3]) rfl ?_
    exact ⟨rfl, HB.out⟩

set_option maxHeartbeats 4000000 in
theorem refNew_yes (n : Nat) (w : World) (h1 : 1 ≤ n) (h4 : n ≤ 4096) :
    Calls Try.prog 7 #[.int .i64 n] w fun e w' => ∃ v, e = .returned (.tuple #[v, .int .i64 0]) ∧ RefAt w' (fun b => w.heap.size ≤ b ∧ b < w'.heap.size) (Arn.init n) v ∧ Below w.heap.size w w' := by
  have hmk := fun W => run_make_rep (P := Try.prog) Try.underlying28 (e := 3) (z := .int .i64 0) (by_ := 8) (by kernel_rfl) rfl .i64 .i64 (n + 1) (n + 1) (Nat.le_refl _) (by omega) (by omega) W
  simp only [Int.natCast_add, Int.natCast_one] at hmk
  have hw1 : IntKind.i64.wrap ((n : Int) + 1) = (n : Int) + 1 := IntWalk.i64_in _ (by omega)
  go_enter Try.func7, Try.ntmps7
  go_upto_region 3 with fail
  go_cut [4] (fun s4 wx => ∃ q a b, s4 = .pointer (some ⟨q, 0, none⟩) ∧ NewAt w wx n q a b (.slice none 0 0) 0)
  case first =>
    go_region
    all_goals
      go_wp2_with fail
      go_meet
      case rel =>
        first
          | (with_reducible exact ⟨w.heap.size + 1, w.heap.size + 1 + 1, w.heap.size + 1 + 1 + 1, rfl, ⟨(blk4 w _ _ _ _ _ _ _ _).2.1, (blk4 w _ _ _ _ _ _ _ _).2.2.1, (blk4 w _ _ _ _ _ _ _ _).2.2.2.1, (blk4 w _ _ _ _ _ _ _ _).1, own_nil _ _ _, (blk4 w _ _ _ _ _ _ _ _).2.2.2.2, by omega, by omega, by omega, by simp [Value.ownBlock], by simp [Value.ownBlock]⟩⟩)
          | (with_reducible exact ⟨w.heap.size + 1, w.heap.size + 1 + 1 + 1, w.heap.size + 1 + 1, rfl, ⟨(blk4 w _ _ _ _ _ _ _ _).2.1, (blk4 w _ _ _ _ _ _ _ _).2.2.2.1, (blk4 w _ _ _ _ _ _ _ _).2.2.1, (blk4 w _ _ _ _ _ _ _ _).1, own_nil _ _ _, (blk4 w _ _ _ _ _ _ _ _).2.2.2.2, by omega, by omega, by omega, by simp [Value.ownBlock], by simp [Value.ownBlock]⟩⟩)
          | (with_reducible exact ⟨w.heap.size + 1 + 1, w.heap.size + 1, w.heap.size + 1 + 1 + 1, rfl, ⟨(blk4 w _ _ _ _ _ _ _ _).2.2.1, (blk4 w _ _ _ _ _ _ _ _).2.1, (blk4 w _ _ _ _ _ _ _ _).2.2.2.1, (blk4 w _ _ _ _ _ _ _ _).1, own_nil _ _ _, (blk4 w _ _ _ _ _ _ _ _).2.2.2.2, by omega, by omega, by omega, by simp [Value.ownBlock], by simp [Value.ownBlock]⟩⟩)
          | (with_reducible exact ⟨w.heap.size + 1 + 1, w.heap.size + 1 + 1 + 1, w.heap.size + 1, rfl, ⟨(blk4 w _ _ _ _ _ _ _ _).2.2.1, (blk4 w _ _ _ _ _ _ _ _).2.2.2.1, (blk4 w _ _ _ _ _ _ _ _).2.1, (blk4 w _ _ _ _ _ _ _ _).1, own_nil _ _ _, (blk4 w _ _ _ _ _ _ _ _).2.2.2.2, by omega, by omega, by omega, by simp [Value.ownBlock], by simp [Value.ownBlock]⟩⟩)
          | (with_reducible exact ⟨w.heap.size + 1 + 1 + 1, w.heap.size + 1, w.heap.size + 1 + 1, rfl, ⟨(blk4 w _ _ _ _ _ _ _ _).2.2.2.1, (blk4 w _ _ _ _ _ _ _ _).2.1, (blk4 w _ _ _ _ _ _ _ _).2.2.1, (blk4 w _ _ _ _ _ _ _ _).1, own_nil _ _ _, (blk4 w _ _ _ _ _ _ _ _).2.2.2.2, by omega, by omega, by omega, by simp [Value.ownBlock], by simp [Value.ownBlock]⟩⟩)
          | (with_reducible exact ⟨w.heap.size + 1 + 1 + 1, w.heap.size + 1 + 1, w.heap.size + 1, rfl, ⟨(blk4 w _ _ _ _ _ _ _ _).2.2.2.1, (blk4 w _ _ _ _ _ _ _ _).2.2.1, (blk4 w _ _ _ _ _ _ _ _).2.1, (blk4 w _ _ _ _ _ _ _ _).1, own_nil _ _ _, (blk4 w _ _ _ _ _ _ _ _).2.2.2.2, by omega, by omega, by omega, by simp [Value.ownBlock], by simp [Value.ownBlock]⟩⟩)
  case rest =>
    obtain ⟨q, a, b, rfl, hN⟩ := hcut
    have HN := hide hN
    clear hN hmk hw1
    go_wp2_with fail
    go_loopw [5] (fun i wr => ∃ m v, m ≤ n ∧ i = .int .i64 ((n - m : Nat) : Int) ∧ NewAt w wr n q a b v m) (fun i _ => (intOf i).toNat)
    case atStart => exact ⟨0, _, by omega, rfl, HN.out⟩
    case round =>
      obtain ⟨m, v, hm, rfl, hA⟩ := hrel
      by_cases hlt : m < n
      · obtain ⟨A, c, rfl, o1, o2⟩ := own_form hA.own
        have c2 : wr.cell? ⟨q, 2, none⟩ = some (.slice A m c) := by rw [hA.q0.cell]; rfl
        have i1 : (1 : Int) ≤ ((n - m : Nat) : Int) := by omega
        have i2 : ((n - m : Nat) : Int) ≤ 4096 := by omega
        have lq := hA.q0.lt
        have la := hA.a0.lt
        have lb := hA.b0.lt
        have lr := hA.r0.lt
        have HA := hide hA
        have HB := hide hA.hb.size
        have nq : (Value.slice A m c).ownBlock ≠ some q := own_blk_ne hA.own hA.q0 (by decide)
        have nr : (Value.slice A m c).ownBlock ≠ some w.heap.size := own_blk_ne hA.own hA.r0 (by decide)
        have nqr : q ≠ w.heap.size := by have := hA.lq; omega
        have nqa : q ≠ a := hA.q0.ne_ hA.a0 (by decide)
        have nqb : q ≠ b := hA.q0.ne_ hA.b0 (by decide)
        generalize hx : ((n - m : Nat) : Int) = x at *
        have HX := hide hx
        clear hA hx
        go_wp2_with (at_builtin; refine wpList_append_elem rfl (.tmp 26) (.tmp 28) 28 rfl w.heap.size Try.underlying28 info_int rfl (by decide) (.slice A m c) m _ rfl HA.out.own _ _ rfl rfl (by simp [Value.oneCell']) (by simp only [maxLen]; omega) (by omega) HB.out ?_; intro v8 w8 own8 gr8 hat8; obtain ⟨A8, c8, rfl, p1, p2⟩ := own_form own8; have q8 : Blk w8 q _ _ := (gr8.block q lq (fun e => nq e.symm)).trans HA.out.q0; have u2 : w8.cell? ⟨q, 2, none⟩ = some (.slice A m c) := (by rw [q8.cell]; rfl); have z2 := q8.frozen 2; have Q8 := hide q8; have GR := hide gr8; have O8 := hide own8; have AT := hide hat8; clear own8 gr8 hat8 q8)
        go_roundw
        case rel =>
          have y := HA.out
          have hx := HX.out
          have hb8 : Below w.heap.size w w8 := below_own y.hb y.own HB.out GR.out
          have ha8 : Blk w8 a _ _ := (GR.out.block a la (fun e => y.na e.symm)).trans y.a0
          have hb8' : Blk w8 b _ _ := (GR.out.block b lb (fun e => y.nb e.symm)).trans y.b0
          have hr8 : Blk w8 w.heap.size _ _ := (GR.out.block w.heap.size lr (fun e => nr e.symm)).trans y.r0
          have ne : ∀ d, d < wr.heap.size → (Value.slice A m c).ownBlock ≠ some d → (Value.slice A8 (m + 1) c8).ownBlock ≠ some d := fun d hd hn => by
            rcases AT.out with e | e <;> rw [e]
            · exact hn
            · intro e'; injection e' with e'; omega
          refine ⟨m + 1, .slice A8 (m + 1) c8, by omega, ?_, ⟨Q8.out.set_ 2 _, ha8.far (fun e => nqa e.symm) _, hb8'.far (fun e => nqb e.symm) _, hr8.far (fun e => nqr e.symm) _, ?_, hb8.setCell (by have := y.lq; simp; omega) _, y.lq, y.la, y.lb, ne a la y.na, ne b lb y.nb⟩⟩
          · rw [← hx]; congr 1; omega
          · rw [downTo_succ, List.map_append, hx]
            exact own_keep O8.out fun d hd => Below.heap_setCell _ _ _ _ (by rintro rfl; exact ne _ lq nq hd)
        case measure => first | (simp [intOf]; done) | (simp [intOf]; omega)
      · obtain rfl : m = n := by omega
        obtain ⟨A, c, rfl, o1, o2⟩ := own_form hA.own
        have c0 : wr.cell? ⟨q, 0, none⟩ = some (.slice (some ⟨a, 0, none⟩) (m + 1) (m + 1)) := by rw [hA.q0.cell]; rfl
        have c1 : wr.cell? ⟨q, 1, none⟩ = some (.slice (some ⟨b, 0, none⟩) (m + 1) (m + 1)) := by rw [hA.q0.cell]; rfl
        have c2 : wr.cell? ⟨q, 2, none⟩ = some (.slice A m c) := by rw [hA.q0.cell]; rfl
        have y0 : wr.cell? ⟨w.heap.size, 0, none⟩ = some (.slice none 0 0) := by rw [hA.r0.cell]; rfl
        have y1 : wr.cell? ⟨w.heap.size, 1, none⟩ = some (.slice none 0 0) := by rw [hA.r0.cell]; rfl
        have y2 : wr.cell? ⟨w.heap.size, 2, none⟩ = some (.slice none 0 0) := by rw [hA.r0.cell]; rfl
        have z0 := hA.r0.frozen 0
        have z1 := hA.r0.frozen 1
        have z2 := hA.r0.frozen 2
        have HA := hide hA
        rw [Nat.sub_self]
        clear hA
        go_wp2_with fail
        have hR1 := ((HA.out.r0.set_ 0 (.slice (some ⟨a, 0, none⟩) (m + 1) (m + 1))).set_ 1 (.slice (some ⟨b, 0, none⟩) (m + 1) (m + 1))).set_ 2 (.slice A m c)
        have q0 := hR1.cell 0
        have q1 := hR1.cell 1
        have q2 := hR1.cell 2
        simp [nil3] at q0 q1 q2
        refine bodyPost_ret (v := .tuple #[.agg #[.slice (some ⟨a, 0, none⟩) (m + 1) (m + 1), .slice (some ⟨b, 0, none⟩) (m + 1) (m + 1), .slice A m c], .int .i64 0]) (by simp [results, Try.results7, go_sem, q0, q1, q2]) rfl ?_
        have y := HA.out
        have far : ∀ (g : Nat) (t : TypeId) (cs : Array Value), w.heap.size < g → Blk wr g t cs → Blk (((wr.setCell ⟨w.heap.size, 0, none⟩ (.slice (some ⟨a, 0, none⟩) (m + 1) (m + 1))).setCell ⟨w.heap.size, 1, none⟩ (.slice (some ⟨b, 0, none⟩) (m + 1) (m + 1))).setCell ⟨w.heap.size, 2, none⟩ (.slice A m c)) g t cs :=
          fun g t cs hg h => ((h.far (by simp; omega) _).far (by simp; omega) _).far (by simp; omega) _
        have hbf := ((y.hb.setCell (p := ⟨w.heap.size, 0, none⟩) (by simp) (.slice (some ⟨a, 0, none⟩) (m + 1) (m + 1))).setCell (p := ⟨w.heap.size, 1, none⟩) (by simp) (.slice (some ⟨b, 0, none⟩) (m + 1) (m + 1))).setCell (p := ⟨w.heap.size, 2, none⟩) (by simp) (.slice A m c)
        have fa := far _ _ _ y.la y.a0
        have fb := far _ _ _ y.lb y.b0
        have fo := own_keep (w' := ((wr.setCell ⟨w.heap.size, 0, none⟩ (.slice (some ⟨a, 0, none⟩) (m + 1) (m + 1))).setCell ⟨w.heap.size, 1, none⟩ (.slice (some ⟨b, 0, none⟩) (m + 1) (m + 1))).setCell ⟨w.heap.size, 2, none⟩ (.slice A m c)) y.own fun d hd => by
          have hne : d ≠ w.heap.size := by rintro rfl; exact own_blk_ne y.own y.r0 (by decide) hd
          rw [Below.heap_setCell _ _ _ _ (by simpa using hne), Below.heap_setCell _ _ _ _ (by simpa using hne), Below.heap_setCell _ _ _ _ (by simpa using hne)]
        refine ⟨_, rfl, ⟨some ⟨a, 0, none⟩, m + 1, some ⟨b, 0, none⟩, m + 1, A, c, ?_, ⟨by simp [Arn.init], by omega, rep_ints fa ⟨Nat.le_of_lt y.la, fa.lt⟩⟩, ⟨by simp [Arn.init], by omega, rep_ints fb ⟨Nat.le_of_lt y.lb, fb.lt⟩⟩, ⟨by simp [Arn.init, downTo]; exact o1, o2, intsR_own fo⟩⟩, hbf⟩
        simp [Arn.init, downTo]
end Go.Proofs.Ytoodcfldnojkjab
