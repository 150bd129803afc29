/-
  Answers that came in; whether they are few and short; Next of no task. Conditions: the slice reads as a list of answers.
-/
import Derived.Test.YtojanklgjdjniabErH
import Derived.Test.YtojanklgjdjniabOpen
namespace Go.Proofs.Ytojanklgjdjniab
open Go.RowKit

structure GotR where
  ok : Bool
  n : Int
  m : Int
  LA : Option Addr
  ln : Nat
  lc : Nat
  id : Int
  VA : Option Addr
  vn : Nat
  vc : Nat
  tg : Int
def g7 (x : GotR) : List Value := [.bool x.ok, .int .i64 x.n, .int .i64 x.m, .slice x.LA x.ln x.lc, .int .u64 x.id, .slice x.VA x.vn x.vc, .int .u64 x.tg]
def SG : Sh GotR := ⟨7, fun _ _ x cs => cs = g7 x, fun h => by rw [h]; rfl, fun h _ => h, fun h _ => h⟩
def gcs (l : List GotR) : List Value := l.flatMap g7
theorem flat_len {α : Type} (f : α → List Value) (m : Nat) (hf : ∀ x, (f x).length = m) (l : List α) : (l.flatMap f).length = l.length * m := by
  induction l with
  | nil => simp
  | cons y l ih => rw [List.flatMap_cons, List.length_append, ih, hf, List.length_cons, Nat.succ_mul, Nat.add_comm]
theorem flat_at {α : Type} (f : α → List Value) (m : Nat) (hf : ∀ x, (f x).length = m) {l : List α} {k : Nat} {x : α} (h : l[k]? = some x) {j : Nat} (hj : j < m) : (l.flatMap f)[k * m + j]? = (f x)[j]? := by
  induction l generalizing k with
  | nil => simp at h
  | cons y l ih =>
    rw [List.flatMap_cons]
    rcases k with _ | k
    · simp at h; subst h
      rw [Nat.zero_mul, Nat.zero_add, List.getElem?_append_left (by rw [hf]; exact hj)]
    · rw [List.getElem?_append_right (by rw [hf, Nat.succ_mul]; omega), hf, show (k + 1) * m + j - m = k * m + j by rw [Nat.succ_mul]; omega]
      exact ih (by simpa using h)
theorem gcs_len (l : List GotR) : (gcs l).length = l.length * 7 := flat_len g7 7 (fun _ => rfl) l
theorem gcs_one (l : List GotR) : ∀ u ∈ gcs l, u.oneCell' = true := by
  intro u hu
  obtain ⟨x, _, hx⟩ := List.mem_flatMap.1 hu
  simp only [g7, List.mem_cons, List.not_mem_nil, or_false] at hx
  rcases hx with rfl | rfl | rfl | rfl | rfl | rfl | rfl <;> rfl
theorem gotsR_mk {w : World} {R : Nat → Prop} {ad : Addr} {l : List GotR} (hR : R ad.block) (h : ∀ (j : Nat) (u : Value), (gcs l)[j]? = some u → w.cell? (ad.add j) = some u) : RdR SG w R (some ad) l := fun _ =>
  ⟨ad, rfl, hR, fun k x hx => ⟨g7 x, rfl, fun j u hu => by
    have hj : j < 7 := (List.getElem?_eq_some_iff.1 hu).1
    exact h _ _ ((flat_at g7 7 (fun _ => rfl) hx hj).trans hu)⟩⟩
theorem gots_reads {w : World} {B m : Nat} {A : Option Addr} {l : List GotR} (h : Rd SG w B A l) (hn : l.length = m) : Reads w B 7 A m (gcs l) := ⟨by rw [gcs_len, hn], fun h0 => by
  have hne : l ≠ [] := fun e => by rw [e] at hn; simp at hn; omega
  obtain ⟨ad, hA, hR, hc⟩ := h hne
  refine ⟨ad, hA, hR, fun j u hu => ?_⟩
  have hj : j < l.length * 7 := by
    have := (List.getElem?_eq_some_iff.1 hu).1
    rwa [gcs_len] at this
  have hx : l[j / 7]? = some (l[j / 7]'(by omega)) := List.getElem?_eq_getElem _
  obtain ⟨cs, e, h2⟩ := hc _ _ hx
  have e' : cs = g7 _ := e
  subst e'
  have h3 := h2 (j % 7) u (by rw [← hu, ← flat_at g7 7 (fun _ => rfl) hx (Nat.mod_lt _ (by decide)), show j / 7 * 7 + j % 7 = j by omega]; rfl)
  rwa [show j / 7 * SG.size + j % 7 = j by rw [show SG.size = 7 from rfl]; omega] at h3⟩
theorem RdR.gcell {w : World} {R : Nat → Prop} {A : Option Addr} {l : List GotR} (h : RdR SG w R A l) {k : Nat} (hk : k < l.length) : ∃ ad x, A = some ad ∧ R ad.block ∧ l[k]? = some x ∧ w.cell? (ad.add (k * 7)) = some (.bool x.ok) ∧
    w.cell? ⟨(ad.add (k * 7)).block, (ad.add (k * 7)).off + 1, none⟩ = some (.int .i64 x.n) ∧ w.cell? ⟨(ad.add (k * 7)).block, (ad.add (k * 7)).off + 2, none⟩ = some (.int .i64 x.m) ∧ w.cell? ⟨(ad.add (k * 7)).block, (ad.add (k * 7)).off + 3, none⟩ = some (.slice x.LA x.ln x.lc) ∧
    w.cell? ⟨(ad.add (k * 7)).block, (ad.add (k * 7)).off + 4, none⟩ = some (.int .u64 x.id) ∧ w.cell? ⟨(ad.add (k * 7)).block, (ad.add (k * 7)).off + 5, none⟩ = some (.slice x.VA x.vn x.vc) ∧ w.cell? ⟨(ad.add (k * 7)).block, (ad.add (k * 7)).off + 6, none⟩ = some (.int .u64 x.tg) := by
  obtain ⟨ad, x, cs, e, hb, hx, hr, hc⟩ := h.at_ hk
  have hr' : cs = g7 x := hr
  subst hr'
  have f : ∀ (j : Nat) (u : Value), (g7 x)[j]? = some u → w.cell? ((ad.add (k * 7)).add j) = some u := fun j u hu => by
    rw [add_of_add]; exact hc j u hu
  refine ⟨ad, x, e, hb, hx, ?_, f 1 _ rfl, f 2 _ rfl, f 3 _ rfl, f 4 _ rfl, f 5 _ rfl, f 6 _ rfl⟩
  have h0 := f 0 _ rfl
  rwa [add_zero'] at h0

set_option maxHeartbeats 4000000 in
theorem small_any (k id : Int) (A : Option Addr) (n c : Nat) (tg kk ef dr : Int) (AL : Option Addr) (nl cl : Nat) (l : List GotR) (w : World) (hx : Rd SG w w.heap.size AL l) (hn : l.length = nl) (hc : nl ≤ cl) (hm : cl ≤ 9223372036854775807) :
    Calls Try.prog 4 #[.agg (callC k id A n c tg kk ef dr), .slice AL nl cl] w fun e w' => (∃ r : Int, e = .returned (.int .i64 r) ∧ (r = 0 ∨ r = 1 ∧ nl ≤ 400 ∧ n ≤ 50)) ∧ Below w.heap.size w w' := by
  have HX := hide hx
  have Hn := hide hn
  have HN := hide (Blk.new w 27 #[.int .i64 k, .int .u64 id, .slice A n c, .int .u64 tg, .int .i64 kk, .int .i64 ef, .int .u64 dr])
  have HB := hide (below1 w (.cells #[.int .i64 k, .int .u64 id, .slice A n c, .int .u64 tg, .int .i64 kk, .int .i64 ef, .int .u64 dr] 27))
  clear hx hn
  unfold callC
  by_cases h4 : 400 < (nl : Int)
  · go_enter Try.func4, Try.ntmps4
    go_wp2
    go_ret
    exact ⟨⟨0, rfl, .inl rfl⟩, HB.out⟩
  by_cases h5 : 50 < (n : Int)
  · go_enter Try.func4, Try.ntmps4
    go_upto_region 1 with fail
    generalize w.alloc (.cells #[.int .i64 k, .int .u64 id, .slice A n c, .int .u64 tg, .int .i64 kk, .int .i64 ef, .int .u64 dr] 27) = w1 at *
    have z2 : w1.cell? ⟨w.heap.size, 2, none⟩ = some (.slice A n c) := HN.out.cell 2
    go_wp2
    go_ret
    exact ⟨⟨0, rfl, .inl rfl⟩, HB.out⟩
  go_enter Try.func4, Try.ntmps4
  go_upto_region 1 with fail
  generalize w.alloc (.cells #[.int .i64 k, .int .u64 id, .slice A n c, .int .u64 tg, .int .i64 kk, .int .i64 ef, .int .u64 dr] 27) = w1 at *
  have z2 : w1.cell? ⟨w.heap.size, 2, none⟩ = some (.slice A n c) := HN.out.cell 2
  go_wp2
  go_loopw [6, 19] (fun _ i wr => ∃ j : Nat, j ≤ nl ∧ i = .int .i64 j ∧ Hid (Below w.heap.size w wr)) (fun _ i _ => nl - (intOf i).toNat)
  case atStart => exact ⟨0, by omega, rfl, HB⟩
  case round =>
    obtain ⟨j, hj, rfl, HBl⟩ := hrel
    by_cases hlt : j < nl
    · obtain ⟨ad, x, rfl, _, hv, q0, q1, q2, q3, q4, q5, q6⟩ := (Rd.below HX.out HBl.out (Nat.le_refl _)).gcell (k := j) (by have := Hn.out; omega)
      have g0 : (0 : Int) ≤ j := by omega
      have g1 : (j : Int) < nl := by omega
      obtain ⟨ok, gn, gm, LA, ln, lc, gi, VA, vn, vc, gt⟩ := x
      simp only at q0 q1 q2 q3 q4 q5 q6
      have HB1 := hide (HBl.out.trans ((below1 wr (.cells #[.bool ok, .int .i64 gn, .int .i64 gm, .slice LA ln lc, .int .u64 gi, .slice VA vn vc, .int .u64 gt] 42)).mono HBl.out.size))
      have HN1 := hide (Blk.new wr 42 #[.bool ok, .int .i64 gn, .int .i64 gm, .slice LA ln lc, .int .u64 gi, .slice VA vn vc, .int .u64 gt])
      clear hv
      go_upto_region 6 with fail
      generalize wr.alloc (.cells #[.bool ok, .int .i64 gn, .int .i64 gm, .slice LA ln lc, .int .u64 gi, .slice VA vn vc, .int .u64 gt] 42) = w2 at *
      have y3 : w2.cell? ⟨wr.heap.size, 3, none⟩ = some (.slice LA ln lc) := HN1.out.cell 3
      have y5 : w2.cell? ⟨wr.heap.size, 5, none⟩ = some (.slice VA vn vc) := HN1.out.cell 5
      clear q0 q1 q2 q3 q4 q5 q6
      by_cases h6 : 60 < (ln : Int)
      · go_wp2
        go_ret
        exact ⟨⟨0, rfl, .inl rfl⟩, HB1.out⟩
      by_cases h7 : 50 < (vn : Int)
      · go_wp2
        go_ret
        exact ⟨⟨0, rfl, .inl rfl⟩, HB1.out⟩
      go_wp2
      go_roundw
      case rel => exact ⟨j + 1, by omega, by go_num, HB1⟩
      case measure => simp [intOf]; omega
    · obtain rfl : j = nl := by omega
      go_wp2
      go_ret
      exact ⟨⟨1, rfl, .inr ⟨rfl, by omega, by omega⟩⟩, HBl.out⟩
set_option maxHeartbeats 1000000 in
theorem nextNil (ok : Bool) (gn gm : Int) (LA : Option Addr) (ln lc : Nat) (gi : Int) (VA : Option Addr) (vn vc : Nat) (gt : Int) (w : World) : Calls Try.prog 9 #[.pointer none, .agg (gotC ok gn gm LA ln lc gi VA vn vc gt)] w fun e w' => e = .returned (.tuple #[.agg (opC 0 0 0), .bool false]) ∧ Below w.heap.size w w' := by
  have HO1 := hide (Blk.new_at (w := w.alloc (.cells #[.bool ok, .int .i64 gn, .int .i64 gm, .slice LA ln lc, .int .u64 gi, .slice VA vn vc, .int .u64 gt] 42)) (g := w.heap.size + 1) (by simp) 44 #[.int .i64 0, .int .i64 0, .int .i64 0, .int .i64 0, .int .i64 0, .int .u64 0, .slice none 0 0, .int .u64 0, .slice none 0 0, .int .u64 0])
  have HB1 := hide (below2 w (.cells #[.bool ok, .int .i64 gn, .int .i64 gm, .slice LA ln lc, .int .u64 gi, .slice VA vn vc, .int .u64 gt] 42) (.cells #[.int .i64 0, .int .i64 0, .int .i64 0, .int .i64 0, .int .i64 0, .int .u64 0, .slice none 0 0, .int .u64 0, .slice none 0 0, .int .u64 0] 44))
  unfold gotC
  go_enter Try.func9, Try.ntmps9
  go_upto_region 1 with fail
  generalize (w.alloc (.cells #[.bool ok, .int .i64 gn, .int .i64 gm, .slice LA ln lc, .int .u64 gi, .slice VA vn vc, .int .u64 gt] 42)).alloc (.cells #[.int .i64 0, .int .i64 0, .int .i64 0, .int .i64 0, .int .i64 0, .int .u64 0, .slice none 0 0, .int .u64 0, .slice none 0 0, .int .u64 0] 44) = w1 at *
  go_wp2_with (refine wpList_store_row rfl 44 (.tmp 4) (.tmp 12) rfl (w.heap.size + 1) rfl 44 _ (opC 0 0 0) rfl HO1.out infoOp rfl (opC_one ..) ?_)
  refine bodyPost_ret (op_cell rfl _ _ (w.heap.size + 1) (opC 0 0 0) rfl rfl (HO1.out.setRow _)) rfl ⟨rfl, below_setRow HB1.out (by omega) _⟩
end Go.Proofs.Ytojanklgjdjniab
