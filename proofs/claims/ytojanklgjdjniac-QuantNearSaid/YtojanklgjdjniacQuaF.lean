/-
  The package quant: the code of a vector. Conditions: the slices read as a book and a vector.
-/
import Derived.Test.YtojanklgjdjniacQuaE
namespace Go.Proofs.Ytojanklgjdjniac
open Go.RowKit

def minL : List Int → Int
  | [] => 0
  | x :: t => t.foldl min x
theorem minL_snoc {l : List Int} {k : Nat} {x : Int} (hk : 1 ≤ k) (h : l[k]? = some x) : minL (l.take (k + 1)) = min (minL (l.take k)) x := by
  rcases l with _ | ⟨y, l⟩
  · simp at h
  · obtain ⟨k, rfl⟩ : ∃ j, k = j + 1 := ⟨k - 1, by omega⟩
    have h' : l[k]? = some x := by simpa using h
    simp only [List.take_succ_cons, minL]
    rw [List.take_add_one, h', List.foldl_append]; rfl
theorem foldl_min_mem : ∀ (t : List Int) (x : Int), t.foldl min x = x ∨ t.foldl min x ∈ t
  | [], x => .inl rfl
  | y :: t, x => by
    simp only [List.foldl_cons, List.mem_cons]
    rcases foldl_min_mem t (min x y) with h | h
    · rcases Int.le_total x y with h' | h'
      · rw [h, Int.min_eq_left h']; exact .inl rfl
      · rw [h, Int.min_eq_right h']; exact .inr (.inl rfl)
    · exact .inr (.inr h)
theorem foldl_min_le : ∀ (t : List Int) (x : Int), t.foldl min x ≤ x ∧ ∀ y ∈ t, t.foldl min x ≤ y
  | [], x => ⟨Int.le_refl _, fun y h => by simp at h⟩
  | y :: t, x => by
    obtain ⟨h1, h2⟩ := foldl_min_le t (min x y)
    simp only [List.foldl_cons, List.mem_cons]
    refine ⟨by omega, fun z hz => ?_⟩
    rcases hz with rfl | hz
    · omega
    · exact h2 z hz
theorem minL_mem {l : List Int} (h : 1 ≤ l.length) : minL l ∈ l := by
  rcases l with _ | ⟨x, t⟩
  · simp at h
  · rcases foldl_min_mem t x with e | e
    · simp only [minL]; rw [e]; exact List.mem_cons_self
    · exact List.mem_cons_of_mem _ e
theorem minL_le {l : List Int} {x : Int} (h : x ∈ l) : minL l ≤ x := by
  rcases l with _ | ⟨y, t⟩
  · simp at h
  · rcases List.mem_cons.1 h with rfl | h
    · exact (foldl_min_le t x).1
    · exact (foldl_min_le t y).2 x h
/-- the first place of a value -/
def idxF (v : Int) : List Int → Nat
  | [] => 0
  | x :: t => if x = v then 0 else idxF v t + 1
theorem idxF_at {v : Int} : ∀ {l : List Int}, v ∈ l → l[idxF v l]? = some v
  | x :: t, h => by
    unfold idxF
    by_cases e : x = v
    · rw [if_pos e, e]; rfl
    · rw [if_neg e]
      rcases List.mem_cons.1 h with h | h
      · exact absurd h.symm e
      · simpa using idxF_at h
theorem idxF_before {v : Int} : ∀ {l : List Int} {j : Nat}, j < idxF v l → l[j]? ≠ some v
  | [], j, h => by simp [idxF] at h
  | x :: t, j, h => by
    unfold idxF at h
    by_cases e : x = v
    · rw [if_pos e] at h; omega
    · rw [if_neg e] at h
      rcases j with _ | j
      · simpa using e
      · simpa using idxF_before (l := t) (j := j) (by omega)
def bestI (l : List Int) : Nat := idxF (minL l) l
theorem bestI_at {l : List Int} (h : 1 ≤ l.length) : l[bestI l]? = some (minL l) := idxF_at (minL_mem h)

set_option maxHeartbeats 1000000 in
theorem min_any (A : Option Addr) (n c : Nat) (l : List Int) (w : World) (hx : Rd (Sh.int .u64) w w.heap.size A l) (hn : l.length = n) (hc : n ≤ c) (hm : c ≤ 9223372036854775807) (h1 : 1 ≤ n) :
    Calls Try.prog 27 #[.slice A n c] w fun e w' => e = .returned (.int .u64 (minL l)) ∧ w = w' := by
  have HX := hide hx
  have Hn := hide hn
  obtain ⟨ad, x, rfl, _, hv, q0⟩ := hx.icell (k := 0) (by omega)
  rw [add_zero'] at q0
  have HM1 := hide (show minL (l.take 1) = x by
    rcases l with _ | ⟨y, l⟩
    · simp at hv
    · simp at hv; subst hv; rfl)
  have k0 : (0 : Int) < n := by omega
  have k1 : ¬ (n : Int) < 1 := by omega
  clear hx hn hv
  go_enter Try.func27, Try.ntmps27
  go_wp2
  clear q0
  go_loopw [3, 4] (fun s i wr => ∃ k : Nat, 1 ≤ k ∧ k ≤ n ∧ i = .int .i64 k ∧ s = .int .u64 (minL (l.take k)) ∧ w = wr) (fun _ i _ => n - (intOf i).toNat)
  case atStart => exact ⟨1, by omega, by omega, rfl, by rw [HM1.out], by first | rfl | trivial⟩
  case round =>
    obtain ⟨k, hk1, hk, rfl, rfl, rfl⟩ := hrel
    by_cases hlt : k < n
    · obtain ⟨ad2, y, e, _, hv, q1⟩ := HX.out.icell (k := k) (by have := Hn.out; omega)
      injection e with e
      subst e
      have g0 : (0 : Int) ≤ k := by omega
      have g1 : (k : Int) < n := by omega
      have HSn := hide (minL_snoc hk1 hv)
      clear hv
      generalize hs : minL (l.take k) = s at *
      have HSE := hide hs
      clear hs
      go_wp2
      all_goals refine ⟨⟨k + 1, by omega, by omega, by go_num, ?_, by first | rfl | trivial⟩, ?_⟩
      all_goals first
        | (simp [intOf]; omega)
        | (rw [HSn.out]; exact congrArg (Value.int .u64) (by omega))
    · obtain rfl : k = n := by omega
      have HF := hide (show l.take k = l from List.take_of_length_le (by have := Hn.out; omega))
      rw [HF.out]
      go_wp2
      go_ret
      exact ⟨rfl, rfl⟩
set_option maxHeartbeats 1000000 in
theorem index_any (A : Option Addr) (n c : Nat) (l : List Int) (v : Int) (w : World) (hx : Rd (Sh.int .u64) w w.heap.size A l) (hn : l.length = n) (hc : n ≤ c) (hm : c ≤ 9223372036854775807) (hv : v ∈ l) :
    Calls Try.prog 26 #[.slice A n c, .int .u64 v] w fun e w' => e = .returned (.int .i64 (idxF v l : Nat)) ∧ w = w' := by
  have HX := hide hx
  have Hn := hide hn
  have HAt := hide (idxF_at hv)
  have HBf := hide (fun j (h : j < idxF v l) => idxF_before (v := v) (l := l) (j := j) h)
  have hin : idxF v l < n := by have := (List.getElem?_eq_some_iff.1 (idxF_at hv)).1; omega
  generalize idxF v l = r at *
  clear hx hn hv
  go_enter Try.func26, Try.ntmps26
  go_wp2
  go_loopw [5, 8] (fun _ i wr => ∃ k : Nat, k ≤ r ∧ i = .int .i64 k ∧ w = wr) (fun _ i _ => n - (intOf i).toNat)
  case atStart => exact ⟨0, by omega, rfl, by first | rfl | trivial⟩
  case round =>
    obtain ⟨k, hk, rfl, rfl⟩ := hrel
    obtain ⟨ad, x, rfl, _, hx1, q0⟩ := HX.out.icell (k := k) (by have := Hn.out; omega)
    have g0 : (0 : Int) ≤ k := by omega
    have g1 : (k : Int) < n := by omega
    by_cases hlt : k < r
    · have hne : (v == x) = false := by
        rw [beq_eq_false_iff_ne]; intro e; subst e; exact HBf.out k hlt hx1
      clear hx1
      go_wp2
      go_roundw
      case rel => exact ⟨k + 1, by omega, by go_num, by first | rfl | trivial⟩
      case measure => simp [intOf]; omega
    · obtain rfl : k = r := by omega
      have e : x = v := by have := HAt.out; rw [hx1] at this; injection this
      subst e
      clear hx1
      go_wp2
      go_ret
      exact ⟨rfl, rfl⟩
def encL (b : Book) (q : List Int) (i : Nat) : Int := (bestI (rowOf b q i) : Nat)
def encOf (b : Book) (q : List Int) : List Int := if fitE b q = 0 then (List.range b.length).map (encL b q) else []
def EncGives (w : World) (b : Book) (q : List Int) (e : Ending) (w' : World) : Prop :=
  ∃ A' n' c', e = .returned (.tuple #[.slice A' n' c', .int .i64 (fitE b q)]) ∧ (encOf b q).length = n' ∧ n' ≤ c' ∧ c' ≤ 9223372036854775807 ∧ RdR (Sh.int .i64) w' (Btw w.heap.size w'.heap.size) A' (encOf b q) ∧ Below w.heap.size w w'
theorem tblK_at {b : Book} {q : List Int} {n k : Nat} (h : k < n) : (tblK b q n)[k]? = some (rowOf b q k) := by simp [tblK, h]

set_option maxHeartbeats 4000000 in
theorem encode_any (A B : Option Addr) (nb cb m d : Nat) (b : Book) (q : List Int) (w : World) (hx : Rd SPart w w.heap.size A b) (hn : b.length = nb) (hc : nb ≤ cb) (hm : cb ≤ 9223372036854775807)
    (hy : I32s w w.heap.size B q) (hn' : q.length = m) (hd : m ≤ d) (hm' : d ≤ 9223372036854775807) :
    Calls Try.prog 13 #[.slice A nb cb, .slice B m d] w (EncGives w b q) := by
  have HT := hide (table_any A B nb cb m d b q w hx hn hc hm hy hn' hd hm')
  by_cases hf : fitE b q = 0
  · obtain ⟨hk, hv, hl⟩ := fit_yes hf
    have HTO := hide (show tableOf b q = tblK b q nb by unfold tableOf; rw [if_pos hf, hn])
    have HE := hide (show encOf b q = (List.range nb).map (encL b q) by unfold encOf; rw [if_pos hf, hn])
    have HF := hide hf
    obtain ⟨h64, hr, hs⟩ := chk_right hk
    have HRL := hide (show ∀ k, k < nb → 1 ≤ (rowOf b q k).length from fun k hk => by
      unfold rowOf; rw [distL_len]
      have h1 : b[k]? = some (b[k]'(by omega)) := List.getElem?_eq_getElem _
      rw [List.getD_eq_getElem?_getD, h1]
      obtain ⟨_, _, _, h⟩ := right_dim (hr _ (List.mem_of_getElem? h1))
      exact h)
    have h64' : nb ≤ 64 := by omega
    have hmk := fun W => run_make_rep (P := Try.prog) Try.underlying24 (e := 3) (z := .int .i64 0) (by_ := 8) (by kernel_rfl) rfl .i64 .i64 nb nb (Nat.le_refl _) (by omega) (by omega) W
    rw [ics_zero] at hmk
    clear hx hy hn hn' hk hv hl hr hs h64 hf
    go_enter Try.func13, Try.ntmps13
    go_upto_region 2 with (go_at_call 6; refine HT.out.mono ?_; rintro e w1 ⟨A1, n1, c1, rfl, hl1, hn1, hm1, hR, hb⟩; rw [HF.out]; have HL1 := hide hl1; have HR1 := hide (hR.rd (B := w1.heap.size) fun b hb => hb.2); have HB1 := hide hb; clear hl1 hR hb)
    rw [HTO.out] at HL1 HR1
    obtain rfl : nb = n1 := by have := HL1.out; rwa [tblK_len] at this
    go_upto_region 5 with fail
    have HG := hide (Blk.new w1 3 (ics .i64 (fun _ => 0) nb))
    have HB2 := hide (HB1.out.trans ((below1 w1 (.cells (ics .i64 (fun _ => 0) nb) 3)).mono HB1.out.size))
    have HR2 := hide (HR1.out.alloc (Nat.le_refl _) (.cells (ics .i64 (fun _ => 0) nb) 3))
    generalize w1.alloc (.cells (ics .i64 (fun _ => 0) nb) 3) = w2 at *
    have hgl := HG.out.lt
    have hws := HB1.out.size
    go_wp2
    go_loopw [9, 10, 25] (fun _ _ x wr => ∃ k : Nat, k ≤ nb ∧ x = .int .i64 k ∧ Hid (Blk wr w1.heap.size 3 (ics .i64 (stp (fun _ => 0) (encL b q) k) nb)) ∧ Hid (Below w1.heap.size w2 wr)) (fun _ _ x _ => nb - (intOf x).toNat)
    case atStart => exact ⟨0, by omega, rfl, hide (by rw [ics_stp0]; exact HG.out), hide (Below.refl _ _)⟩
    case round =>
      obtain ⟨k, hk, rfl, HGr, HBr⟩ := hrel
      by_cases hlt : k < nb
      · obtain ⟨ad, l, Al, cl, rfl, _, hv, q0, hl1, hl2, hrl⟩ := (Rd.below HR2.out HBr.out (Nat.le_refl _)).slc (k := k) (by rw [tblK_len]; exact hlt)
        have el : l = rowOf b q k := by rw [tblK_at hlt] at hv; injection hv with e; exact e.symm
        subst el
        have h1l := HRL.out k hlt
        have hsz := HBr.out.size
        have HMn := hide (min_any Al _ cl _ wr (hrl.more (by omega)) rfl hl1 hl2 h1l)
        have HIx := hide (index_any Al _ cl _ (minL (rowOf b q k)) wr (hrl.more (by omega)) rfl hl1 hl2 (minL_mem h1l))
        have g0 : (0 : Int) ≤ k := by omega
        have g1 : (k : Int) < nb := by omega
        have f5 := HGr.out.frozen k
        have z5 : wr.cell? ⟨w1.heap.size, k, none⟩ = some (.int .i64 0) := by rw [HGr.out.cell, ics_get _ _ _ _ hlt, stp_at]
        have HST := hide (ics_stp .i64 (fun _ => 0) (encL b q) nb k)
        clear hv hrl
        generalize hrw : (rowOf b q k).length = nr at *
        go_wp2_with (first
          | (go_at_call 27; refine HMn.out.mono ?_; rintro e w4 ⟨rfl, rfl⟩)
          | (go_at_call 26; refine HIx.out.mono ?_; rintro e w5 ⟨rfl, rfl⟩))
        go_roundw
        case rel => exact ⟨k + 1, by omega, by go_num, hide (by rw [← HST.out]; exact HGr.out.set_ k _), hide (HBr.out.setCell (Nat.le_refl _) _)⟩
        case measure => simp [intOf]; omega
      · obtain rfl : k = nb := by omega
        go_wp2
        go_ret2
        refine ⟨_, k, k, by rw [HF.out]; rfl, by rw [HE.out]; simp, Nat.le_refl _, by omega, ?_, HB2.out.trans (HBr.out.mono hws)⟩
        rw [HE.out]
        have hsz := HBr.out.size
        exact intR_blk (by have h := HGr.out; rwa [ics_stpm] at h) ⟨by omega, by omega⟩ rfl
  · have HE := hide (show encOf b q = [] by unfold encOf; rw [if_neg hf])
    have hb0 : (fitE b q != 0) = true := bne_iff_ne.2 hf
    clear hx hy hn hn' hf
    go_enter Try.func13, Try.ntmps13
    go_wp2_with (go_at_call 6; refine HT.out.mono ?_; rintro e w1 ⟨A1, n1, c1, rfl, hl1, hn1, hm1, hR, hb⟩; have HB1 := hide hb; clear hl1 hR hb)
    go_ret2
    exact ⟨none, 0, 0, rfl, by rw [HE.out]; rfl, Nat.le_refl _, by omega, by rw [HE.out]; exact RdR.nil, HB1.out⟩
end Go.Proofs.Ytojanklgjdjniac
