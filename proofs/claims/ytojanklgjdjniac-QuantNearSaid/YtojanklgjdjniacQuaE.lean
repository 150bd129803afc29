/-
  The package quant: the table of a vector. Conditions: the slices read as a book and a vector.
-/
import Derived.Test.YtojanklgjdjniacQuaD
namespace Go.Proofs.Ytojanklgjdjniac
open Go.RowKit

def tableOf (b : Book) (q : List Int) : List (List Int) := if fitE b q = 0 then tblK b q b.length else []
theorem fit_yes {b : Book} {v : List Int} (h : fitE b v = 0) : chkB b = true ∧ vecOk v (dimOf b) = true ∧ v.length = sumK b b.length := by
  unfold fitE at h
  cases hk : chkB b with
  | false => rw [hk] at h; simp at h
  | true =>
    rw [hk, if_pos rfl] at h
    cases hv : vecOk v (dimOf b) with
    | false => rw [hv] at h; simp [errOf] at h
    | true =>
      refine ⟨rfl, rfl, ?_⟩
      have h1 := vecOk_len hv
      unfold dimOf at h1
      rw [hk, if_pos rfl] at h1
      omega
theorem vecOk_I32 {v : List Int} {d : Int} (h : vecOk v d = true) : I32 v := by
  intro x hx
  unfold vecOk at h
  rw [Bool.and_eq_true, List.all_eq_true] at h
  have := of_decide_eq_true (h.2 x hx)
  omega
theorem rowsV_nil (n : Nat) : (rowsV [] n).toArray = rep n (.slice none 0 0) := by simp [rowsV, rep]
def TabGives (w : World) (b : Book) (q : List Int) (e : Ending) (w' : World) : Prop :=
  ∃ A' n' c', e = .returned (.tuple #[.slice A' n' c', .int .i64 (fitE b q)]) ∧ (tableOf b q).length = n' ∧ n' ≤ c' ∧ c' ≤ 9223372036854775807 ∧ RdR (Sh.list (Sh.int .u64)) w' (Btw w.heap.size w'.heap.size) A' (tableOf b q) ∧ Below w.heap.size w w'

set_option maxHeartbeats 4000000 in
theorem table_any (A B : Option Addr) (nb cb m d : Nat) (b : Book) (q : List Int) (w : World) (hx : Rd SPart w w.heap.size A b) (hn : b.length = nb) (hc : nb ≤ cb) (hm : cb ≤ 9223372036854775807)
    (hy : I32s w w.heap.size B q) (hn' : q.length = m) (hd : m ≤ d) (hm' : d ≤ 9223372036854775807) :
    Calls Try.prog 6 #[.slice A nb cb, .slice B m d] w (TabGives w b q) := by
  have HX := hide hx
  have HY := hide hy
  have Hn := hide hn
  have Hm := hide hn'
  have H2 := hide (Blk.new w 22 #[.slice A nb cb])
  have HB1 := hide (below1 w (.cells #[.slice A nb cb] 22))
  have HF := hide (fits_any A B nb cb m d b q (w.alloc (.cells #[.slice A nb cb] 22)) (Rd.at_world hx HB1.out) hn hc hm (Rd.at_world hy HB1.out) hn' hd hm')
  have HS1 := hide (show (w.alloc (.cells #[.slice A nb cb] 22)).heap.size = w.heap.size + 1 by simp)
  clear hx hy
  by_cases hf : fitE b q = 0
  · obtain ⟨hk, hv, hl⟩ := fit_yes hf
    have HT := hide (show tableOf b q = tblK b q nb by unfold tableOf; rw [if_pos hf, hn])
    have HFE := hide hf
    have HK := hide hk
    have HVI := hide (vecOk_I32 hv)
    have HSQ := hide (show m = sumK b nb by rw [← hn, ← hn']; exact hl)
    have h64 : nb ≤ 64 := by have := (chk_right hk).1; omega
    rw [hf] at HF
    have hmk := fun W => run_make_rep (P := Try.prog) Try.underlying27 (e := 45) (z := .slice none 0 0) (by_ := 24) (by kernel_rfl) rfl .i64 .i64 nb nb (Nat.le_refl _) (by omega) (by omega) W
    clear hf hk hv hl hn hn'
    go_enter Try.func6, Try.ntmps6
    go_upto_region 1 with fail
    generalize w.alloc (.cells #[.slice A nb cb] 22) = w1 at *
    have z2 : w1.cell? ⟨w.heap.size, 0, none⟩ = some (.slice A nb cb) := H2.out.cell 0
    go_upto_region 4 with (go_at_call 18; refine HF.out.mono ?_; rintro e w2 ⟨rfl, hb⟩; have HB2 := hide (HB1.out.trans (hb.mono HB1.out.size)); have H22 := hide (H2.out.below hb H2.out.lt); have hs2 := hb.size; clear hb z2)
    have z2 : w2.cell? ⟨w.heap.size, 0, none⟩ = some (.slice A nb cb) := H22.out.cell 0
    have l2 : w.heap.size < w2.heap.size := H22.out.lt
    go_upto_region 5 with fail
    have HGO := hide (show Blk ((w2.alloc (.cells (rep nb (.slice none 0 0)) 45)).alloc (.cells #[.slice (some ⟨w2.heap.size, 0, none⟩) nb nb] 27)) w2.heap.size 45 (rowsV [] nb).toArray by rw [rowsV_nil]; exact (Blk.new w2 _ _).alloc _)
    have H3 := hide (Blk.new_at (w := w2.alloc (.cells (rep nb (.slice none 0 0)) 45)) (g := w2.heap.size + 1) (by simp) 27 #[.slice (some ⟨w2.heap.size, 0, none⟩) nb nb])
    have H23 := hide ((H22.out.alloc (.cells (rep nb (.slice none 0 0)) 45)).alloc (.cells #[.slice (some ⟨w2.heap.size, 0, none⟩) nb nb] 27))
    have HB3 := hide (HB2.out.trans ((below2 w2 (.cells (rep nb (.slice none 0 0)) 45) (.cells #[.slice (some ⟨w2.heap.size, 0, none⟩) nb nb] 27)).mono HB2.out.size))
    have HS3 := hide (show ((w2.alloc (.cells (rep nb (.slice none 0 0)) 45)).alloc (.cells #[.slice (some ⟨w2.heap.size, 0, none⟩) nb nb] 27)).heap.size = w2.heap.size + 1 + 1 by simp)
    generalize (w2.alloc (.cells (rep nb (.slice none 0 0)) 45)).alloc (.cells #[.slice (some ⟨w2.heap.size, 0, none⟩) nb nb] 27) = w3 at *
    have hws := HB2.out.size
    clear z2
    have z2 : w3.cell? ⟨w.heap.size, 0, none⟩ = some (.slice A nb cb) := H23.out.cell 0
    have HE := hide (each_any w.heap.size (w2.heap.size + 1) w2.heap.size A nb cb B m d b q w3 H23.out (RdR.more (Rd.below HX.out HB3.out (Nat.le_refl _)) fun j hj => ⟨Nat.lt_of_lt_of_le hj HB3.out.size, by have : j < w.heap.size := hj; omega⟩) Hn.out hc hm HK.out
      (RdR.more (Rd.below HY.out HB3.out (Nat.le_refl _)) fun j hj => ⟨Nat.lt_of_lt_of_le hj HB3.out.size, by have : j < w.heap.size := hj; omega⟩) Hm.out HSQ.out hd hm' HVI.out H3.out HGO.out (by omega) (by omega))
    go_upto_region 6 with (go_at_call 19; refine HE.out.mono ?_; rintro e w4 ⟨rfl, hs, hG, hH, hb⟩; have HG4 := hide hG; have HH4 := hide hH; have HB4 := hide hb; clear hG hH hb z2)
    have H34 := hide ((HB4.out.block (w2.heap.size + 1) H3.out.lt (by simp)).trans H3.out)
    have z3 : w4.cell? ⟨w2.heap.size + 1, 0, none⟩ = some (.slice (some ⟨w2.heap.size, 0, none⟩) nb nb) := Blk.cell (t := 27) (cs := #[.slice (some ⟨w2.heap.size, 0, none⟩) nb nb]) H34.out 0
    go_wp2
    go_ret2
    refine ⟨_, nb, nb, by rw [HFE.out]; rfl, by rw [HT.out, tblK_len], Nat.le_refl _, by omega, ?_, ⟨HB4.out.os.trans HB3.out.os, HB4.out.tape.trans HB3.out.tape, HB4.out.output.trans HB3.out.output, Nat.le_trans HB3.out.size HB4.out.size, fun i hi => (HB4.out.block i (Nat.lt_of_lt_of_le hi HB3.out.size) (by simp; omega)).trans (HB3.out.block i hi)⟩⟩
    rw [HT.out]
    have h3s := HS3.out
    have h4s := HB4.out.size
    exact (HH4.out.more (R' := Btw w.heap.size w4.heap.size) fun j hj => ⟨by have := hj.1; omega, hj.2⟩).blk HG4.out (by simp [rowsV]) ⟨by omega, by omega⟩
  · have HT := hide (show tableOf b q = [] by unfold tableOf; rw [if_neg hf])
    have hb0 : (fitE b q != 0) = true := bne_iff_ne.2 hf
    generalize hE : fitE b q = E at *
    have HEQ := hide hE
    clear hE
    clear hf hn hn'
    go_enter Try.func6, Try.ntmps6
    go_upto_region 1 with fail
    generalize w.alloc (.cells #[.slice A nb cb] 22) = w1 at *
    have z2 : w1.cell? ⟨w.heap.size, 0, none⟩ = some (.slice A nb cb) := H2.out.cell 0
    go_wp2_with (go_at_call 18; refine HF.out.mono ?_; rintro e w2 ⟨rfl, hb⟩; have HB2 := hide (HB1.out.trans (hb.mono HB1.out.size)); clear hb z2)
    go_ret2
    exact ⟨none, 0, 0, by rw [HEQ.out]; rfl, by rw [HT.out]; rfl, Nat.le_refl _, by omega, by rw [HT.out]; exact RdR.nil, HB2.out⟩
end Go.Proofs.Ytojanklgjdjniac
