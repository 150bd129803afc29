/-
  The package quant: a vector's parts, one by one, and their distances. Conditions: the book is right, the vector fits.
-/
import Derived.Test.YtojanklgjdjniacQuaC
namespace Go.Proofs.Ytojanklgjdjniac
open Go.RowKit

def partOf (b : Book) (q : List Int) (i : Nat) : List Int := (q.drop (sumK b i)).take (dim0 (b.getD i []))
def rowOf (b : Book) (q : List Int) (i : Nat) : List Int := distL (partOf b q i) (b.getD i [])
def tblK (b : Book) (q : List Int) (k : Nat) : List (List Int) := (List.range k).map (rowOf b q)
theorem tblK_snoc (b : Book) (q : List Int) (k : Nat) : tblK b q (k + 1) = tblK b q k ++ [rowOf b q k] := by simp [tblK, List.range_succ]
theorem tblK_len (b : Book) (q : List Int) (k : Nat) : (tblK b q k).length = k := by simp [tblK]
def rowsV (hs : List Value) (m : Nat) : List Value := hs ++ List.replicate m (.slice none 0 0)
theorem rowsV_set (hs : List Value) (m : Nat) (u : Value) : (rowsV hs (m + 1)).set hs.length u = rowsV (hs ++ [u]) m := by
  simp [rowsV, List.replicate_succ, List.set_append_right]
theorem rowsV_step (hs : List Value) (u : Value) (nb k : Nat) (h : hs.length = k) (hk : k < nb) : (rowsV hs (nb - k)).set k u = rowsV (hs ++ [u]) (nb - (k + 1)) := by
  subst h
  rw [show nb - hs.length = (nb - (hs.length + 1)) + 1 by omega, rowsV_set]
theorem rowsV_at (hs : List Value) (m : Nat) : (rowsV hs (m + 1))[hs.length]? = some (.slice none 0 0) := by
  simp [rowsV, List.replicate_succ]
theorem rowsV_len (hs : List Value) (m : Nat) : (rowsV hs m).length = hs.length + m := by simp [rowsV]
theorem right_I32 {p : Part} (h : rightB p = true) : ∀ c ∈ p, I32 c := by
  intro c hc x hx
  unfold rightB at h
  rw [Bool.and_eq_true, List.all_eq_true] at h
  have h1 := h.2 c hc
  unfold vecOk at h1
  rw [Bool.and_eq_true, List.all_eq_true] at h1
  have := of_decide_eq_true (h1.2 x hx)
  omega
theorem right_le {p : Part} (h : rightB p = true) : p.length ≤ 256 := by
  unfold rightB at h
  rw [Bool.and_eq_true] at h
  exact (of_decide_eq_true h.1).2
theorem right_dim1 {p : Part} (h : rightB p = true) : 1 ≤ dim0 p := by
  obtain ⟨c, hc, hl, _⟩ := right_dim h
  unfold rightB at h
  rw [Bool.and_eq_true, List.all_eq_true] at h
  have h1 := h.2 c (List.mem_of_getElem? hc)
  unfold vecOk at h1
  rw [Bool.and_eq_true] at h1
  have := of_decide_eq_true h1.1
  omega

set_option maxHeartbeats 4000000 in
theorem each_any (b2 b3 go : Nat) (A : Option Addr) (nb cb : Nat) (B : Option Addr) (m d : Nat) (b : Book) (q : List Int) (w : World)
    (h2 : Blk w b2 22 #[.slice A nb cb]) (hx : RdR SPart w (fun j => j < w.heap.size ∧ j ≠ go) A b) (hn : b.length = nb) (hc : nb ≤ cb) (hm : cb ≤ 9223372036854775807) (hk : chkB b = true)
    (hy : RdR (Sh.int .i32) w (fun j => j < w.heap.size ∧ j ≠ go) B q) (hqn : q.length = m) (hqs : m = sumK b nb) (hd : m ≤ d) (hm' : d ≤ 9223372036854775807) (hqi : I32 q)
    (h3 : Blk w b3 27 #[.slice (some ⟨go, 0, none⟩) nb nb]) (hgo : Blk w go 45 (rowsV [] nb).toArray) (hg2 : b2 ≠ go) (hg3 : b3 ≠ go) :
    Calls Try.prog 19 #[.slice A nb cb, .slice B m d, .func (.func 20) #[] #[.pointer (some ⟨b2, 0, none⟩), .pointer (some ⟨b3, 0, none⟩)]] w fun e w' => e = .returned (.tuple #[]) ∧
      ∃ hs, Blk w' go 45 (rowsV hs 0).toArray ∧ HdR .u64 w' (Btw w.heap.size w'.heap.size) hs (tblK b q nb) ∧ w.grownBy w' (some go) := by
  obtain ⟨h64, hr, hs⟩ := chk_right hk
  have hgl := hgo.lt
  have h2l := h2.lt
  have h3l := h3.lt
  have HX := hide hx
  have Hn := hide hn
  have HY := hide hy
  have HR := hide hr
  have HQ := hide hqn
  have HQS := hide hqs
  have HQI := hide hqi
  have H2 := hide h2
  have H3 := hide h3
  have HGO := hide hgo
  have HMS := hide (show ∀ k, k ≤ nb → sumK b k ≤ m from fun k h => by rw [hqs]; exact sumK_mono b h)
  rw [hn] at h64
  clear hx hn hy hr hqn hqi h2 h3 hgo hk hs hqs
  go_enter Try.func19, Try.ntmps19
  go_wp2
  go_loopw [1, 6, 7, 8, 11] (fun s _ _ _ x wr => ∃ (k : Nat) (B' : Option Addr) (m' d' : Nat) (hs : List Value), k ≤ nb ∧ x = .int .i64 k ∧ s = .slice B' m' d' ∧ Hid (m' = m - sumK b k) ∧ m' ≤ d' ∧ d' ≤ 9223372036854775807 ∧
    Hid (RdR (Sh.int .i32) wr (fun j => j < w.heap.size ∧ j ≠ go) B' (q.drop (sumK b k))) ∧ Hid (Blk wr go 45 (rowsV hs (nb - k)).toArray) ∧ Hid (HdR .u64 wr (Btw w.heap.size wr.heap.size) hs (tblK b q k)) ∧ Hid (w.grownBy wr (some go))) (fun _ _ _ _ x _ => nb - (intOf x).toNat)
  case atStart => exact ⟨0, B, m, d, [], by omega, rfl, rfl, hide (by simp [sumK]), hd, hm', hide (by simpa [sumK] using HY.out), hide (by simpa using HGO.out), hide HdR.nil, hide (World.grownBy.refl _ _)⟩
  case round =>
    obtain ⟨k, B', m', d', hs, hk, rfl, rfl, HM, hd1, hd2, HYr, HGr, HHr, HBr⟩ := hrel
    by_cases hlt : k < nb
    · have hkb : ∀ b, b < w.heap.size ∧ b ≠ go → wr.heap[b]? = w.heap[b]? := fun b hb => HBr.out.block b hb.1 (by simpa using hb.2)
      have HXr := hide (HX.out.keepBlocks (w' := wr) hkb)
      obtain ⟨ad, p, Ap, cp, rfl, _, hv, q0, hl1, hl2, hrp⟩ := HXr.out.slc (k := k) (by have := Hn.out; omega)
      have hrt := HR.out p (List.mem_of_getElem? hv)
      obtain ⟨c0, hc0, hcl, hp1⟩ := right_dim hrt
      obtain ⟨ad', v', A'', c'', rfl, hadl, hv', q1, _, _, _⟩ := hrp.slc (k := 0) (by omega)
      have ev : v' = c0 := by rw [hc0] at hv'; injection hv' with e; exact e.symm
      subst ev
      rw [add_zero', hcl] at q1
      have hsn := sumK_snoc hv
      have hms := HMS.out (k + 1) (by omega)
      have hd0 : dim0 p ≤ m' := by have := HM.out; omega
      have hgd : b.getD k [] = p := by simp [List.getD_eq_getElem?_getD, hv]
      have hhl : hs.length = k := by rw [HHr.out.1, tblK_len]
      have hnk : nb - k = (nb - (k + 1)) + 1 := by omega
      have hql : (q.drop (sumK b k)).length = m' := by rw [List.length_drop, HQ.out, HM.out]
      have HCT := hide (show RdR (Sh.int .i32) wr (fun j => j < w.heap.size ∧ j ≠ go) (if d' = dim0 p then B' else B'.map (fun x => x.add (dim0 p))) (q.drop (sumK b (k + 1))) by
        have h := RdR.cut (k := dim0 p) HYr.out hd0 hql hd1
        rw [List.drop_drop, ← hsn, show dim0 p * (Sh.int IntKind.i32).size = dim0 p from Nat.mul_one _] at h
        exact h)
      have HSN := hide hsn
      have HGD := hide hgd
      have HHL := hide hhl
      have hsw := HBr.out.size
      have HC := hide (tabF_any k nb b2 b3 go w.heap.size (some ad) nb cb B' (dim0 p) d' b p ((q.drop (sumK b k)).take (dim0 p)) (rowsV hs (nb - k)) wr
        ((HBr.out.block b2 h2l (by simpa using hg2)).trans H2.out) HXr.out Hn.out hc hm hv (right_le hrt) (right_I32 hrt) (HYr.out.take _) (by rw [List.length_take, hql]; omega) (by omega) hd2 (fun x hx => HQI.out x (List.mem_of_mem_drop (List.mem_of_mem_take hx)))
        ((HBr.out.block b3 h3l (by simpa using hg3)).trans H3.out) HGr.out (by rw [rowsV_len, hhl]; omega) (by rw [hnk, ← hhl]; exact rowsV_at hs _) (by omega) hsw hg2 hg3)
      have hpp : (0 : Int) < p.length := by omega
      have k0 : (0 : Int) ≤ k := by omega
      have k1 : (k : Int) < nb := by omega
      have kd : (dim0 p : Int) ≤ m' := by omega
      have HV := hide hv
      clear hv hrp hc0 hv' hrt hkb
      have HRW := hide (show ∀ u, (rowsV hs (nb - k)).set k u = rowsV (hs ++ [u]) (nb - (k + 1)) from fun u => rowsV_step hs u nb k hhl hlt)
      have hnk' : k + 1 ≤ nb := by omega
      clear hgd hhl hnk hql hcl
      generalize hpl : p.length = pl at *
      have HPL := hide hpl
      generalize hdp : dim0 p = dp at *
      have HDP := hide hdp
      clear hpl hdp
      go_wp2_with (go_at_call 20; refine HC.out.mono ?_; rintro e w1 ⟨rfl, A', c', hG, h51, h52, hR, hb⟩; have HG1 := hide hG; have HR1 := hide hR; have HB1 := hide hb; clear hG hR hb)
      have hs1 := HB1.out.size
      go_roundw
      case rel => exact ⟨k + 1, _, m' - dp, d' - dp, hs ++ [.slice A' pl c'], hnk', by go_num, rfl, hide (by have := HM.out; have := HSN.out; have := HMS.out (k + 1) hnk'; omega), by omega, by omega,
        hide (HCT.out.keepBlocks fun b hb => HB1.out.block b (by have := hb.1; omega) (by have := hb.2; simpa using this)), hide (by rw [← HRW.out]; exact HG1.out),
        hide (by
          rw [tblK_snoc]
          refine HdR.snoc ((HHr.out.keep fun b hb => HB1.out.block b hb.2 (by have := hb.1; simp; omega)).more fun b hb => ⟨hb.1, by have := hb.2; omega⟩) ?_ h51 h52 ?_
          · unfold rowOf; rw [HGD.out, distL_len]; exact HPL.out
          · unfold rowOf partOf; rw [HGD.out, HDP.out]; exact HR1.out.more fun b hb => ⟨by have := hb.1; omega, hb.2⟩), hide (gb_trans HBr.out HB1.out)⟩
      case measure => simp [intOf]; omega
    · obtain rfl : k = nb := by omega
      go_wp2
      go_end0
      exact ⟨rfl, hs, by have := HGr.out; rwa [Nat.sub_self] at this, HHr.out, HBr.out⟩
end Go.Proofs.Ytojanklgjdjniac
