/-
  The package quant: the distances of a part, as the closure of Table makes them. Conditions: the slices read as lists; the table's row lies in a block of its own.
-/
import Derived.Test.YtojanklgjdjniacQuaB
import Derived.Deep.RegionHeld3
namespace Go.Proofs.Ytojanklgjdjniac
open Go.RowKit

def distL (v : List Int) (p : Part) : List Int := p.map (distOf v)
theorem distL_len (v : List Int) (p : Part) : (distL v p).length = p.length := by simp [distL]
theorem distL_snoc {v : List Int} {p : Part} {j : Nat} {c : List Int} (h : p[j]? = some c) : distL v (p.take (j + 1)) = distL v (p.take j) ++ [distOf v c] := by
  unfold distL
  rw [List.take_add_one, h]; simp
theorem set_same {l : List Value} {i : Nat} {u : Value} (h : l[i]? = some u) : l.set i u = l := by
  apply List.ext_getElem?
  intro j
  rw [List.getElem?_set]
  by_cases e : i = j
  · subst e; rw [if_pos rfl, if_pos (List.getElem?_eq_some_iff.1 h).1, h]
  · rw [if_neg e]
theorem infoU : (Try.prog.info? 36).map (fun i => (i.zero, i.size, i.bytes)) = some (some (.int .u64 0), 1, 8) := by kernel_rfl
theorem gb_trans {a b c : World} {row : Option Nat} (h : a.grownBy b row) (k : b.grownBy c row) : a.grownBy c row :=
  ⟨k.os.trans h.os, k.tape.trans h.tape, k.output.trans h.output, Nat.le_trans h.size k.size, fun i hi hne => (k.block i (Nat.lt_of_lt_of_le hi h.size) hne).trans (h.block i hi hne)⟩
theorem gb_below {a w w' : World} {row : Option Nat} {B : Nat} (h : a.grownBy w row) (hb : Below B w w') (hB : a.heap.size ≤ B) : a.grownBy w' row :=
  ⟨hb.os.trans h.os, hb.tape.trans h.tape, hb.output.trans h.output, Nat.le_trans h.size hb.size, fun i hi hne => (hb.block i (by omega)).trans (h.block i hi hne)⟩
theorem reads_one {w : World} {g B : Nat} {t : TypeId} {u : Value} (h : Blk w g t #[u]) (hB : g < B) : Reads w B 1 (some ⟨g, 0, none⟩) 1 [u] :=
  ⟨rfl, fun _ => ⟨_, rfl, hB, fun j x hx => by
    rcases j with _ | j
    · simp at hx; subst hx; rw [add_zero']; exact h.cell 0
    · simp at hx⟩⟩
set_option maxHeartbeats 4000000 in
set_option maxRecDepth 100000 in
theorem tabF_any (i n b2 b3 go N : Nat) (A : Option Addr) (nb cb : Nat) (B : Option Addr) (m d : Nat) (b : Book) (p : Part) (v : List Int) (hs : List Value) (w : World)
    (h2 : Blk w b2 22 #[.slice A nb cb]) (hx : RdR SPart w (fun j => j < N ∧ j ≠ go) A b) (hn : b.length = nb) (hc : nb ≤ cb) (hm : cb ≤ 9223372036854775807) (hp : b[i]? = some p) (hpl : p.length ≤ 256) (hpi : ∀ c ∈ p, I32 c)
    (hy : RdR (Sh.int .i32) w (fun j => j < N ∧ j ≠ go) B v) (hvn : v.length = m) (hd : m ≤ d) (hm' : d ≤ 9223372036854775807) (hvi : I32 v)
    (h3 : Blk w b3 27 #[.slice (some ⟨go, 0, none⟩) n n]) (hgo : Blk w go 45 hs.toArray) (hsn : hs.length = n) (hsi : hs[i]? = some (.slice none 0 0)) (hn63 : n ≤ 9223372036854775807) (hN : N ≤ w.heap.size) (hg2 : b2 ≠ go) (hg3 : b3 ≠ go) :
    Calls Try.prog 20 #[.int .i64 i, .slice B m d, .pointer (some ⟨b2, 0, none⟩), .pointer (some ⟨b3, 0, none⟩)] w fun e w' => e = .returned (.tuple #[]) ∧ ∃ A' c', Blk w' go 45 (hs.set i (.slice A' p.length c')).toArray ∧ p.length ≤ c' ∧ c' ≤ 9223372036854775807 ∧ RdR (Sh.int .u64) w' (Btw w.heap.size w'.heap.size) A' (distL v p) ∧ w.grownBy w' (some go) := by
  have hin : i < n := by have := (List.getElem?_eq_some_iff.1 hsi).1; omega
  have hib : i < nb := by have := (List.getElem?_eq_some_iff.1 hp).1; omega
  have hgl := hgo.lt
  have h2l := h2.lt
  have h3l := h3.lt
  have g0 : (0 : Int) ≤ i := by omega
  have g1 : (i : Int) < n := by omega
  have g2 : (i : Int) < nb := by omega
  obtain ⟨ad, p', Ap, cp, rfl, had, hp', q0, hl1, hl2, hrp⟩ := hx.slc (k := i) (by omega)
  have ep : p' = p := by rw [hp] at hp'; injection hp' with e; exact e.symm
  subst ep
  have HP := hide hrp
  have HY := hide hy
  have HVI := hide hvi
  have HPI := hide hpi
  have HVN := hide hvn
  have H3 := hide h3
  have HS0 := hide (set_same hsi)
  have HGO := hide hgo
  have z2 : w.cell? ⟨b2, 0, none⟩ = some (.slice (some ad) nb cb) := h2.cell 0
  generalize hpn : p'.length = pn at *
  have HPN := hide hpn
  clear h2 hx hp hp' hrp hy hvi hpi h3 hgo hsi hn hvn hpn
  go_enter Try.func20, Try.ntmps20
  go_wp2
  clear z2 q0
  go_loopw [7, 13] (fun _ x wr => ∃ (j : Nat) (A' : Option Addr) (c' : Nat), j ≤ pn ∧ x = .int .i64 j ∧ Hid (Blk wr go 45 (hs.set i ((.slice A' j c'))).toArray) ∧ Hid (wr.ownsRow w.heap.size 36 1 (.slice A' j c') j ((distL v (p'.take j)).map (Value.int .u64))) ∧ Hid (w.grownBy wr (some go))) (fun _ x _ => pn - (intOf x).toNat)
  case atStart => exact ⟨0, none, 0, by omega, rfl, hide (by rw [HS0.out]; exact HGO.out), hide ⟨rfl, .inl ⟨rfl, rfl⟩⟩, hide (World.grownBy.refl _ _)⟩
  case round =>
    obtain ⟨j, A', c', hj, rfl, HGr, HOr, HBr⟩ := hrel
    by_cases hlt : j < pn
    · have hkb : ∀ b, b < N ∧ b ≠ go → wr.heap[b]? = w.heap[b]? := fun b hb => HBr.out.block b (by omega) (by simpa using hb.2)
      obtain ⟨ad2, c, Ac, cc, rfl, hadc, hv, q1, hc1, hc2, hrc⟩ := (HP.out.keepBlocks (w' := wr) hkb).slc (k := j) (by have := HPN.out; omega)
      have HC := hide hrc
      have HYr := hide (HY.out.keepBlocks (w' := wr) hkb)
      have HCI := hide (HPI.out c (List.mem_of_getElem? hv))
      have HSn := hide (distL_snoc (v := v) hv)
      have H3r := hide (show Blk wr b3 27 #[.slice (some ⟨go, 0, none⟩) n n] from (HBr.out.block b3 h3l (by simpa using hg3)).trans H3.out)
      have hsw := HBr.out.size
      have k0 : (0 : Int) ≤ j := by omega
      have k1 : (j : Int) < pn := by omega
      generalize hcl : c.length = nc at *
      have HCL := hide hcl
      clear hrc hv hcl hkb
      go_upto_region 3 with fail
      clear q1
      refine wp_region_held_drew (S := fun W => Blk W b3 27 #[.slice (some ⟨go, 0, none⟩) n n]) (by kernel_rfl) H3r.out.drew (fun hHeld => ?_)
      have HGd := hide HGr.out.drew
      have HOd := hide (own_keep (w' := wr.drew) HOr.out fun _ _ => rfl)
      have HBd := hide (only_drew HBr.out)
      have HYd := hide (HYr.out.keepBlocks (w' := wr.drew) fun _ _ => rfl)
      have HCd := hide (HC.out.keepBlocks (w' := wr.drew) fun _ _ => rfl)
      change w.heap.size ≤ wr.drew.heap.size at hsw
      clear HGr HOr HBr HYr HC H3r
      generalize wr.drew = wd at *
      refine wpAnyH_take (i := 0) (v := .slice (some ⟨go, 0, none⟩) n n) rfl (by kernel_rfl) (by kernel_rfl) (by kernel_rfl) (fun _ _ _ h => h) (Or.inl ⟨by rfl, fun W hS => by have z0 : W.cell? ⟨b3, 0, none⟩ = some (.slice (some ⟨go, 0, none⟩) n n) := hS.cell 0; clear hS hHeld; go_simp⟩) hHeld ?_
      try simp only [Act.put, List.setIfInBounds_toArray, List.set_cons_zero, List.set_cons_succ, List.getElem_toArray, List.getElem_cons_zero, List.getElem_cons_succ]
      refine wpAnyH_take (i := 1) (v := .int .i64 i) rfl (by kernel_rfl) (by kernel_rfl) (by kernel_rfl) (fun _ _ _ h => h) (Or.inl ⟨by rfl, fun W hS => by clear hS hHeld; go_simp⟩) hHeld ?_
      try simp only [Act.put, List.setIfInBounds_toArray, List.set_cons_zero, List.set_cons_succ, List.getElem_toArray, List.getElem_cons_zero, List.getElem_cons_succ]
      refine wpAnyH_take (i := 2) (v := .slice (some ⟨go, 0, none⟩) n n) rfl (by kernel_rfl) (by kernel_rfl) (by kernel_rfl) (fun _ _ _ h => h) (Or.inl ⟨by rfl, fun W hS => by have z0 : W.cell? ⟨b3, 0, none⟩ = some (.slice (some ⟨go, 0, none⟩) n n) := hS.cell 0; clear hS hHeld; go_simp⟩) hHeld ?_
      try simp only [Act.put, List.setIfInBounds_toArray, List.set_cons_zero, List.set_cons_succ, List.getElem_toArray, List.getElem_cons_zero, List.getElem_cons_succ]
      refine wpAnyH_take (i := 3) (v := .int .i64 i) rfl (by kernel_rfl) (by kernel_rfl) (by kernel_rfl) (fun _ _ _ h => h) (Or.inl ⟨by rfl, fun W hS => by clear hS hHeld; go_simp⟩) hHeld ?_
      try simp only [Act.put, List.setIfInBounds_toArray, List.set_cons_zero, List.set_cons_succ, List.getElem_toArray, List.getElem_cons_zero, List.getElem_cons_succ]
      refine wpAnyH_take (i := 4) (v := .pointer (some ⟨go, i, none⟩)) rfl (by kernel_rfl) (by kernel_rfl) (by kernel_rfl) (fun _ _ _ h => h) (Or.inl ⟨by rfl, fun W hS => by clear hS hHeld; go_simp⟩) hHeld ?_
      try simp only [Act.put, List.setIfInBounds_toArray, List.set_cons_zero, List.set_cons_succ, List.getElem_toArray, List.getElem_cons_zero, List.getElem_cons_succ]
      refine wpAnyH_take (i := 6) (v := .slice B m d) rfl (by kernel_rfl) (by kernel_rfl) (by kernel_rfl) (fun _ _ _ h => h) (Or.inl ⟨by rfl, fun W hS => by clear hS hHeld; go_simp⟩) hHeld ?_
      try simp only [Act.put, List.setIfInBounds_toArray, List.set_cons_zero, List.set_cons_succ, List.getElem_toArray, List.getElem_cons_zero, List.getElem_cons_succ]
      refine wpAnyH_take (i := 7) (v := .slice Ac nc cc) rfl (by kernel_rfl) (by kernel_rfl) (by kernel_rfl) (fun _ _ _ h => h) (Or.inl ⟨by rfl, fun W hS => by clear hS hHeld; go_simp⟩) hHeld ?_
      try simp only [Act.put, List.setIfInBounds_toArray, List.set_cons_zero, List.set_cons_succ, List.getElem_toArray, List.getElem_cons_zero, List.getElem_cons_succ]
      refine wpAnyH_ready (rs := [5, 8]) (by kernel_rfl) (by simp) ?_
      refine AllReadyH.cons rfl (fun K hK => ?_) ?_
      · have z5 : wd.cell? ⟨go, i, none⟩ = some (.slice A' j c') := by rw [HGd.out.cell]; simp [hin, hsn]
        try simp only [Act.put, List.setIfInBounds_toArray, List.set_cons_zero, List.set_cons_succ, List.getElem_toArray, List.getElem_cons_zero, List.getElem_cons_succ]
        go_simp
        refine hK.out _ _ hHeld (fun hHeld2 => ?_)
        clear hK K hHeld
        have hHeld := hHeld2
        clear hHeld2
        try simp only [Act.put, List.setIfInBounds_toArray, List.set_cons_zero, List.set_cons_succ, List.getElem_toArray, List.getElem_cons_zero, List.getElem_cons_succ]
        clear z5
        refine wpAnyH_ready (rs := [8]) (by kernel_rfl) (by simp) ?_
        refine AllReadyH.cons rfl (fun K hK => ?_) AllReadyH.nil
        try simp only [Act.put, List.setIfInBounds_toArray, List.set_cons_zero, List.set_cons_succ, List.getElem_toArray, List.getElem_cons_zero, List.getElem_cons_succ]
        go_simp
        go_at_call 12
        refine (dist_any B (Ac) m d nc cc v c _ (HYd.out.more (fun b hb => by omega)) HVN.out HVI.out hd hm' (HCd.out.more (fun b hb => by omega)) HCL.out HCI.out hc1 hc2).mono ?_
        rintro e wq ⟨rfl, rfl⟩
        refine hK.out _ _ hHeld (fun hHeld2 => ?_)
        clear hK K hHeld
        have hHeld := hHeld2
        clear hHeld2
        try simp only [Act.put, List.setIfInBounds_toArray, List.set_cons_zero, List.set_cons_succ, List.getElem_toArray, List.getElem_cons_zero, List.getElem_cons_succ]
        refine wpAnyH_ready (rs := [9]) (by kernel_rfl) (by simp) ?_
        refine AllReadyH.cons rfl (fun K hK => ?_) AllReadyH.nil
        try simp only [Act.put, List.setIfInBounds_toArray, List.set_cons_zero, List.set_cons_succ, List.getElem_toArray, List.getElem_cons_zero, List.getElem_cons_succ]
        go_simp
        refine hK.out _ _ (hHeld.alloc _) (fun hHeld2 => ?_)
        clear hK K hHeld
        have hHeld := hHeld2
        clear hHeld2
        try simp only [Act.put, List.setIfInBounds_toArray, List.set_cons_zero, List.set_cons_succ, List.getElem_toArray, List.getElem_cons_zero, List.getElem_cons_succ]
        have H9 := hide (Blk.new wd 36 #[.int .u64 (distOf v c)])
        replace HGd := hide (HGd.out.alloc (.cells #[.int .u64 (distOf v c)] 36))
        replace HOd := hide (own_keep (w' := wd.alloc (.cells #[.int .u64 (distOf v c)] 36)) HOd.out fun g hg => (below1 wd _).block g (HOd.out.lt g hg).2)
        replace HBd := hide (only_alloc HBd.out (.cells #[.int .u64 (distOf v c)] 36))
        have hs9 : w.heap.size ≤ (wd.alloc (.cells #[.int .u64 (distOf v c)] 36)).heap.size := by simp; omega
        clear HYd HCd
        generalize wd.alloc (.cells #[.int .u64 (distOf v c)] 36) = wa at *
        generalize wd.heap.size = b9 at *
        refine wpAnyH_ready (rs := [10]) (by kernel_rfl) (by simp) ?_
        refine AllReadyH.cons rfl (fun K hK => ?_) AllReadyH.nil
        obtain ⟨i0, hi0, hz0, hz1, hz2⟩ := info_parts infoU
        refine step_append_any _ rfl (.tmp 22) (.tmp 26) 45 rfl w.heap.size 36 i0 _ 1 8 Try.underlying45 hi0 hz0 hz1 hz2 rfl (by decide) (.slice A' j c') j _ rfl HOd.out (b9 + 1) _ 1 1 [.int .u64 (distOf v c)] rfl (reads_one H9.out (Nat.lt_succ_self _)) (by simp [Value.oneCell']) (by simp only [maxLen]; omega) (by omega) hs9 ?_
        intro v' wf hown9 hgr9 _
        obtain ⟨Af, cf, rfl, o1, o2⟩ := own_form hown9
        have hbf := below_own (Below.refl w.heap.size wa) HOd.out hs9 hgr9
        have HOf := hide (show wf.ownsRow w.heap.size 36 1 (.slice Af (j + 1) cf) (j + 1) ((distL v (p'.take (j + 1))).map (Value.int .u64)) by rw [HSn.out, List.map_append]; exact hown9)
        have HGf := hide (HGd.out.below hbf hgl)
        have HBf := hide (gb_below HBd.out hbf (Nat.le_refl _))
        clear hown9 hgr9
        refine hK.out _ _ (hHeld.below hbf h3l) (fun hHeld2 => ?_)
        clear hK K hHeld
        have hHeld := hHeld2
        clear hHeld2
        try simp only [Act.put, List.setIfInBounds_toArray, List.set_cons_zero, List.set_cons_succ, List.getElem_toArray, List.getElem_cons_zero, List.getElem_cons_succ]
        clear hbf HOd HGd HBd
        refine wpAnyH_take (i := 11) (v := .pointer (some ⟨go, i, none⟩)) rfl (by kernel_rfl) (by kernel_rfl) (by kernel_rfl) (fun _ _ _ h => h) (Or.inl ⟨by rfl, fun W hS => by clear hS hHeld; go_simp⟩) hHeld ?_
        try simp only [Act.put, List.setIfInBounds_toArray, List.set_cons_zero, List.set_cons_succ, List.getElem_toArray, List.getElem_cons_zero, List.getElem_cons_succ]
        refine wpAnyH_ready (rs := [12]) (by kernel_rfl) (by simp) ?_
        refine AllReadyH.cons rfl (fun K hK => ?_) AllReadyH.nil
        have z5 : wf.cell? ⟨go, i, none⟩ = some (.slice A' j c') := by rw [HGf.out.cell]; simp [hin, hsn]
        have f5 := HGf.out.frozen i
        try simp only [Act.put, List.setIfInBounds_toArray, List.set_cons_zero, List.set_cons_succ, List.getElem_toArray, List.getElem_cons_zero, List.getElem_cons_succ]
        go_simp
        refine hK.out _ _ (hHeld.far hg3 _) (fun hHeld2 => ?_)
        clear hK K hHeld
        have hHeld := hHeld2
        clear hHeld2
        try simp only [Act.put, List.setIfInBounds_toArray, List.set_cons_zero, List.set_cons_succ, List.getElem_toArray, List.getElem_cons_zero, List.getElem_cons_succ]
        refine wpAnyH_done (by kernel_rfl) ?_ _
        go_wp2
        go_roundw
        case rel => exact ⟨j + 1, Af, cf, by omega, by go_num, hide (by have hk := HGf.out.set_ i (.slice Af (j + 1) cf); rwa [List.setIfInBounds_toArray, List.set_set] at hk), hide (own_keep HOf.out fun g hg => Below.heap_setCell wf _ _ g (by have := (HOf.out.lt g hg).1; simp only; omega)), hide (only_setCell HBf.out (.inl rfl) _)⟩
        case measure => simp [intOf]; omega
      refine AllReadyH.cons rfl (fun K hK => ?_) AllReadyH.nil
      try simp only [Act.put, List.setIfInBounds_toArray, List.set_cons_zero, List.set_cons_succ, List.getElem_toArray, List.getElem_cons_zero, List.getElem_cons_succ]
      go_simp
      go_at_call 12
      refine (dist_any B (Ac) m d nc cc v c _ (HYd.out.more (fun b hb => by omega)) HVN.out HVI.out hd hm' (HCd.out.more (fun b hb => by omega)) HCL.out HCI.out hc1 hc2).mono ?_
      rintro e wq ⟨rfl, rfl⟩
      refine hK.out _ _ hHeld (fun hHeld2 => ?_)
      clear hK K hHeld
      have hHeld := hHeld2
      clear hHeld2
      try simp only [Act.put, List.setIfInBounds_toArray, List.set_cons_zero, List.set_cons_succ, List.getElem_toArray, List.getElem_cons_zero, List.getElem_cons_succ]
      refine wpAnyH_ready (rs := [5, 9]) (by kernel_rfl) (by simp) ?_
      refine AllReadyH.cons rfl (fun K hK => ?_) ?_
      · have z5 : wd.cell? ⟨go, i, none⟩ = some (.slice A' j c') := by rw [HGd.out.cell]; simp [hin, hsn]
        try simp only [Act.put, List.setIfInBounds_toArray, List.set_cons_zero, List.set_cons_succ, List.getElem_toArray, List.getElem_cons_zero, List.getElem_cons_succ]
        go_simp
        refine hK.out _ _ hHeld (fun hHeld2 => ?_)
        clear hK K hHeld
        have hHeld := hHeld2
        clear hHeld2
        try simp only [Act.put, List.setIfInBounds_toArray, List.set_cons_zero, List.set_cons_succ, List.getElem_toArray, List.getElem_cons_zero, List.getElem_cons_succ]
        clear z5
        refine wpAnyH_ready (rs := [9]) (by kernel_rfl) (by simp) ?_
        refine AllReadyH.cons rfl (fun K hK => ?_) AllReadyH.nil
        try simp only [Act.put, List.setIfInBounds_toArray, List.set_cons_zero, List.set_cons_succ, List.getElem_toArray, List.getElem_cons_zero, List.getElem_cons_succ]
        go_simp
        refine hK.out _ _ (hHeld.alloc _) (fun hHeld2 => ?_)
        clear hK K hHeld
        have hHeld := hHeld2
        clear hHeld2
        try simp only [Act.put, List.setIfInBounds_toArray, List.set_cons_zero, List.set_cons_succ, List.getElem_toArray, List.getElem_cons_zero, List.getElem_cons_succ]
        have H9 := hide (Blk.new wd 36 #[.int .u64 (distOf v c)])
        replace HGd := hide (HGd.out.alloc (.cells #[.int .u64 (distOf v c)] 36))
        replace HOd := hide (own_keep (w' := wd.alloc (.cells #[.int .u64 (distOf v c)] 36)) HOd.out fun g hg => (below1 wd _).block g (HOd.out.lt g hg).2)
        replace HBd := hide (only_alloc HBd.out (.cells #[.int .u64 (distOf v c)] 36))
        have hs9 : w.heap.size ≤ (wd.alloc (.cells #[.int .u64 (distOf v c)] 36)).heap.size := by simp; omega
        clear HYd HCd
        generalize wd.alloc (.cells #[.int .u64 (distOf v c)] 36) = wa at *
        generalize wd.heap.size = b9 at *
        refine wpAnyH_ready (rs := [10]) (by kernel_rfl) (by simp) ?_
        refine AllReadyH.cons rfl (fun K hK => ?_) AllReadyH.nil
        obtain ⟨i0, hi0, hz0, hz1, hz2⟩ := info_parts infoU
        refine step_append_any _ rfl (.tmp 22) (.tmp 26) 45 rfl w.heap.size 36 i0 _ 1 8 Try.underlying45 hi0 hz0 hz1 hz2 rfl (by decide) (.slice A' j c') j _ rfl HOd.out (b9 + 1) _ 1 1 [.int .u64 (distOf v c)] rfl (reads_one H9.out (Nat.lt_succ_self _)) (by simp [Value.oneCell']) (by simp only [maxLen]; omega) (by omega) hs9 ?_
        intro v' wf hown9 hgr9 _
        obtain ⟨Af, cf, rfl, o1, o2⟩ := own_form hown9
        have hbf := below_own (Below.refl w.heap.size wa) HOd.out hs9 hgr9
        have HOf := hide (show wf.ownsRow w.heap.size 36 1 (.slice Af (j + 1) cf) (j + 1) ((distL v (p'.take (j + 1))).map (Value.int .u64)) by rw [HSn.out, List.map_append]; exact hown9)
        have HGf := hide (HGd.out.below hbf hgl)
        have HBf := hide (gb_below HBd.out hbf (Nat.le_refl _))
        clear hown9 hgr9
        refine hK.out _ _ (hHeld.below hbf h3l) (fun hHeld2 => ?_)
        clear hK K hHeld
        have hHeld := hHeld2
        clear hHeld2
        try simp only [Act.put, List.setIfInBounds_toArray, List.set_cons_zero, List.set_cons_succ, List.getElem_toArray, List.getElem_cons_zero, List.getElem_cons_succ]
        clear hbf HOd HGd HBd
        refine wpAnyH_take (i := 11) (v := .pointer (some ⟨go, i, none⟩)) rfl (by kernel_rfl) (by kernel_rfl) (by kernel_rfl) (fun _ _ _ h => h) (Or.inl ⟨by rfl, fun W hS => by clear hS hHeld; go_simp⟩) hHeld ?_
        try simp only [Act.put, List.setIfInBounds_toArray, List.set_cons_zero, List.set_cons_succ, List.getElem_toArray, List.getElem_cons_zero, List.getElem_cons_succ]
        refine wpAnyH_ready (rs := [12]) (by kernel_rfl) (by simp) ?_
        refine AllReadyH.cons rfl (fun K hK => ?_) AllReadyH.nil
        have z5 : wf.cell? ⟨go, i, none⟩ = some (.slice A' j c') := by rw [HGf.out.cell]; simp [hin, hsn]
        have f5 := HGf.out.frozen i
        try simp only [Act.put, List.setIfInBounds_toArray, List.set_cons_zero, List.set_cons_succ, List.getElem_toArray, List.getElem_cons_zero, List.getElem_cons_succ]
        go_simp
        refine hK.out _ _ (hHeld.far hg3 _) (fun hHeld2 => ?_)
        clear hK K hHeld
        have hHeld := hHeld2
        clear hHeld2
        try simp only [Act.put, List.setIfInBounds_toArray, List.set_cons_zero, List.set_cons_succ, List.getElem_toArray, List.getElem_cons_zero, List.getElem_cons_succ]
        refine wpAnyH_done (by kernel_rfl) ?_ _
        go_wp2
        go_roundw
        case rel => exact ⟨j + 1, Af, cf, by omega, by go_num, hide (by have hk := HGf.out.set_ i (.slice Af (j + 1) cf); rwa [List.setIfInBounds_toArray, List.set_set] at hk), hide (own_keep HOf.out fun g hg => Below.heap_setCell wf _ _ g (by have := (HOf.out.lt g hg).1; simp only; omega)), hide (only_setCell HBf.out (.inl rfl) _)⟩
        case measure => simp [intOf]; omega
      refine AllReadyH.cons rfl (fun K hK => ?_) AllReadyH.nil
      try simp only [Act.put, List.setIfInBounds_toArray, List.set_cons_zero, List.set_cons_succ, List.getElem_toArray, List.getElem_cons_zero, List.getElem_cons_succ]
      go_simp
      refine hK.out _ _ (hHeld.alloc _) (fun hHeld2 => ?_)
      clear hK K hHeld
      have hHeld := hHeld2
      clear hHeld2
      try simp only [Act.put, List.setIfInBounds_toArray, List.set_cons_zero, List.set_cons_succ, List.getElem_toArray, List.getElem_cons_zero, List.getElem_cons_succ]
      have H9 := hide (Blk.new wd 36 #[.int .u64 (distOf v c)])
      replace HGd := hide (HGd.out.alloc (.cells #[.int .u64 (distOf v c)] 36))
      replace HOd := hide (own_keep (w' := wd.alloc (.cells #[.int .u64 (distOf v c)] 36)) HOd.out fun g hg => (below1 wd _).block g (HOd.out.lt g hg).2)
      replace HBd := hide (only_alloc HBd.out (.cells #[.int .u64 (distOf v c)] 36))
      have hs9 : w.heap.size ≤ (wd.alloc (.cells #[.int .u64 (distOf v c)] 36)).heap.size := by simp; omega
      clear HYd HCd
      generalize wd.alloc (.cells #[.int .u64 (distOf v c)] 36) = wa at *
      generalize wd.heap.size = b9 at *
      refine wpAnyH_ready (rs := [5]) (by kernel_rfl) (by simp) ?_
      refine AllReadyH.cons rfl (fun K hK => ?_) AllReadyH.nil
      have z5 : wa.cell? ⟨go, i, none⟩ = some (.slice A' j c') := by rw [HGd.out.cell]; simp [hin, hsn]
      try simp only [Act.put, List.setIfInBounds_toArray, List.set_cons_zero, List.set_cons_succ, List.getElem_toArray, List.getElem_cons_zero, List.getElem_cons_succ]
      go_simp
      refine hK.out _ _ hHeld (fun hHeld2 => ?_)
      clear hK K hHeld
      have hHeld := hHeld2
      clear hHeld2
      try simp only [Act.put, List.setIfInBounds_toArray, List.set_cons_zero, List.set_cons_succ, List.getElem_toArray, List.getElem_cons_zero, List.getElem_cons_succ]
      clear z5
      refine wpAnyH_ready (rs := [10]) (by kernel_rfl) (by simp) ?_
      refine AllReadyH.cons rfl (fun K hK => ?_) AllReadyH.nil
      obtain ⟨i0, hi0, hz0, hz1, hz2⟩ := info_parts infoU
      refine step_append_any _ rfl (.tmp 22) (.tmp 26) 45 rfl w.heap.size 36 i0 _ 1 8 Try.underlying45 hi0 hz0 hz1 hz2 rfl (by decide) (.slice A' j c') j _ rfl HOd.out (b9 + 1) _ 1 1 [.int .u64 (distOf v c)] rfl (reads_one H9.out (Nat.lt_succ_self _)) (by simp [Value.oneCell']) (by simp only [maxLen]; omega) (by omega) hs9 ?_
      intro v' wf hown9 hgr9 _
      obtain ⟨Af, cf, rfl, o1, o2⟩ := own_form hown9
      have hbf := below_own (Below.refl w.heap.size wa) HOd.out hs9 hgr9
      have HOf := hide (show wf.ownsRow w.heap.size 36 1 (.slice Af (j + 1) cf) (j + 1) ((distL v (p'.take (j + 1))).map (Value.int .u64)) by rw [HSn.out, List.map_append]; exact hown9)
      have HGf := hide (HGd.out.below hbf hgl)
      have HBf := hide (gb_below HBd.out hbf (Nat.le_refl _))
      clear hown9 hgr9
      refine hK.out _ _ (hHeld.below hbf h3l) (fun hHeld2 => ?_)
      clear hK K hHeld
      have hHeld := hHeld2
      clear hHeld2
      try simp only [Act.put, List.setIfInBounds_toArray, List.set_cons_zero, List.set_cons_succ, List.getElem_toArray, List.getElem_cons_zero, List.getElem_cons_succ]
      clear hbf HOd HGd HBd
      refine wpAnyH_take (i := 11) (v := .pointer (some ⟨go, i, none⟩)) rfl (by kernel_rfl) (by kernel_rfl) (by kernel_rfl) (fun _ _ _ h => h) (Or.inl ⟨by rfl, fun W hS => by clear hS hHeld; go_simp⟩) hHeld ?_
      try simp only [Act.put, List.setIfInBounds_toArray, List.set_cons_zero, List.set_cons_succ, List.getElem_toArray, List.getElem_cons_zero, List.getElem_cons_succ]
      refine wpAnyH_ready (rs := [12]) (by kernel_rfl) (by simp) ?_
      refine AllReadyH.cons rfl (fun K hK => ?_) AllReadyH.nil
      have z5 : wf.cell? ⟨go, i, none⟩ = some (.slice A' j c') := by rw [HGf.out.cell]; simp [hin, hsn]
      have f5 := HGf.out.frozen i
      try simp only [Act.put, List.setIfInBounds_toArray, List.set_cons_zero, List.set_cons_succ, List.getElem_toArray, List.getElem_cons_zero, List.getElem_cons_succ]
      go_simp
      refine hK.out _ _ (hHeld.far hg3 _) (fun hHeld2 => ?_)
      clear hK K hHeld
      have hHeld := hHeld2
      clear hHeld2
      try simp only [Act.put, List.setIfInBounds_toArray, List.set_cons_zero, List.set_cons_succ, List.getElem_toArray, List.getElem_cons_zero, List.getElem_cons_succ]
      refine wpAnyH_done (by kernel_rfl) ?_ _
      go_wp2
      go_roundw
      case rel => exact ⟨j + 1, Af, cf, by omega, by go_num, hide (by have hk := HGf.out.set_ i (.slice Af (j + 1) cf); rwa [List.setIfInBounds_toArray, List.set_set] at hk), hide (own_keep HOf.out fun g hg => Below.heap_setCell wf _ _ g (by have := (HOf.out.lt g hg).1; simp only; omega)), hide (only_setCell HBf.out (.inl rfl) _)⟩
      case measure => simp [intOf]; omega
    · obtain rfl : j = pn := by omega
      rw [List.take_of_length_le (by have := HPN.out; omega)] at HOr
      go_wp2
      go_end0
      obtain ⟨_, _, e, o1, o2⟩ := own_form HOr.out
      injection e with _ _ e3
      exact ⟨rfl, A', c', by first | exact HGr.out | (rw [HPN.out]; exact HGr.out), by have := HPN.out; omega, by omega, intR_own HOr.out, HBr.out⟩
end Go.Proofs.Ytojanklgjdjniac
