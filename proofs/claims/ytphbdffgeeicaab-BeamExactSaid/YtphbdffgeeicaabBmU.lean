/-
  The law BeamExact: the walk. Conditions: the slices read as lists.
-/
import Derived.Test.YtphbdffgeeicaabMgG
import Derived.Test.YtphbdffgeeicaabWlkH
import Derived.Test.YtphbdffgeeicaabMgL
namespace Go.Proofs.Ytphbdffgeeicaab
set_option linter.unusedSimpArgs false
set_option linter.unusedVariables false
open Go.RowKit

/-- the items of the slots -/
def itsF (ns : List NodeP) (l : List Int) : List ItemP := l.map (itemF ns)
theorem its_snoc {ns : List NodeP} {l : List Int} {k : Nat} {x : Int} (h : l[k]? = some x) : itsF ns (l.take (k + 1)) = itsF ns (l.take k) ++ [itemF ns x] := by
  unfold itsF
  rw [takeI_snoc h, List.map_append]; rfl
theorem itemF_at {ns : List NodeP} {k : Nat} {x : NodeP} (h : ns[k]? = some x) : itemF ns (k : Int) = x.1 := by
  have := (List.getElem?_eq_some_iff.1 h).1
  unfold itemF
  rw [if_pos (by omega), show ((k : Int)).toNat = k by omega, h]; rfl
theorem item_of {w : World} {R : Nat → Prop} {x : ItemP} {V : Option Addr} {c : Nat} (h1 : x.2.1.length ≤ c) (h2 : c ≤ 9223372036854775807) (h3 : RdR (Sh.int .i32) w R V x.2.1) : SItem.rd w R x [.int .u64 x.1, .slice V x.2.1.length c, .int .u64 x.2.2] :=
  ⟨[.int .u64 x.1], [.slice V x.2.1.length c, .int .u64 x.2.2], rfl, rfl, [.slice V x.2.1.length c], [.int .u64 x.2.2], rfl, ⟨V, c, rfl, h1, h2, h3⟩, rfl⟩
/-- the plane's variable, the items so far in a row of the call's own -/
structure ItB (w w4 : World) (b6 : Nat) (cs : Array Value) (A : Option Addr) (k c : Nat) (its : List ItemP) (W : World) : Prop where
  p : PlB w b6 cs W
  own : ∃ xs, W.ownsRow w4.heap.size 33 3 (.slice A k c) k xs ∧ RowX SItem W (fun d => d < w.heap.size) its xs
  b4 : Below w4.heap.size w4 W
  h4 : w.heap.size ≤ w4.heap.size
theorem ItB.step {w w4 W W' : World} {b6 : Nat} {cs : Array Value} {A : Option Addr} {k c : Nat} {its : List ItemP} (h : ItB w w4 b6 cs A k c its W) (hb : Below W.heap.size W W') : ItB w w4 b6 cs A k c its W' := by
  obtain ⟨xs, h1, h2⟩ := h.own
  exact ⟨h.p.step hb, ⟨xs, own_keep h1 fun g hg => hb.block g (h1.lt g hg).2, h2.keepBlocks fun d hd => hb.block d (Nat.lt_of_lt_of_le hd h.p.bel.size)⟩, Below.step h.b4 hb, h.h4⟩
theorem ItB.rd {w w4 W : World} {b6 : Nat} {cs : Array Value} {A : Option Addr} {k c : Nat} {its : List ItemP} (h : ItB w w4 b6 cs A k c its W) : Rd SItem W W.heap.size A its := by
  obtain ⟨xs, h1, h2⟩ := h.own
  exact RowX.rd (by decide) h2 h1 (fun d hd => Nat.lt_of_lt_of_le hd h.p.bel.size) fun g hg => (h1.lt g hg).2
theorem info_itemE : (Try.prog.info? 33).map (fun i => (i.zero, i.size, i.bytes)) = some (some (.agg #[.int .u64 0, .slice none 0 0, .int .u64 0]), 3, 40) := by kernel_rfl
/-- an item more -/
theorem ItB.app {w w4 W W' : World} {b6 : Nat} {cs : Array Value} {A A' : Option Addr} {k c c' : Nat} {its its' : List ItemP} {xs : List Value} {x : ItemP} {c3 : List Value} (h : ItB w w4 b6 cs A k c its W) (ho : W.ownsRow w4.heap.size 33 3 (.slice A k c) k xs) (hr : RowX SItem W (fun d => d < w.heap.size) its xs) (hg : W.grownBy W' (Value.slice A k c).ownBlock)
    (ho' : W'.ownsRow w4.heap.size 33 3 (.slice A' (k + 1) c') (k + 1) (xs ++ c3)) (hx : SItem.rd w (fun d => d < w.heap.size) x c3) (he : its' = its ++ [x]) : ItB w w4 b6 cs A' (k + 1) c' its' W' := by
  have hbl : Below w.heap.size w W' := below_own h.p.bel (own_lowW ho h.h4) h.p.bel.size hg
  refine ⟨⟨hbl, h.p.pl.grown hg (fun e => own_blk_ne ho h.p.pl (by decide) e.symm)⟩, ⟨_, ho', ?_⟩, below_own h.b4 ho h.b4.size hg, h.h4⟩
  subst he
  refine RowX.snoc (hr.keepBlocks fun d hd => ?_) (SItem.keep hx fun p hp => hbl.cell hp)
  exact hg.block d (Nat.lt_of_lt_of_le hd h.p.bel.size) fun e => by have := (ho.lt d e.symm).1; have := h.h4; omega
/-- while what was found is looked at -/
structure FoB (w w4 : World) (b6 : Nat) (cs : Array Value) (A : Option Addr) (k c : Nat) (its : List ItemP) (Af : Option Addr) (fs : List Spt) (W : World) : Prop where
  i : ItB w w4 b6 cs A k c its W
  f : Rd SP W W.heap.size Af fs
theorem FoB.step {w w4 W W' : World} {b6 : Nat} {cs : Array Value} {A Af : Option Addr} {k c : Nat} {its : List ItemP} {fs : List Spt} (h : FoB w w4 b6 cs A k c its Af fs W) (hb : Below W.heap.size W W') : FoB w w4 b6 cs A k c its Af fs W' := ⟨h.i.step hb, h.f.at_world hb⟩
theorem FoB.cells {w w4 W : World} {b6 : Nat} {N : Option Addr} {nn cN : Nat} {en top : Int} {A Af : Option Addr} {k c : Nat} {its : List ItemP} {fs : List Spt} (h : FoB w w4 b6 #[.slice N nn cN, .int .i64 en, .int .i64 top] A k c its Af fs W) : W.cell? ⟨b6, 0, none⟩ = some (.slice N nn cN) ∧ W.cell? ⟨b6, 1, none⟩ = some (.int .i64 en) ∧ W.cell? ⟨b6, 2, none⟩ = some (.int .i64 top) := h.i.p.cells
/-- .. and one spot of it, its variable -/
structure SpB (w w4 : World) (b6 : Nat) (cs : Array Value) (A : Option Addr) (k c : Nat) (its : List ItemP) (Af : Option Addr) (fs : List Spt) (bs : Nat) (s : Spt) (W : World) : Prop where
  f : FoB w w4 b6 cs A k c its Af fs W
  s : Blk W bs 42 #[.int .u64 s.1.1, .int .u64 s.1.2, .int .i64 s.2]
theorem SpB.step {w w4 W W' : World} {b6 bs : Nat} {cs : Array Value} {A Af : Option Addr} {k c : Nat} {its : List ItemP} {fs : List Spt} {s : Spt} (h : SpB w w4 b6 cs A k c its Af fs bs s W) (hb : Below W.heap.size W W') : SpB w w4 b6 cs A k c its Af fs bs s W' := ⟨h.f.step hb, h.s.below hb h.s.lt⟩
theorem find_le {ns : List NodeP} {q : List Int} {mask : Int} {K : Nat} {l : List Int} {t : PrS} {c : Nat} (h : LookR ns q mask K 0 (offL ns q mask K noS l) t c) : ∃ dn, BmI ns q mask K t dn ∧ dn.length = c := by
  obtain ⟨dn, h1⟩ := h.ends (dn := []) (BmI.nil.offs l)
  exact ⟨dn, h1.i, by have := h1.c; simpa using this⟩
theorem start_near {ns : List NodeP} {q : List Int} {en top : Int} {l : List Int} (h : StartR ns q en top l) : ∀ x ∈ nearF ns 0 0, x ∈ l := by
  obtain ⟨d, h⟩ := h
  intro x hx
  split at h
  · rw [h.2]; exact List.mem_cons_of_mem _ hx
  · rw [h]; exact hx
theorem RdR.sAt {w : World} {R : Nat → Prop} {ad : Addr} {l : List Spt} (h : RdR SP w R (some ad) l) {k : Nat} {s : Spt} (hx : l[k]? = some s) : w.cell? (ad.add (k * 3)) = some (.int .u64 s.1.1) ∧ w.cell? ⟨(ad.add (k * 3)).block, (ad.add (k * 3)).off + 1, none⟩ = some (.int .u64 s.1.2) ∧ w.cell? ⟨(ad.add (k * 3)).block, (ad.add (k * 3)).off + 2, none⟩ = some (.int .i64 s.2) := by
  obtain ⟨ad2, s2, e, _, h2, h3, h4, h5⟩ := h.scell (k := k) (List.getElem?_eq_some_iff.1 hx).1
  injection e with e
  subst e
  rw [hx] at h2
  injection h2 with h2
  subst h2
  exact ⟨h3, h4, h5⟩
theorem most_ge {a b : Int} {n : Nat} (h : n ≤ 4096) : n ≤ mostB (max a (max b n)) := by unfold mostB; omega
theorem take_lstU (h : List Hit) (k : Int) : h.take (lstN k h.length) = h.take k.toNat := by
  unfold lstN
  rcases Nat.le_total k.toNat h.length with e | e
  · rw [Nat.min_eq_left e]
  · rw [Nat.min_eq_right e, List.take_of_length_le (Nat.le_refl _), List.take_of_length_le e]
theorem rSpotB (a b : Spt) {r : Bool} (h : sptLt a b = r) (w : World) : Calls Try.prog 10 #[.agg #[.int .u64 a.1.1, .int .u64 a.1.2, .int .i64 a.2], .agg #[.int .u64 b.1.1, .int .u64 b.1.2, .int .i64 b.2]] w fun e w' => e = .returned (.bool r) ∧ Below w.heap.size w w' := h ▸ spot_any a b w
section
variable {w : World} {N : Option Addr} {nn cN : Nat} {ns : List NodeP} {en top : Int} {Aq : Option Addr} {nq cq : Nat} {qs : List Int}
set_option maxHeartbeats 16000000 in
set_option maxRecDepth 100000 in
theorem beamExact_any (hx : Rd SNode w w.heap.size N ns) (hn : ns.length = nn) (hc : nn ≤ cN) (hm : cN ≤ 9223372036854775807) (hok : ∀ x ∈ ns, OkN x) (hidw : ∀ x ∈ ns, (Lit.int .u64 x.1.1).wf = true)
    (hq : Rd (Sh.int .i32) w w.heap.size Aq qs) (hnq : qs.length = nq) (hcq : nq ≤ cq) (hcq2 : cq ≤ 9223372036854775807) (hqi : I32 qs) (links mask kk ef : Int) (hmk : 0 ≤ mask ∧ mask ≤ 18446744073709551615) :
    Calls Try.prog 3 #[.agg #[.slice N nn cN, .int .i64 en, .int .i64 top], .int .i64 links, .slice Aq nq cq, .int .u64 mask, .int .i64 kk, .int .i64 ef] w fun e w' => e = .returned (.bool true) ∧ Below w.heap.size w w' := by
  have hb1 := below1 w (.cells #[.slice N nn cN, .int .i64 en, .int .i64 top] 24)
  have HB1 := hide hb1
  have HP1 := hide (PlB.start w #[.slice N nn cN, .int .i64 en, .int .i64 top])
  have HSm := hide (fun (W : World) (hb : Below w.heap.size w W) => small_any (en := en) (top := top) (hx.at_world hb) hn hc hm)
  have HPl := hide (fun (h : SmallP ns) => (⟨hx, hn, hok, h.2, by have := h.1; omega, hq, hnq, hcq, hcq2, hqi⟩ : PlW w N nn ns Aq nq cq qs))
  have HPn := hide (fun (h : SmallP ns) => (⟨hx, hn, hok, h.2, by have := h.1; omega, hidw⟩ : PlN w N nn ns))
  have HMk := hide hmk
  clear hb1 hx hn hok hq hnq hqi hidw hmk
  go_enter Try.func3, Try.ntmps3
  go_upto_region 1 with fail
  generalize World.alloc w _ = w1 at *
  obtain ⟨b6, hb6⟩ : ∃ b, w.heap.size = b := ⟨_, rfl⟩
  rw [hb6] at HP1
  rw [hb6]
  clear hb6
  go_upto_region 3 with (go_at_call 4; refine (lives_any _).mono ?_; rintro e w2 ⟨rfl, hb2⟩; have HP2 := hide (HP1.out.step hb2); clear hb2)
  clear HB1 HP1
  obtain ⟨p0, p1, p2⟩ := HP2.out.cells
  go_wp2_with fail
  refine (HSm.out _ HP2.out.bel).mono ?_
  rintro e w3 ⟨⟨rfl, hs⟩ | ⟨rfl, hs⟩, hb3⟩
  case inr =>
    have HB3 := hide (Below.step HP2.out.bel hb3)
    clear hb3 hs
    go_wp2
    go_ret
    exact ⟨rfl, HB3.out⟩
  have HP3 := hide (HP2.out.step hb3)
  have HPw := hide (HPl.out hs)
  have HPN := hide (HPn.out hs)
  clear hb3 hs HPl HPn HSm HP2 p0 p1 p2
  by_cases h50 : 50 < nq
  · have e1 : decide ((50 : Int) < nq) = true := by simp; omega
    have e0 : decide (50 < nq) = true := by simp; omega
    go_wp2
    go_ret
    exact ⟨rfl, HP3.out.bel⟩
  have e1 : decide ((50 : Int) < nq) = false := by simp; omega
  have e0 : decide (50 < nq) = false := by simp; omega
  have h20 : nn ≤ 20 := HPw.out.n20
  obtain ⟨p0, p1, p2⟩ := HP3.out.cells
  go_upto_region 6 with fail
  go_wp2_with (go_at_call 6; refine (live_any (cN := cN) (en := en) (top := top) (HPN.out.at_ HP3.out.bel)).mono ?_; rintro e w4 ⟨A4, n4, c4, rfl, hl4, hc4, hc5, hr4, hb4⟩; have HL4 := hide hl4; have HK := hide (show ItB w w4 b6 #[.slice N nn cN, .int .i64 en, .int .i64 top] none 0 0 [] w4 from ⟨HP3.out.step hb4, ⟨[], World.ownsRow_nil _ _ _ _, RowX.nil⟩, Below.refl _ _, (Below.step HP3.out.bel hb4).size⟩); have HR4 := hide (hr4.rd fun d hd => hd.2); clear hl4 hr4 hb4)
  clear p0 p1 p2 HP3 e0 e1
  have h24 : n4 ≤ 20 := by have h := liveK_len ns ns.length; have := HL4.out; have := HPN.out.len; unfold liveF at *; omega
  go_loopw [13, 33] (fun v i wr => ∃ (k : Nat) (A : Option Addr) (c : Nat), k ≤ n4 ∧ i = .int .i64 k ∧ v = .slice A k c ∧ k ≤ c ∧ c ≤ 9223372036854775807 ∧ Hid (ItB w w4 b6 #[.slice N nn cN, .int .i64 en, .int .i64 top] A k c (itsF ns ((liveF ns).take k)) wr)) (fun _ i _ => n4 - (intOf i).toNat)
  case atStart => exact ⟨0, none, 0, by omega, rfl, rfl, by omega, by omega, HK⟩
  case round =>
    obtain ⟨k, A, c, hk, rfl, rfl, h1, h2, HB⟩ := hrel
    clear HK
    by_cases hlt : k < n4
    · have g0 : (0 : Int) ≤ k := by omega
      have g1 : (k : Int) < n4 := by omega
      obtain ⟨al, y, rfl, hal, hv, q0⟩ := RdR.icell (HR4.out.at_world HB.out.b4) (k := k) (by have := HL4.out; omega)
      have HSn := hide (its_snoc (ns := ns) hv)
      have hth := live_mem.1 (List.mem_of_getElem? hv)
      have hrg := there_lt hth
      obtain ⟨m, rfl⟩ : ∃ m : Nat, y = m := ⟨y.toNat, by omega⟩
      have hm1 : m < ns.length := by omega
      have m0 : (0 : Int) ≤ m := by omega
      have m1 : (m : Int) < nn := by have := HPN.out.len; omega
      obtain ⟨ad, x, V, cV, L, cL, hA, hbl, hkx, hcc⟩ := HPN.out.nd.node (k := m) hm1
      have HIt := hide (itemF_at hkx)
      have HAd := hide hA
      subst hA
      have hba : (ad.add (m * 7)).block = ad.block := block_of_add _ _
      have hcell : ∀ p : Addr, p.block = ad.block → wr.cell? p = w.cell? p := fun p hp => HB.out.p.bel.cell (by rw [hp]; exact hbl)
      have z0 := (hcell _ hba).trans hcc.c0
      have z1 := (hcell ⟨(ad.add (m * 7)).block, (ad.add (m * 7)).off + 1, none⟩ hba).trans hcc.c1
      have z2 := (hcell ⟨(ad.add (m * 7)).block, (ad.add (m * 7)).off + 2, none⟩ hba).trans hcc.c2
      obtain ⟨⟨id, vs, tg⟩, lv, ls, nx, pv⟩ := x
      simp only at z0 z1 z2
      have HRi := hide (item_of (x := (id, vs, tg)) hcc.v1 hcc.v2 hcc.v)
      have hv2 := hcc.v2
      obtain ⟨xs, hox, hrx⟩ := HB.out.own
      have HO := hide hox
      have HRx := hide hrx
      obtain ⟨p0, p1, p2⟩ := HB.out.p.cells
      clear hox hrx hcell hba hbl hkx hcc hth hrg hv
      obtain ⟨nv, hnv⟩ : ∃ n, vs.length = n := ⟨_, rfl⟩
      rw [hnv] at z1 HRi
      clear hnv
      go_wp2_with (at_builtin; go_loud (refine wpList_append_elem rfl (.tmp 37) (.tmp 44) 29 rfl w4.heap.size Try.underlying29 info_itemE rfl (by decide) (.slice A k c) k xs rfl HO.out _ _ rfl rfl (by simp [Value.oneCell']) (by simp only [maxLen]; omega) (by omega) HB.out.b4.size ?_; intro v9 w9 hown9 hgr9 hat9; obtain ⟨A8, c8, rfl, l1, l2⟩ := own_form hown9; have HB9 := hide (show ItB w w4 b6 #[.slice (some ad) nn cN, .int .i64 en, .int .i64 top] A8 (k + 1) c8 (itsF ns ((liveF ns).take (k + 1))) w9 from ItB.app HB.out HO.out HRx.out hgr9 hown9 HRi.out (by rw [HSn.out, HIt.out])); clear hown9 hgr9 hat9))
      go_roundw
      case rel => exact ⟨k + 1, A8, c8, by omega, by go_num, rfl, l1, l2, HB9⟩
      case measure => simp [intOf]; omega
    · obtain rfl : n4 = k := by omega
      have HIts := hide (show itsF ns ((liveF ns).take n4) = itsF ns (liveF ns) from by rw [List.take_of_length_le (by rw [HL4.out]; exact Nat.le_refl _)])
      rw [HIts.out] at HB
      obtain ⟨p0, p1, p2⟩ := HB.out.p.cells
      go_upto_region 11 with fail
      go_upto_region 12 with (go_at_call 7; refine (bFind_any (HPw.out.at_ HB.out.p.bel) (by omega) (mask := mask) (ef := ef) (cN := cN) (en := en) (top := top)).mono ?_; rintro e w5 ⟨l5, t5, k5, Af, nf, cf, rfl, hst, hlk, htl, hn6, hcf, hcm, hrf, hb5⟩; have HLf := hide htl; have HF := hide (show FoB w w4 b6 #[.slice N nn cN, .int .i64 en, .int .i64 top] A n4 c (itsF ns (liveF ns)) Af t5.2.2 w5 from ⟨HB.out.step hb5, hrf.rd fun d hd => hd.2⟩); have HFi := hide (find_le hlk); clear hst hlk htl hrf hb5)
      clear p0 p1 p2 HB HIts HR4
      have HFe := hide (show ∃ dn, BmI ns qs mask (mostB ef) t5 dn from by obtain ⟨dn, h1, _⟩ := HFi.out; exact ⟨dn, h1⟩)
      clear HFi
      have hnK : nf ≤ mostB ef := by obtain ⟨dn, h1⟩ := HFe.out; have := found_len h1; have := HLf.out; omega
      go_wp2
      go_loopw [54] (fun i wr => ∃ k : Nat, k ≤ nf ∧ i = .int .i64 k ∧ Hid (FoB w w4 b6 #[.slice N nn cN, .int .i64 en, .int .i64 top] A n4 c (itsF ns (liveF ns)) Af t5.2.2 wr)) (fun i _ => nf - (intOf i).toNat)
      case atStart => exact ⟨0, by omega, rfl, HF⟩
      case round =>
        obtain ⟨k, hk, rfl, HB⟩ := hrel
        clear HF
        by_cases hlt : k < nf
        · have g0 : (0 : Int) ≤ k := by omega
          have g1 : (k : Int) < nf := by omega
          obtain ⟨adf, s, hA, hbf, hs, q0, q1, q2⟩ := RdR.scell HB.out.f (k := k) (by have := HLf.out; omega)
          have HOk := hide (show thereF ns s.2 = true ∧ s = spotF ns qs s.2 ∧ tagF ns mask s.2 = true from by obtain ⟨dn, h1⟩ := HFe.out; exact found_ok h1 hs)
          have HS := hide hs
          subst hA
          have hrg := there_lt HOk.out.1
          obtain ⟨⟨d, id⟩, sl⟩ := s
          simp only at q0 q1 q2 hrg
          obtain ⟨m, rfl⟩ : ∃ m : Nat, sl = m := ⟨sl.toNat, by omega⟩
          have hm1 : m < ns.length := by omega
          have m0 : (0 : Int) ≤ m := by omega
          have m1 : (m : Int) < nn := by have := HPN.out.len; omega
          obtain ⟨ad, x, V, cV, L, cL, hA, hbl, hkx, hcc⟩ := HPN.out.nd.node (k := m) hm1
          have HBit := hide (show bits .and .u64 x.1.2.2 mask = mask from by
            have h := HOk.out.2.2
            unfold tagF at h
            rw [itemF_at hkx, ← has_same HMk.out] at h
            simpa using h)
          have HTg := hide hcc.c2
          have HBl := hide hbl
          subst hA
          obtain ⟨tg, htg⟩ : ∃ z, x.1.2.2 = z := ⟨_, rfl⟩
          rw [htg] at HBit HTg
          clear htg hkx hcc hbl hs hrg
          go_upto_region 15 with fail
          have HX := hide (show SpB w w4 b6 #[.slice (some ad) nn cN, .int .i64 en, .int .i64 top] A n4 c (itsF ns (liveF ns)) (some adf) t5.2.2 wr.heap.size ((d, id), (m : Int)) (wr.alloc (.cells #[.int .u64 d, .int .u64 id, .int .i64 (m : Int)] 42)) from ⟨HB.out.step (below1 _ _), Blk.new _ _ _⟩)
          clear q0 q1 q2 HB
          generalize World.alloc wr _ = w6 at *
          obtain ⟨bs, hbs⟩ : ∃ b, wr.heap.size = b := ⟨_, rfl⟩
          rw [hbs] at HX
          rw [hbs]
          clear hbs
          have HT := hide (fun (W : World) (h : SpB w w4 b6 #[.slice (some ad) nn cN, .int .i64 en, .int .i64 top] A n4 c (itsF ns (liveF ns)) (some adf) t5.2.2 bs ((d, id), (m : Int)) W) => show Calls Try.prog 8 #[.agg #[.slice (some ad) nn cN, .int .i64 en, .int .i64 top], .int .i64 (m : Int)] W fun e w' => e = .returned (.bool true) ∧ Below W.heap.size W w' from HOk.out.1 ▸ there_any (nn := nn) (cN := cN) (en := en) (top := top) (HPN.out.at_ h.f.i.p.bel).nd HPN.out.len (m : Int))
          have HWs := hide (fun (W : World) (h : SpB w w4 b6 #[.slice (some ad) nn cN, .int .i64 en, .int .i64 top] A n4 c (itsF ns (liveF ns)) (some adf) t5.2.2 bs ((d, id), (m : Int)) W) => show Calls Try.prog 9 #[.agg #[.slice (some ad) nn cN, .int .i64 en, .int .i64 top], .slice Aq nq cq, .int .i64 (m : Int)] W fun e w' => e = .returned (.agg #[.int .u64 d, .int .u64 id, .int .i64 (m : Int)]) ∧ Below W.heap.size W w' from by
            have h1 := (HPw.out.at_ h.f.i.p.bel).spot (cN := cN) (en := en) (top := top) (m : Int)
            have h2 : spotF ns qs (m : Int) = ((d, id), (m : Int)) := HOk.out.2.1.symm
            rw [h2] at h1
            exact h1)
          rcases k with _ | kp
          · have HXd := hide (HX.out.step (Below.refl _ _).drew)
            clear HX
            refine startO (S := (SpB w w4 b6 #[.slice (some ad) nn cN, .int .i64 en, .int .i64 top] A n4 c (itsF ns (liveF ns)) (some adf) t5.2.2 bs ((d, id), (m : Int)))) 42 (by as_aux_lemma => kernel_rfl) (by as_aux_lemma => kernel_rfl) HXd.out (fun hHeld => ?_)
            refine takeO 0 59 (.load 24 (.const (.pointer (some ⟨b6, 0, none⟩)))) 24 (.agg #[.slice (some ad) nn cN, .int .i64 en, .int .i64 top]) (by as_aux_lemma => kernel_rfl) (by as_aux_lemma => kernel_rfl) (by as_aux_lemma => kernel_rfl) (fun _ _ _ _ _ h => h) (fun W hS => by obtain ⟨z0, z1, z2⟩ := hS.f.cells; clear hS hHeld; unfold cEv opC; as_aux_lemma => first | (go_simp; done) | (go_simp <;> rfl)) hHeld ?_
            refine takeO 1 60 (.fieldAddr 42 (.const (.pointer (some ⟨bs, 0, none⟩))) 1) 0 (.pointer (some ⟨bs, 2, none⟩)) (by as_aux_lemma => kernel_rfl) (by as_aux_lemma => kernel_rfl) (by as_aux_lemma => kernel_rfl) (fun _ _ _ _ _ h => h) (fun W hS => by clear hS hHeld; unfold cEv opC; as_aux_lemma => first | (go_simp; done) | (go_simp <;> rfl)) hHeld ?_
            refine takeO 2 61 (.load 3 (.const (.pointer (some ⟨bs, 2, none⟩)))) 3 (.int .i64 (m : Int)) (by as_aux_lemma => kernel_rfl) (by as_aux_lemma => kernel_rfl) (by as_aux_lemma => kernel_rfl) (fun _ _ _ _ _ h => h) (fun W hS => by obtain ⟨z0, z1, z2⟩ := hS.s.cell3; clear hS hHeld; unfold cEv opC; as_aux_lemma => first | (go_simp; done) | (go_simp <;> rfl)) hHeld ?_
            refine readyO [3] (by as_aux_lemma => kernel_rfl) (by simp) ?_
            refine callO 3 62 (.call { callee := .value (.func 8), args := #[.const (.agg #[.slice (some ad) nn cN, .int .i64 en, .int .i64 top]), .const (.int .i64 (m : Int))], argTypes := #[24, 3] }) 4 8 #[.agg #[.slice (some ad) nn cN, .int .i64 en, .int .i64 top], .int .i64 (m : Int)] (by as_aux_lemma => kernel_rfl) (by as_aux_lemma => kernel_rfl) (by unfold cEv opC; go_simp) ?_ AllReadyH.nil
            refine (HT.out _ hHeld).mono ?_
            rintro e W1 ⟨rfl, hb1⟩
            refine ⟨_, rfl, (hHeld.step hb1), fun hHeld2 => ?_⟩
            clear hHeld
            have hHeld := hHeld2
            clear hHeld2
            refine putsO [4, 5, 8] [8, 5, 4] [(67, .slice Aq nq cq), (64, .bool false), (63, .bool false)] 3 rfl [63, 64, 67] (by as_aux_lemma => kernel_rfl) (by as_aux_lemma => kernel_rfl) rfl (fun _ _ _ _ _ h => h) hHeld ?_
            refine takeO 6 65 (.load 42 (.const (.pointer (some ⟨bs, 0, none⟩)))) 42 (.agg #[.int .u64 d, .int .u64 id, .int .i64 (m : Int)]) (by as_aux_lemma => kernel_rfl) (by as_aux_lemma => kernel_rfl) (by as_aux_lemma => kernel_rfl) (fun _ _ _ _ _ h => h) (fun W hS => by obtain ⟨z0, z1, z2⟩ := hS.s.cell3; clear hS hHeld; unfold cEv opC; as_aux_lemma => first | (go_simp; done) | (go_simp <;> rfl)) hHeld ?_
            refine takeO 7 66 (.load 24 (.const (.pointer (some ⟨b6, 0, none⟩)))) 24 (.agg #[.slice (some ad) nn cN, .int .i64 en, .int .i64 top]) (by as_aux_lemma => kernel_rfl) (by as_aux_lemma => kernel_rfl) (by as_aux_lemma => kernel_rfl) (fun _ _ _ _ _ h => h) (fun W hS => by obtain ⟨z0, z1, z2⟩ := hS.f.cells; clear hS hHeld; unfold cEv opC; as_aux_lemma => first | (go_simp; done) | (go_simp <;> rfl)) hHeld ?_
            refine takeO 9 68 (.fieldAddr 42 (.const (.pointer (some ⟨bs, 0, none⟩))) 1) 0 (.pointer (some ⟨bs, 2, none⟩)) (by as_aux_lemma => kernel_rfl) (by as_aux_lemma => kernel_rfl) (by as_aux_lemma => kernel_rfl) (fun _ _ _ _ _ h => h) (fun W hS => by clear hS hHeld; unfold cEv opC; as_aux_lemma => first | (go_simp; done) | (go_simp <;> rfl)) hHeld ?_
            refine takeO 10 69 (.load 3 (.const (.pointer (some ⟨bs, 2, none⟩)))) 3 (.int .i64 (m : Int)) (by as_aux_lemma => kernel_rfl) (by as_aux_lemma => kernel_rfl) (by as_aux_lemma => kernel_rfl) (fun _ _ _ _ _ h => h) (fun W hS => by obtain ⟨z0, z1, z2⟩ := hS.s.cell3; clear hS hHeld; unfold cEv opC; as_aux_lemma => first | (go_simp; done) | (go_simp <;> rfl)) hHeld ?_
            refine readyO [11] (by as_aux_lemma => kernel_rfl) (by simp) ?_
            refine callO 11 70 (.call { callee := .value (.func 9), args := #[.const (.agg #[.slice (some ad) nn cN, .int .i64 en, .int .i64 top]), .const (.slice Aq nq cq), .const (.int .i64 (m : Int))], argTypes := #[24, 25, 3] }) 42 9 #[.agg #[.slice (some ad) nn cN, .int .i64 en, .int .i64 top], .slice Aq nq cq, .int .i64 (m : Int)] (by as_aux_lemma => kernel_rfl) (by as_aux_lemma => kernel_rfl) (by unfold cEv opC; go_simp) ?_ AllReadyH.nil
            refine (HWs.out _ hHeld).mono ?_
            rintro e W2 ⟨rfl, hb2⟩
            refine ⟨_, rfl, (hHeld.step hb2), fun hHeld2 => ?_⟩
            clear hHeld
            have hHeld := hHeld2
            clear hHeld2
            refine takeO 12 71 (.binOp .neq 42 (.const (.agg #[.int .u64 d, .int .u64 id, .int .i64 (m : Int)])) (.const (.agg #[.int .u64 d, .int .u64 id, .int .i64 (m : Int)])) 42) 4 (.bool false) (by as_aux_lemma => kernel_rfl) (by as_aux_lemma => kernel_rfl) (by as_aux_lemma => kernel_rfl) (fun _ _ _ _ _ h => h) (fun W hS => by have he := run_neq_spot d id (m : Int) d id (m : Int) (r := true) (by simp); clear hS hHeld; unfold cEv opC; as_aux_lemma => first | (go_simp; done) | (go_simp <;> rfl)) hHeld ?_
            refine putsO [13, 14, 23, 25] [25, 23, 14, 13] [(84, .int .u64 mask), (82, .int .u64 mask), (73, .bool false), (72, .bool false)] 4 rfl [72, 73, 82, 84] (by as_aux_lemma => kernel_rfl) (by as_aux_lemma => kernel_rfl) rfl (fun _ _ _ _ _ h => h) hHeld ?_
            refine takeO 15 74 (.fieldAddr 24 (.const (.pointer (some ⟨b6, 0, none⟩))) 0) 0 (.pointer (some ⟨b6, 0, none⟩)) (by as_aux_lemma => kernel_rfl) (by as_aux_lemma => kernel_rfl) (by as_aux_lemma => kernel_rfl) (fun _ _ _ _ _ h => h) (fun W hS => by clear hS hHeld; unfold cEv opC; as_aux_lemma => first | (go_simp; done) | (go_simp <;> rfl)) hHeld ?_
            refine takeO 17 76 (.fieldAddr 42 (.const (.pointer (some ⟨bs, 0, none⟩))) 1) 0 (.pointer (some ⟨bs, 2, none⟩)) (by as_aux_lemma => kernel_rfl) (by as_aux_lemma => kernel_rfl) (by as_aux_lemma => kernel_rfl) (fun _ _ _ _ _ h => h) (fun W hS => by clear hS hHeld; unfold cEv opC; as_aux_lemma => first | (go_simp; done) | (go_simp <;> rfl)) hHeld ?_
            refine takeO 16 75 (.load 22 (.const (.pointer (some ⟨b6, 0, none⟩)))) 22 (.slice (some ad) nn cN) (by as_aux_lemma => kernel_rfl) (by as_aux_lemma => kernel_rfl) (by as_aux_lemma => kernel_rfl) (fun _ _ _ _ _ h => h) (fun W hS => by obtain ⟨z0, z1, z2⟩ := hS.f.cells; clear hS hHeld; unfold cEv opC; as_aux_lemma => first | (go_simp; done) | (go_simp <;> rfl)) hHeld ?_
            refine takeO 18 77 (.load 3 (.const (.pointer (some ⟨bs, 2, none⟩)))) 3 (.int .i64 (m : Int)) (by as_aux_lemma => kernel_rfl) (by as_aux_lemma => kernel_rfl) (by as_aux_lemma => kernel_rfl) (fun _ _ _ _ _ h => h) (fun W hS => by obtain ⟨z0, z1, z2⟩ := hS.s.cell3; clear hS hHeld; unfold cEv opC; as_aux_lemma => first | (go_simp; done) | (go_simp <;> rfl)) hHeld ?_
            refine takeO 19 78 (.indexAddr 22 (.const (.slice (some ad) nn cN)) (.const (.int .i64 (m : Int)))) 0 (.pointer (some (ad.add (m * 7)))) (by as_aux_lemma => kernel_rfl) (by as_aux_lemma => kernel_rfl) (by as_aux_lemma => kernel_rfl) (fun _ _ _ _ _ h => h) (fun W hS => by have m0 : (0 : Int) ≤ m := (by omega); clear hS hHeld; unfold cEv opC; as_aux_lemma => first | (go_simp; done) | (go_simp <;> rfl)) hHeld ?_
            refine takeO 20 79 (.fieldAddr 36 (.const (.pointer (some (ad.add (m * 7))))) 0) 0 (.pointer (some (ad.add (m * 7)))) (by as_aux_lemma => kernel_rfl) (by as_aux_lemma => kernel_rfl) (by as_aux_lemma => kernel_rfl) (fun _ _ _ _ _ h => h) (fun W hS => by clear hS hHeld; unfold cEv opC; as_aux_lemma => first | (go_simp; done) | (go_simp <;> rfl)) hHeld ?_
            refine takeO 21 80 (.fieldAddr 33 (.const (.pointer (some (ad.add (m * 7))))) 2) 0 (.pointer (some ⟨(ad.add (m * 7)).block, (ad.add (m * 7)).off + 2, none⟩)) (by as_aux_lemma => kernel_rfl) (by as_aux_lemma => kernel_rfl) (by as_aux_lemma => kernel_rfl) (fun _ _ _ _ _ h => h) (fun W hS => by clear hS hHeld; unfold cEv opC; as_aux_lemma => first | (go_simp; done) | (go_simp <;> rfl)) hHeld ?_
            refine takeO 22 81 (.load 26 (.const (.pointer (some ⟨(ad.add (m * 7)).block, (ad.add (m * 7)).off + 2, none⟩)))) 26 (.int .u64 tg) (by as_aux_lemma => kernel_rfl) (by as_aux_lemma => kernel_rfl) (by as_aux_lemma => kernel_rfl) (fun _ _ _ _ _ h => h) (fun W hS => by have z0 := (hS.f.i.p.bel.cell (p := ⟨(ad.add (m * 7)).block, (ad.add (m * 7)).off + 2, none⟩) (by show (ad.add (m * 7)).block < _; rw [block_of_add]; exact HBl.out)).trans HTg.out; clear hS hHeld; unfold cEv opC; as_aux_lemma => first | (go_simp; done) | (go_simp <;> rfl)) hHeld ?_
            refine takeO 24 83 (.binOp .and 26 (.const (.int .u64 tg)) (.const (.int .u64 mask)) 26) 26 (.int .u64 mask) (by as_aux_lemma => kernel_rfl) (by as_aux_lemma => kernel_rfl) (by as_aux_lemma => kernel_rfl) (fun _ _ _ _ _ h => h) (fun W hS => by have hb := HBit.out; clear hS hHeld; unfold cEv opC; as_aux_lemma => first | (go_simp; done) | (go_simp <;> rfl)) hHeld ?_
            refine takeO 26 85 (.binOp .neq 26 (.const (.int .u64 mask)) (.const (.int .u64 mask)) 26) 4 (.bool false) (by as_aux_lemma => kernel_rfl) (by as_aux_lemma => kernel_rfl) (by as_aux_lemma => kernel_rfl) (fun _ _ _ _ _ h => h) (fun W hS => by clear hS hHeld; unfold cEv opC; as_aux_lemma => first | (go_simp; done) | (go_simp <;> rfl)) hHeld ?_
            refine putsO [27, 28, 29] [29, 28, 27] [(88, .int .i64 0), (87, .bool false), (86, .bool false)] 3 rfl [86, 87, 88] (by as_aux_lemma => kernel_rfl) (by as_aux_lemma => kernel_rfl) rfl (fun _ _ _ _ _ h => h) hHeld ?_
            refine takeO 30 89 (.binOp .gtr 3 (.const (.int .i64 0)) (.const (.int .i64 0)) 3) 4 (.bool false) (by as_aux_lemma => kernel_rfl) (by as_aux_lemma => kernel_rfl) (by as_aux_lemma => kernel_rfl) (fun _ _ _ _ _ h => h) (fun W hS => by clear hS hHeld; unfold cEv opC; as_aux_lemma => first | (go_simp; done) | (go_simp <;> rfl)) hHeld ?_
            refine putsO [31, 32, 33, 37, 34, 35, 36, 38, 39, 40, 41] [41, 40, 39, 38, 36, 35, 34, 37, 33, 32, 31] [(100, .bool false), (99, .bool false), (98, undef), (97, undef), (95, undef), (94, undef), (93, undef), (96, undef), (92, undef), (91, undef), (90, .bool false)] 11 rfl [90, 91, 92, 96, 93, 94, 95, 97, 98, 99, 100] (by as_aux_lemma => kernel_rfl) (by as_aux_lemma => kernel_rfl) rfl (fun _ _ _ _ _ h => h) hHeld ?_
            refine doneO [(59, .agg #[.slice (some ad) nn cN, .int .i64 en, .int .i64 top]), (0, .pointer (some ⟨bs, 2, none⟩)), (0, .int .i64 (m : Int)), (0, .bool true), (0, .bool false), (0, .bool false), (0, .agg #[.int .u64 d, .int .u64 id, .int .i64 (m : Int)]), (0, .agg #[.slice (some ad) nn cN, .int .i64 en, .int .i64 top]), (0, .slice Aq nq cq), (0, .pointer (some ⟨bs, 2, none⟩)), (0, .int .i64 (m : Int)), (0, .agg #[.int .u64 d, .int .u64 id, .int .i64 (m : Int)]), (0, .bool false), (0, .bool false), (0, .bool false), (0, .pointer (some ⟨b6, 0, none⟩)), (0, .slice (some ad) nn cN), (0, .pointer (some ⟨bs, 2, none⟩)), (0, .int .i64 (m : Int)), (0, .pointer (some (ad.add (m * 7)))), (0, .pointer (some (ad.add (m * 7)))), (0, .pointer (some ⟨(ad.add (m * 7)).block, (ad.add (m * 7)).off + 2, none⟩)), (0, .int .u64 tg), (0, .int .u64 mask), (0, .int .u64 mask), (0, .int .u64 mask), (0, .bool false), (0, .bool false), (0, .bool false), (0, .int .i64 0), (0, .bool false), (0, .bool false), (0, undef), (0, undef), (0, undef), (0, undef), (0, undef), (0, undef), (0, undef), (0, undef), (0, .bool false), (0, .bool false)] (by as_aux_lemma => kernel_rfl) (by as_aux_lemma => kernel_rfl) ?_
            simp only [fillG]
            have HLd := hide hHeld.f
            clear hHeld HXd HT HWs
            go_wp2
            go_roundw
            case rel => exact ⟨1, by omega, by go_num, HLd⟩
            case measure => simp [intOf]; omega
          · have HRs := hide (show ∃ y, t5.2.2[kp]? = some y ∧ sptLt y ((d, id), (m : Int)) = true from ⟨_, List.getElem?_eq_getElem (by have := HLf.out; omega), by
              obtain ⟨dn, h1⟩ := HFe.out
              exact found_rise h1 (List.getElem?_eq_getElem (by have := HLf.out; omega)) HS.out⟩)
            obtain ⟨⟨⟨yd, yid⟩, ysl⟩, hy, hlt2⟩ := HRs.out
            have HY := hide hy
            have HRk := hide (fun (W : World) => show Calls Try.prog 10 #[.agg #[.int .u64 yd, .int .u64 yid, .int .i64 ysl], .agg #[.int .u64 d, .int .u64 id, .int .i64 (m : Int)]] W fun e w' => e = .returned (.bool true) ∧ Below W.heap.size W w' from rSpotB ((yd, yid), ysl) ((d, id), (m : Int)) hlt2 W)
            clear hy hlt2 HRs
            have k0 : (0 : Int) ≤ kp := by omega
            have k1 : (kp : Int) < nf := by omega
            simp only [Int.natCast_add, Int.cast_ofNat_Int, Int.natCast_one]
            have HXd := hide (HX.out.step (Below.refl _ _).drew)
            clear HX
            refine startO (S := (SpB w w4 b6 #[.slice (some ad) nn cN, .int .i64 en, .int .i64 top] A n4 c (itsF ns (liveF ns)) (some adf) t5.2.2 bs ((d, id), (m : Int)))) 42 (by as_aux_lemma => kernel_rfl) (by as_aux_lemma => kernel_rfl) HXd.out (fun hHeld => ?_)
            refine takeO 0 59 (.load 24 (.const (.pointer (some ⟨b6, 0, none⟩)))) 24 (.agg #[.slice (some ad) nn cN, .int .i64 en, .int .i64 top]) (by as_aux_lemma => kernel_rfl) (by as_aux_lemma => kernel_rfl) (by as_aux_lemma => kernel_rfl) (fun _ _ _ _ _ h => h) (fun W hS => by obtain ⟨z0, z1, z2⟩ := hS.f.cells; clear hS hHeld; unfold cEv opC; as_aux_lemma => first | (go_simp; done) | (go_simp <;> rfl)) hHeld ?_
            refine takeO 1 60 (.fieldAddr 42 (.const (.pointer (some ⟨bs, 0, none⟩))) 1) 0 (.pointer (some ⟨bs, 2, none⟩)) (by as_aux_lemma => kernel_rfl) (by as_aux_lemma => kernel_rfl) (by as_aux_lemma => kernel_rfl) (fun _ _ _ _ _ h => h) (fun W hS => by clear hS hHeld; unfold cEv opC; as_aux_lemma => first | (go_simp; done) | (go_simp <;> rfl)) hHeld ?_
            refine takeO 2 61 (.load 3 (.const (.pointer (some ⟨bs, 2, none⟩)))) 3 (.int .i64 (m : Int)) (by as_aux_lemma => kernel_rfl) (by as_aux_lemma => kernel_rfl) (by as_aux_lemma => kernel_rfl) (fun _ _ _ _ _ h => h) (fun W hS => by obtain ⟨z0, z1, z2⟩ := hS.s.cell3; clear hS hHeld; unfold cEv opC; as_aux_lemma => first | (go_simp; done) | (go_simp <;> rfl)) hHeld ?_
            refine readyO [3] (by as_aux_lemma => kernel_rfl) (by simp) ?_
            refine callO 3 62 (.call { callee := .value (.func 8), args := #[.const (.agg #[.slice (some ad) nn cN, .int .i64 en, .int .i64 top]), .const (.int .i64 (m : Int))], argTypes := #[24, 3] }) 4 8 #[.agg #[.slice (some ad) nn cN, .int .i64 en, .int .i64 top], .int .i64 (m : Int)] (by as_aux_lemma => kernel_rfl) (by as_aux_lemma => kernel_rfl) (by unfold cEv opC; go_simp) ?_ AllReadyH.nil
            refine (HT.out _ hHeld).mono ?_
            rintro e W1 ⟨rfl, hb1⟩
            refine ⟨_, rfl, (hHeld.step hb1), fun hHeld2 => ?_⟩
            clear hHeld
            have hHeld := hHeld2
            clear hHeld2
            refine putsO [4, 5, 8] [8, 5, 4] [(67, .slice Aq nq cq), (64, .bool false), (63, .bool false)] 3 rfl [63, 64, 67] (by as_aux_lemma => kernel_rfl) (by as_aux_lemma => kernel_rfl) rfl (fun _ _ _ _ _ h => h) hHeld ?_
            refine takeO 6 65 (.load 42 (.const (.pointer (some ⟨bs, 0, none⟩)))) 42 (.agg #[.int .u64 d, .int .u64 id, .int .i64 (m : Int)]) (by as_aux_lemma => kernel_rfl) (by as_aux_lemma => kernel_rfl) (by as_aux_lemma => kernel_rfl) (fun _ _ _ _ _ h => h) (fun W hS => by obtain ⟨z0, z1, z2⟩ := hS.s.cell3; clear hS hHeld; unfold cEv opC; as_aux_lemma => first | (go_simp; done) | (go_simp <;> rfl)) hHeld ?_
            refine takeO 7 66 (.load 24 (.const (.pointer (some ⟨b6, 0, none⟩)))) 24 (.agg #[.slice (some ad) nn cN, .int .i64 en, .int .i64 top]) (by as_aux_lemma => kernel_rfl) (by as_aux_lemma => kernel_rfl) (by as_aux_lemma => kernel_rfl) (fun _ _ _ _ _ h => h) (fun W hS => by obtain ⟨z0, z1, z2⟩ := hS.f.cells; clear hS hHeld; unfold cEv opC; as_aux_lemma => first | (go_simp; done) | (go_simp <;> rfl)) hHeld ?_
            refine takeO 9 68 (.fieldAddr 42 (.const (.pointer (some ⟨bs, 0, none⟩))) 1) 0 (.pointer (some ⟨bs, 2, none⟩)) (by as_aux_lemma => kernel_rfl) (by as_aux_lemma => kernel_rfl) (by as_aux_lemma => kernel_rfl) (fun _ _ _ _ _ h => h) (fun W hS => by clear hS hHeld; unfold cEv opC; as_aux_lemma => first | (go_simp; done) | (go_simp <;> rfl)) hHeld ?_
            refine takeO 10 69 (.load 3 (.const (.pointer (some ⟨bs, 2, none⟩)))) 3 (.int .i64 (m : Int)) (by as_aux_lemma => kernel_rfl) (by as_aux_lemma => kernel_rfl) (by as_aux_lemma => kernel_rfl) (fun _ _ _ _ _ h => h) (fun W hS => by obtain ⟨z0, z1, z2⟩ := hS.s.cell3; clear hS hHeld; unfold cEv opC; as_aux_lemma => first | (go_simp; done) | (go_simp <;> rfl)) hHeld ?_
            refine readyO [11] (by as_aux_lemma => kernel_rfl) (by simp) ?_
            refine callO 11 70 (.call { callee := .value (.func 9), args := #[.const (.agg #[.slice (some ad) nn cN, .int .i64 en, .int .i64 top]), .const (.slice Aq nq cq), .const (.int .i64 (m : Int))], argTypes := #[24, 25, 3] }) 42 9 #[.agg #[.slice (some ad) nn cN, .int .i64 en, .int .i64 top], .slice Aq nq cq, .int .i64 (m : Int)] (by as_aux_lemma => kernel_rfl) (by as_aux_lemma => kernel_rfl) (by unfold cEv opC; go_simp) ?_ AllReadyH.nil
            refine (HWs.out _ hHeld).mono ?_
            rintro e W2 ⟨rfl, hb2⟩
            refine ⟨_, rfl, (hHeld.step hb2), fun hHeld2 => ?_⟩
            clear hHeld
            have hHeld := hHeld2
            clear hHeld2
            refine takeO 12 71 (.binOp .neq 42 (.const (.agg #[.int .u64 d, .int .u64 id, .int .i64 (m : Int)])) (.const (.agg #[.int .u64 d, .int .u64 id, .int .i64 (m : Int)])) 42) 4 (.bool false) (by as_aux_lemma => kernel_rfl) (by as_aux_lemma => kernel_rfl) (by as_aux_lemma => kernel_rfl) (fun _ _ _ _ _ h => h) (fun W hS => by have he := run_neq_spot d id (m : Int) d id (m : Int) (r := true) (by simp); clear hS hHeld; unfold cEv opC; as_aux_lemma => first | (go_simp; done) | (go_simp <;> rfl)) hHeld ?_
            refine putsO [13, 14, 23, 25] [25, 23, 14, 13] [(84, .int .u64 mask), (82, .int .u64 mask), (73, .bool false), (72, .bool false)] 4 rfl [72, 73, 82, 84] (by as_aux_lemma => kernel_rfl) (by as_aux_lemma => kernel_rfl) rfl (fun _ _ _ _ _ h => h) hHeld ?_
            refine takeO 15 74 (.fieldAddr 24 (.const (.pointer (some ⟨b6, 0, none⟩))) 0) 0 (.pointer (some ⟨b6, 0, none⟩)) (by as_aux_lemma => kernel_rfl) (by as_aux_lemma => kernel_rfl) (by as_aux_lemma => kernel_rfl) (fun _ _ _ _ _ h => h) (fun W hS => by clear hS hHeld; unfold cEv opC; as_aux_lemma => first | (go_simp; done) | (go_simp <;> rfl)) hHeld ?_
            refine takeO 17 76 (.fieldAddr 42 (.const (.pointer (some ⟨bs, 0, none⟩))) 1) 0 (.pointer (some ⟨bs, 2, none⟩)) (by as_aux_lemma => kernel_rfl) (by as_aux_lemma => kernel_rfl) (by as_aux_lemma => kernel_rfl) (fun _ _ _ _ _ h => h) (fun W hS => by clear hS hHeld; unfold cEv opC; as_aux_lemma => first | (go_simp; done) | (go_simp <;> rfl)) hHeld ?_
            refine takeO 16 75 (.load 22 (.const (.pointer (some ⟨b6, 0, none⟩)))) 22 (.slice (some ad) nn cN) (by as_aux_lemma => kernel_rfl) (by as_aux_lemma => kernel_rfl) (by as_aux_lemma => kernel_rfl) (fun _ _ _ _ _ h => h) (fun W hS => by obtain ⟨z0, z1, z2⟩ := hS.f.cells; clear hS hHeld; unfold cEv opC; as_aux_lemma => first | (go_simp; done) | (go_simp <;> rfl)) hHeld ?_
            refine takeO 18 77 (.load 3 (.const (.pointer (some ⟨bs, 2, none⟩)))) 3 (.int .i64 (m : Int)) (by as_aux_lemma => kernel_rfl) (by as_aux_lemma => kernel_rfl) (by as_aux_lemma => kernel_rfl) (fun _ _ _ _ _ h => h) (fun W hS => by obtain ⟨z0, z1, z2⟩ := hS.s.cell3; clear hS hHeld; unfold cEv opC; as_aux_lemma => first | (go_simp; done) | (go_simp <;> rfl)) hHeld ?_
            refine takeO 19 78 (.indexAddr 22 (.const (.slice (some ad) nn cN)) (.const (.int .i64 (m : Int)))) 0 (.pointer (some (ad.add (m * 7)))) (by as_aux_lemma => kernel_rfl) (by as_aux_lemma => kernel_rfl) (by as_aux_lemma => kernel_rfl) (fun _ _ _ _ _ h => h) (fun W hS => by have m0 : (0 : Int) ≤ m := (by omega); clear hS hHeld; unfold cEv opC; as_aux_lemma => first | (go_simp; done) | (go_simp <;> rfl)) hHeld ?_
            refine takeO 20 79 (.fieldAddr 36 (.const (.pointer (some (ad.add (m * 7))))) 0) 0 (.pointer (some (ad.add (m * 7)))) (by as_aux_lemma => kernel_rfl) (by as_aux_lemma => kernel_rfl) (by as_aux_lemma => kernel_rfl) (fun _ _ _ _ _ h => h) (fun W hS => by clear hS hHeld; unfold cEv opC; as_aux_lemma => first | (go_simp; done) | (go_simp <;> rfl)) hHeld ?_
            refine takeO 21 80 (.fieldAddr 33 (.const (.pointer (some (ad.add (m * 7))))) 2) 0 (.pointer (some ⟨(ad.add (m * 7)).block, (ad.add (m * 7)).off + 2, none⟩)) (by as_aux_lemma => kernel_rfl) (by as_aux_lemma => kernel_rfl) (by as_aux_lemma => kernel_rfl) (fun _ _ _ _ _ h => h) (fun W hS => by clear hS hHeld; unfold cEv opC; as_aux_lemma => first | (go_simp; done) | (go_simp <;> rfl)) hHeld ?_
            refine takeO 22 81 (.load 26 (.const (.pointer (some ⟨(ad.add (m * 7)).block, (ad.add (m * 7)).off + 2, none⟩)))) 26 (.int .u64 tg) (by as_aux_lemma => kernel_rfl) (by as_aux_lemma => kernel_rfl) (by as_aux_lemma => kernel_rfl) (fun _ _ _ _ _ h => h) (fun W hS => by have z0 := (hS.f.i.p.bel.cell (p := ⟨(ad.add (m * 7)).block, (ad.add (m * 7)).off + 2, none⟩) (by show (ad.add (m * 7)).block < _; rw [block_of_add]; exact HBl.out)).trans HTg.out; clear hS hHeld; unfold cEv opC; as_aux_lemma => first | (go_simp; done) | (go_simp <;> rfl)) hHeld ?_
            refine takeO 24 83 (.binOp .and 26 (.const (.int .u64 tg)) (.const (.int .u64 mask)) 26) 26 (.int .u64 mask) (by as_aux_lemma => kernel_rfl) (by as_aux_lemma => kernel_rfl) (by as_aux_lemma => kernel_rfl) (fun _ _ _ _ _ h => h) (fun W hS => by have hb := HBit.out; clear hS hHeld; unfold cEv opC; as_aux_lemma => first | (go_simp; done) | (go_simp <;> rfl)) hHeld ?_
            refine takeO 26 85 (.binOp .neq 26 (.const (.int .u64 mask)) (.const (.int .u64 mask)) 26) 4 (.bool false) (by as_aux_lemma => kernel_rfl) (by as_aux_lemma => kernel_rfl) (by as_aux_lemma => kernel_rfl) (fun _ _ _ _ _ h => h) (fun W hS => by clear hS hHeld; unfold cEv opC; as_aux_lemma => first | (go_simp; done) | (go_simp <;> rfl)) hHeld ?_
            refine putsO [27, 28, 29] [29, 28, 27] [(88, .int .i64 ((kp : Int) + 1)), (87, .bool false), (86, .bool false)] 3 rfl [86, 87, 88] (by as_aux_lemma => kernel_rfl) (by as_aux_lemma => kernel_rfl) rfl (fun _ _ _ _ _ h => h) hHeld ?_
            refine takeO 30 89 (.binOp .gtr 3 (.const (.int .i64 ((kp : Int) + 1))) (.const (.int .i64 0)) 3) 4 (.bool true) (by as_aux_lemma => kernel_rfl) (by as_aux_lemma => kernel_rfl) (by as_aux_lemma => kernel_rfl) (fun _ _ _ _ _ h => h) (fun W hS => by have k2 : (0 : Int) < (kp : Int) + 1 := (by omega); clear hS hHeld; unfold cEv opC; as_aux_lemma => first | (go_simp; done) | (go_simp <;> rfl)) hHeld ?_
            refine putsO [31, 32, 33] [33, 32, 31] [(92, .int .i64 ((kp : Int) + 1)), (91, .slice (some adf) nf cf), (90, .bool true)] 3 rfl [90, 91, 92] (by as_aux_lemma => kernel_rfl) (by as_aux_lemma => kernel_rfl) rfl (fun _ _ _ _ _ h => h) hHeld ?_
            refine takeO 34 93 (.binOp .sub 3 (.const (.int .i64 ((kp : Int) + 1))) (.const (.int .i64 1)) 3) 3 (.int .i64 (kp : Int)) (by as_aux_lemma => kernel_rfl) (by as_aux_lemma => kernel_rfl) (by as_aux_lemma => kernel_rfl) (fun _ _ _ _ _ h => h) (fun W hS => by have hw : IntKind.i64.wrap ((kp : Int) + 1 - 1) = (kp : Int) := (by rw [Int.add_sub_cancel]; exact IntWalk.i64_in _ (by omega)); have hw2 : IntKind.i64.wrap (kp : Int) = (kp : Int) := IntWalk.i64_in _ (by omega); clear hS hHeld; unfold cEv opC; as_aux_lemma => first | (go_simp; done) | (go_simp <;> rfl)) hHeld ?_
            refine takeO 37 96 (.load 42 (.const (.pointer (some ⟨bs, 0, none⟩)))) 42 (.agg #[.int .u64 d, .int .u64 id, .int .i64 (m : Int)]) (by as_aux_lemma => kernel_rfl) (by as_aux_lemma => kernel_rfl) (by as_aux_lemma => kernel_rfl) (fun _ _ _ _ _ h => h) (fun W hS => by obtain ⟨z0, z1, z2⟩ := hS.s.cell3; clear hS hHeld; unfold cEv opC; as_aux_lemma => first | (go_simp; done) | (go_simp <;> rfl)) hHeld ?_
            refine takeO 35 94 (.indexAddr 37 (.const (.slice (some adf) nf cf)) (.const (.int .i64 (kp : Int)))) 0 (.pointer (some (adf.add (kp * 3)))) (by as_aux_lemma => kernel_rfl) (by as_aux_lemma => kernel_rfl) (by as_aux_lemma => kernel_rfl) (fun _ _ _ _ _ h => h) (fun W hS => by clear hS hHeld; unfold cEv opC; as_aux_lemma => first | (go_simp; done) | (go_simp <;> rfl)) hHeld ?_
            refine takeO 36 95 (.load 42 (.const (.pointer (some (adf.add (kp * 3)))))) 42 (.agg #[.int .u64 yd, .int .u64 yid, .int .i64 ysl]) (by as_aux_lemma => kernel_rfl) (by as_aux_lemma => kernel_rfl) (by as_aux_lemma => kernel_rfl) (fun _ _ _ _ _ h => h) (fun W hS => by obtain ⟨z0, z1, z2⟩ := RdR.sAt hS.f.f HY.out; clear hS hHeld; unfold cEv opC; as_aux_lemma => first | (go_simp; done) | (go_simp <;> rfl)) hHeld ?_
            refine readyO [38] (by as_aux_lemma => kernel_rfl) (by simp) ?_
            refine callO 38 97 (.call { callee := .value (.func 10), args := #[.const (.agg #[.int .u64 yd, .int .u64 yid, .int .i64 ysl]), .const (.agg #[.int .u64 d, .int .u64 id, .int .i64 (m : Int)])], argTypes := #[42, 42] }) 4 10 #[.agg #[.int .u64 yd, .int .u64 yid, .int .i64 ysl], .agg #[.int .u64 d, .int .u64 id, .int .i64 (m : Int)]] (by as_aux_lemma => kernel_rfl) (by as_aux_lemma => kernel_rfl) (by unfold cEv opC; go_simp) ?_ AllReadyH.nil
            refine (HRk.out _).mono ?_
            rintro e W3 ⟨rfl, hb3⟩
            refine ⟨_, rfl, (hHeld.step hb3), fun hHeld2 => ?_⟩
            clear hHeld
            have hHeld := hHeld2
            clear hHeld2
            refine putsO [39, 40, 41] [41, 40, 39] [(100, .bool false), (99, .bool false), (98, .bool false)] 3 rfl [98, 99, 100] (by as_aux_lemma => kernel_rfl) (by as_aux_lemma => kernel_rfl) rfl (fun _ _ _ _ _ h => h) hHeld ?_
            refine doneO [(59, .agg #[.slice (some ad) nn cN, .int .i64 en, .int .i64 top]), (0, .pointer (some ⟨bs, 2, none⟩)), (0, .int .i64 (m : Int)), (0, .bool true), (0, .bool false), (0, .bool false), (0, .agg #[.int .u64 d, .int .u64 id, .int .i64 (m : Int)]), (0, .agg #[.slice (some ad) nn cN, .int .i64 en, .int .i64 top]), (0, .slice Aq nq cq), (0, .pointer (some ⟨bs, 2, none⟩)), (0, .int .i64 (m : Int)), (0, .agg #[.int .u64 d, .int .u64 id, .int .i64 (m : Int)]), (0, .bool false), (0, .bool false), (0, .bool false), (0, .pointer (some ⟨b6, 0, none⟩)), (0, .slice (some ad) nn cN), (0, .pointer (some ⟨bs, 2, none⟩)), (0, .int .i64 (m : Int)), (0, .pointer (some (ad.add (m * 7)))), (0, .pointer (some (ad.add (m * 7)))), (0, .pointer (some ⟨(ad.add (m * 7)).block, (ad.add (m * 7)).off + 2, none⟩)), (0, .int .u64 tg), (0, .int .u64 mask), (0, .int .u64 mask), (0, .int .u64 mask), (0, .bool false), (0, .bool false), (0, .bool false), (0, .int .i64 ((kp : Int) + 1)), (0, .bool true), (0, .bool true), (0, .slice (some adf) nf cf), (0, .int .i64 ((kp : Int) + 1)), (0, .int .i64 (kp : Int)), (0, .pointer (some (adf.add (kp * 3)))), (0, .agg #[.int .u64 yd, .int .u64 yid, .int .i64 ysl]), (0, .agg #[.int .u64 d, .int .u64 id, .int .i64 (m : Int)]), (0, .bool true), (0, .bool false), (0, .bool false), (0, .bool false)] (by as_aux_lemma => kernel_rfl) (by as_aux_lemma => kernel_rfl) ?_
            simp only [fillG]
            have HLd := hide hHeld.f
            clear hHeld HXd HT HWs HRk
            go_wp2
            go_roundw
            case rel => exact ⟨kp + 1 + 1, by omega, by go_num, HLd⟩
            case measure => simp [intOf]; omega
        · obtain rfl : nf = k := by omega
          have hM1 : ¬ (max 0 (min ef 4096) < (nf : Int)) := by unfold mostB at hnK; omega
          have hM2 : decide (max 0 (min ef 4096) < (nf : Int)) = false := decide_eq_false hM1
          obtain ⟨p0, p1, p2⟩ := HB.out.cells
          go_upto_region 18 with fail
          go_upto_region 20 with (go_at_call 11; refine (bCost_any (HPw.out.at_ HB.out.i.p.bel) (by omega) (mask := mask) (ef := ef) (cN := cN) (en := en) (top := top)).mono ?_; rintro e w6 ⟨l6, t6, k6, rfl, hst, hlk, hb6⟩; have HC := hide (HB.out.i.step hb6); have hk6 : k6 ≤ n4 := (by obtain ⟨dn, h1, h2⟩ := find_le hlk; have := h1.dn_le; have := HL4.out; omega); have hk7 : decide ((n4 : Int) < k6) = false := (by simp; omega); have hk8 : decide (n4 < k6) = false := (by simp; omega); clear hst hlk hb6)
          clear p0 p1 p2 HB hM1 hM2 hk7 hk8
          obtain ⟨p0, p1, p2⟩ := HC.out.p.cells
          by_cases hck : CheckP ns en top links
          case neg =>
            have HNo := hide hck
            clear hck
            go_wp2_with (go_at_call 12; refine (check_any (cN := cN) (en := en) (top := top) (HPN.out.at_ HC.out.p.bel) links).mono ?_; rintro e w7 ⟨⟨r, rfl, hr, hr7⟩, hb7⟩; obtain rfl : r = 7 := hr7.resolve_left (fun h => HNo.out (hr.1 h)); have HB7 := hide (Below.step HC.out.p.bel hb7); clear hr hr7 hb7)
            go_ret
            exact ⟨rfl, HB7.out⟩
          have HCk := hide hck
          clear hck
          go_upto_region 22 with (go_at_call 12; refine (check_any (cN := cN) (en := en) (top := top) (HPN.out.at_ HC.out.p.bel) links).mono ?_; rintro e w7 ⟨⟨r, rfl, hr, hr7⟩, hb7⟩; obtain rfl : r = 0 := hr.2 HCk.out; have HC7 := hide (HC.out.step hb7); clear hr hr7 hb7)
          clear p0 p1 p2 HC
          go_upto_region 23 with fail
          obtain ⟨p0, p1, p2⟩ := HC7.out.p.cells
          obtain ⟨mx, hmx⟩ : ∃ z, max ef (n4 : Int) = z := ⟨_, rfl⟩
          have HMx := hide hmx
          rw [hmx]
          clear hmx
          go_wp2_with fail
          refine (bSearch_any (HPw.out.at_ HC7.out.p.bel) (by omega) kk (mask := mask) (ef := mx) (cN := cN) (en := en) (top := top)).mono ?_
          rintro e w8 ⟨l8, t8, k8, A8, n8, c8, rfl, hst, hlk, hn8, hn86, hc8, hm8, hr8, hb8⟩
          have HH := hide (show (t8.2.2.take kk.toNat).map (·.1) = (hitsM qs mask (itsF ns (liveF ns))).take kk.toNat from by
            have hK : (liveF ns).length ≤ mostB (max kk mx) := by rw [HL4.out, ← HMx.out]; exact most_ge (by omega)
            obtain ⟨dn, h1, _, _, h4, _⟩ := know_all HCk.out (start_near hst) hK hlk
            exact found_all h1 h4 hK kk.toNat)
          rw [HH.out] at hn8 hr8
          have HN8 := hide hn8
          have HR8 := hide (hr8.rd fun d hd => hd.2)
          have HC8 := hide (HC7.out.step hb8)
          clear hst hlk hn8 hr8 hb8 HH HC7 p0 p1 p2
          go_wp2_with fail
          have HIs := hide (show ItsI (itsF ns (liveF ns)) from by
            intro it hit
            obtain ⟨x, hx, rfl⟩ := List.mem_map.1 hit
            have h := there_lt (live_mem.1 hx)
            obtain ⟨m, rfl⟩ : ∃ m : Nat, x = m := ⟨x.toNat, by omega⟩
            obtain ⟨y, hy⟩ : ∃ y, ns[m]? = some y := ⟨_, List.getElem?_eq_getElem (by omega)⟩
            rw [itemF_at hy]
            exact (HPN.out.ok y (List.mem_of_getElem? hy)).v)
          refine (search_any A Aq n4 c nq cq (itsF ns (liveF ns)) qs mask kk w8 HC8.out.rd (by unfold itsF; rw [List.length_map]; exact HL4.out) HIs.out h1 h2 (HPw.out.at_ HC8.out.p.bel).q HPw.out.lq HPw.out.qi HPw.out.c1 HPw.out.c2 (by omega)).mono ?_
          rintro e w9 ⟨v9, rfl, hN9⟩
          rw [take_lstU] at hN9
          obtain ⟨A9, c9, hv9, hc9, hm9, hr9, hb9⟩ := hN9.at_
          rw [HN8.out] at hv9 hc9
          subst hv9
          have HR9 := hide hr9
          have HR89 := hide (HR8.out.at_world hb9)
          have HC9 := hide (HC8.out.step hb9)
          clear hN9 hr9 hb9 HR8 HC8
          go_wp2_with fail
          refine (sameHits_any A8 A9 n8 c8 n8 c9 _ _ w9 HR89.out HN8.out hc8 hm8 HR9.out HN8.out hc9 hm9).mono ?_
          rintro e w10 ⟨rfl, hd⟩
          have HC10 := hide (HC9.out.step hd.below)
          clear hd HC9 HR9 HR89
          rw [decide_eq_true (rfl : (hitsM qs mask (itsF ns (liveF ns))).take kk.toNat = _)]
          by_cases h0 : n4 = 0
          · have e1 : ((n4 : Int) == 0) = true := by simp; omega
            have e2 : (n4 == 0) = true := by simp; omega
            go_wp2
            go_ret
            exact ⟨rfl, HC10.out.p.bel⟩
          have e1 : ((n4 : Int) == 0) = false := by simp; omega
          have e2 : (n4 == 0) = false := by simp; omega
          obtain ⟨p0, p1, p2⟩ := HC10.out.p.cells
          go_wp2_with fail
          refine (bCost_any (HPw.out.at_ HC10.out.p.bel) (by omega) (mask := 0) (ef := (n4 : Int)) (cN := cN) (en := en) (top := top)).mono ?_
          rintro e w11 ⟨l11, t11, k11, rfl, hst, hlk, hb11⟩
          obtain rfl : n4 = k11 := by
            have hK : (liveF ns).length ≤ mostB (n4 : Int) := by rw [HL4.out]; unfold mostB; omega
            obtain ⟨dn, _, _, h3, h4, h5⟩ := know_all HCk.out (start_near hst) hK hlk
            have h6 := h4.length_eq
            have h7 := h5.length_eq
            have := HL4.out
            omega
          have HB11 := hide (Below.step HC10.out.p.bel hb11)
          clear hst hlk hb11 HC10 p0 p1 p2
          go_wp2
          go_ret
          exact ⟨rfl, HB11.out⟩
end
end Go.Proofs.Ytphbdffgeeicaab
