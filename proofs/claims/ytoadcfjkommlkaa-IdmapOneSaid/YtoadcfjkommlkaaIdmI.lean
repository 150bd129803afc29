/-
  The package idmap: List. Conditions: the blocks lie as said.
-/
import Derived.Test.YtoadcfjkommlkaaIdmH
namespace Go.Proofs.Ytoadcfjkommlkaa
set_option linter.unusedSimpArgs false
set_option linter.unusedVariables false
open Go.RowKit

/-- an id's ref, of all shards -/
def refF (ms : List (List NamedV)) (x : Int) : RefV := (lookF ms.flatten x).getD (0, 0)
/-- all, by ids -/
def listF (ms : List (List NamedV)) : List NamedV := (srt intLt (ms.flatten.map (·.1))).map fun x => (x, refF ms x)
theorem list_back {ms : List (List NamedV)} {L : List NamedV} (hk : (ms.flatten.map (·.1)).Nodup) (hp : L.Perm ms.flatten) : (L.map (·.1)).map (fun x => (x, refF ms x)) = L := by
  rw [List.map_map]
  conv => rhs; rw [← List.map_id L]
  refine List.map_congr_left fun p hpl => ?_
  have h := lookF_at hk (k := p.1) (v := p.2) (hp.mem_iff.1 hpl)
  simp [refF, h]
section
variable {w : World} {B M g : Nat} {hs : List Nat} {ms : List (List NamedV)} {ver : Int}
/-- no id is twice -/
theorem IdAt.keys (h : IdAt w B M g hs ms ver) : (ms.flatten.map (·.1)).Nodup := by
  rw [List.map_flatten]
  unfold List.Nodup
  rw [List.pairwise_flatten]
  refine ⟨fun l' hl' => ?_, ?_⟩
  · obtain ⟨l, hl, rfl⟩ := List.mem_map.1 hl'
    obtain ⟨i, hi⟩ := List.getElem?_of_mem hl
    have hlt : i < hs.length := by rw [← h.len]; exact (List.getElem?_eq_some_iff.1 hi).1
    exact (h.maps i _ l (List.getElem?_eq_getElem hlt) hi).ok.2
  · rw [List.pairwise_iff_getElem]
    intro i j hi hj hij x hx y hy
    rw [List.getElem_map] at hx hy
    obtain ⟨p, hp, e1⟩ := List.mem_map.1 hx
    obtain ⟨q, hq, e2⟩ := List.mem_map.1 hy
    rw [List.length_map] at hi hj
    have a := h.home i _ (List.getElem?_eq_getElem hi) p hp
    have b := h.home j _ (List.getElem?_eq_getElem hj) q hq
    intro e
    rw [e1, e] at a
    rw [e2] at b
    omega
set_option maxHeartbeats 4000000 in
theorem list_any (h : IdAt w B M g hs ms ver) (h6 : ms.flatten.length ≤ 1000) : Calls Try.prog 21 #[.pointer (some ⟨M, 0, none⟩)] w fun e w' => ∃ v, e = .returned v ∧ w'.ownsRow w.heap.size 56 3 v (listF ms).length (fcs encN (listF ms)) ∧ Below w.heap.size w w' := by
  obtain ⟨z0, z1⟩ := h.cells
  have H := hide h
  have HK := hide h.keys
  have H6 := hide h6
  have hn1 := h.n1
  obtain ⟨n, hn⟩ : ∃ n, hs.length = n := ⟨_, rfl⟩
  have Hn := hide hn
  rw [hn] at z0 hn1
  clear h h6 hn
  go_enter Try.func21, Try.ntmps21
  go_wp2
  go_loopw [3, 15] (fun v i wr => ∃ (k : Nat) (L : List NamedV), k ≤ n ∧ i = .int .i64 k ∧ Hid (L.Perm (ms.take k).flatten) ∧ Hid (wr.ownsRow w.heap.size 56 3 v L.length (fcs encN L)) ∧ Hid (Below w.heap.size w wr)) (fun _ i _ => n - (intOf i).toNat)
  case atStart => exact ⟨0, [], by omega, rfl, hide (by simp), hide (World.ownsRow_nil _ _ _ _), hide (Below.refl _ _)⟩
  case round =>
    obtain ⟨k, L, hk, rfl, HP, HO, HB⟩ := hrel
    clear z0 z1
    by_cases hlt : k < n
    · obtain ⟨hh, hi⟩ : ∃ hh, hs[k]? = some hh := ⟨_, List.getElem?_eq_getElem (by rw [Hn.out]; exact hlt)⟩
      obtain ⟨l, hl, hm⟩ := H.out.map_at hi
      have y0 := (H.out.below HB.out).gcell hi
      have HM := hide (hm.below HB.out hm.lt)
      have hhl := H.out.lows hi
      have Hl := hide hl
      have g1 : (k : Int) < n := by omega
      have g0 : (0 : Int) ≤ k := by omega
      have hwr := HB.out.size
      clear hi hl hm
      go_wp2_with (at_range; refine wpList_range_m _ rfl _ rfl Try.underlying60 rfl HM.out ?_; intro w0 hr0 hb0 hs0)
      go_frame
      have HL0 := hide (show ListLoop w w0 hh wr.heap.size l L _ [] from ⟨hr0, by rw [List.append_nil]; exact own_keep HO.out fun g hg => hb0.block g (HO.out.lt g hg).2, Below.step HB.out hb0, hwr, fun e => by have := (HO.out.lt _ e).2; omega⟩)
      clear hr0 hb0 hs0 y0
      generalize wr.heap.size = rr at *
      go_loopw [3, 6, 7] (fun v _ _ wr => ∃ done, Hid (ListLoop w wr hh rr l L v done)) (fun _ _ _ wr => wr.rangeLeft hh rr)
      case atStart => exact ⟨[], HL0⟩
      case round =>
        obtain ⟨done, HL⟩ := hrel
        clear HL0
        obtain ⟨AV, cV, rfl, o1, o2⟩ := own_form HL.out.own
        have Hsz := hide (show (L ++ done).length ≤ 1000 by
          have hsub := HL.out.rng.sub
          have hdl := len_le_of_keys hsub.2 hsub.1
          have h7 := flat_len (flat_succ Hl.out HP.out (List.Perm.refl l))
          have := H6.out
          rw [List.length_append] at h7 ⊢
          omega)
        generalize hLm : (L ++ done).length = m at *
        have HLm := hide hLm
        have HOw := hide (show wr.ownsRow w.heap.size 56 3 (.slice AV m cV) m (fcs encN (L ++ done)) from by have k := HL.out.own; rw [HLm.out] at k; exact k)
        clear hLm
        go_wp2_with (at_next; refine wpList_next_m _ rfl _ rfl rfl HL.out.rng ?_ ?_)
        · intro hp
          have HPd := hide hp
          clear hp
          go_wp2
          go_roundw
          case rel => exact ⟨k + 1, L ++ done, by omega, by go_num, hide (flat_succ Hl.out HP.out HPd.out), hide HL.out.own, hide HL.out.bel⟩
          case measure => simp [intOf]; omega
        · intro x y1 y2 w1 hm hx hR hs hl hen
          obtain ⟨ho1, hb1⟩ := HL.out.next_ hR hs
          rw [HLm.out] at ho1
          unfold encR at hen
          have HR := hide hR
          have HLt := hide hl
          have HAp := hide HL.out.apart
          have hb2 := below1 w1 (.cells #[.int .i64 y1, .int .i64 y2] 35)
          have HBx := hide (Blk.new w1 35 #[.int .i64 y1, .int .i64 y2])
          have HO2 := hide (own_keep (w' := w1.alloc (.cells #[.int .i64 y1, .int .i64 y2] 35)) ho1 fun g hg => hb2.block g (ho1.lt g hg).2)
          have HB2 := hide (Below.step hb1 hb2)
          have HB12 := hide hb2
          clear hm hx hR hs hl ho1 hb1 hb2
          go_upto_region 10 with fail
          clear hen
          generalize World.alloc w1 _ = w2 at *
          generalize hbx : w1.heap.size = bx at HBx ⊢
          clear hbx
          obtain ⟨x0, x1⟩ : w2.cell? ⟨bx, 0, none⟩ = some (.int .i64 y1) ∧ w2.cell? ⟨bx, 1, none⟩ = some (.int .i64 y2) := ⟨by rw [HBx.out.cell]; rfl, by rw [HBx.out.cell]; rfl⟩
          go_wp2_with (at_builtin; refine wpList_append_elem rfl _ _ 28 rfl w.heap.size Try.underlying28 info_named rfl (by decide) (.slice AV m cV) m _ rfl HO2.out _ _ rfl rfl (by simp [Value.oneCell']) (by have := Hsz.out; simp only [maxLen]; omega) (by have := Hsz.out; omega) HB2.out.size ?_; intro v' w3 hown3 hgr3 hat3; have HB3 := hide (below_own HB2.out HO2.out HB2.out.size hgr3); have HO3 := hide hown3; have HA3 := hide hat3; have HG3 := hide hgr3; clear hown3 hgr3 hat3)
          go_roundw
          case rel => exact ⟨_, hide (ListLoop.grow HR.out HB12.out (by rw [HLm.out]; exact HO2.out) HAp.out hhl hwr (by rw [HLm.out]; exact HO3.out) HB3.out HG3.out HA3.out).1⟩
          case measure => rw [(ListLoop.grow HR.out HB12.out (by rw [HLm.out]; exact HO2.out) HAp.out hhl hwr (by rw [HLm.out]; exact HO3.out) HB3.out HG3.out HA3.out).2]; exact HLt.out
    · obtain rfl : k = n := by omega
      have HPf := hide (show L.Perm ms.flatten by have e := HP.out; rwa [List.take_of_length_le (by rw [H.out.len, Hn.out]; omega)] at e)
      have HL6 := hide (show L.length ≤ 1000 by rw [HPf.out.length_eq]; exact H6.out)
      have HO' := hide (show wr.ownsRow w.heap.size 56 3 u3 (L.map (·.1)).length (fcs (encF (refF ms)) (L.map (·.1))) from by
        rw [fcs_f, list_back HK.out HPf.out, List.length_map]; exact HO.out)
      have HS := hide (show srt intLt (L.map (·.1)) = srt intLt (ms.flatten.map (·.1)) from srt_congr swoZ totZ (HPf.out.map _))
      clear HO HP
      go_wp2_with (go_at_call 26; refine (sortN_any (refF ms) _ _ _ _ _ HO'.out (by have := HL6.out; rw [List.length_map]; omega)).mono ?_; rintro e w2 ⟨rfl, ho2, hg2⟩; have HO2 := hide ho2; have HB2 := hide (below_own HB.out HO'.out HB.out.size hg2); clear ho2 hg2)
      go_ret
      refine ⟨_, rfl, ?_, HB2.out⟩
      have k := HO2.out
      rw [HS.out, fcs_f] at k
      have e1 : (listF ms).length = (L.map (·.1)).length := by
        unfold listF
        rw [List.length_map, srt_len, List.length_map, List.length_map, HPf.out.length_eq]
      rw [e1]
      exact k
set_option maxHeartbeats 1000000 in
theorem list_nil (w : World) : Calls Try.prog 21 #[.pointer none] w fun e w' => e = .returned (.slice none 0 0) ∧ w = w' := by
  go_enter Try.func21, Try.ntmps21
  go_wp2
  go_ret
  exact ⟨rfl, rfl⟩
end
end Go.Proofs.Ytoadcfjkommlkaa
