/-
  The package rank: slices.Concat of two slices of hits. Conditions: the slices read as lists of hits; at most some hundred thousand hits.
-/
import Derived.Test.YtohccblecgmdbaaRnkJ
namespace Go.Proofs.Ytohccblecgmdbaa
open Go.RowKit

set_option maxHeartbeats 2000000 in
theorem concat_any (g : Nat) (A B : Option Addr) (n c m d : Nat) (l k : List Hit) (w : World) (hg : Blk w g 23 #[.slice A n c, .slice B m d]) (hx : Rd SH w w.heap.size A l) (hn : l.length = n) (hc : n ≤ c) (hm : c ≤ 9223372036854775807)
    (hy : Rd SH w w.heap.size B k) (hn' : k.length = m) (hd : m ≤ d) (hm' : d ≤ 9223372036854775807) (h6 : n ≤ 400000) (h7 : m ≤ 400000) :
    Calls Try.prog 23 #[.slice (some ⟨g, 0, none⟩) 2 2] w fun e w' => ∃ v, e = .returned v ∧ w'.ownsRow w.heap.size 34 2 v (n + m) (fcs encH (l ++ k)) ∧ Below w.heap.size w w' := by
  have c0 : w.cell? ⟨g, 0, none⟩ = some (.slice A n c) := hg.cell 0
  have c1 : w.cell? ⟨g, 1, none⟩ = some (.slice B m d) := hg.cell 1
  have HX := hide hx
  have HY := hide hy
  have Hn := hide hn
  have Hm := hide hn'
  have HG := hide hg
  have HR := hide (growH_any (n + m) w (by omega))
  clear hx hy hn hn' hg
  go_enter Try.func23, Try.ntmps23
  go_wp2
  go_loop [3, 5, 11] (fun sz _ j => ∃ i : Nat, i ≤ 2 ∧ j = .int .i64 i ∧ sz = .int .i64 (if i = 0 then 0 else if i = 1 then n else n + m : Nat)) (fun _ _ j => 2 - (intOf j).toNat)
  case atStart => exact ⟨0, by omega, rfl, rfl⟩
  case round =>
    obtain ⟨i, hi, rfl, rfl⟩ := hrel
    rcases i with _ | _ | _ | i
    · go_wp2
      go_round
      case rel => exact ⟨1, by omega, by go_num, by simp⟩
      case measure => simp [intOf]
    · go_wp2
      go_round
      case rel => exact ⟨2, by omega, by go_num, by simp⟩
      case measure => simp [intOf]
    · have e2 : (if 0 + 1 + 1 = 0 then 0 else if 0 + 1 + 1 = 1 then n else n + m : Nat) = n + m := by simp
      rw [e2]
      clear e2
      obtain ⟨i0, hi0, hz⟩ := Option.map_eq_some_iff.1 info_hitR
      simp only [Prod.mk.injEq] at hz
      obtain ⟨hz, hs, hy⟩ := hz
      have HI := hide hi0
      have HZ := hide hz
      have HS := hide hs
      have HW := hide hy
      clear hi0 hz hs hy
      go_wp2_with fail
      refine HR.out.mono ?_
      rintro e w1 ⟨v, rfl, ho, hb⟩
      have HO0 := hide ho
      have HB0 := hide hb
      clear ho hb
      go_wp2
      go_loopw [6, 8, 27] (fun v _ j wr => ∃ i : Nat, i ≤ 2 ∧ j = .int .i64 i ∧ Hid (wr.ownsRow w.heap.size 34 2 v (if i = 0 then 0 else if i = 1 then n else n + m) (fcs encH (if i = 0 then [] else if i = 1 then l else l ++ k))) ∧ Hid (Below w.heap.size w wr)) (fun _ _ j _ => 2 - (intOf j).toNat)
      case atStart => exact ⟨0, by omega, rfl, HO0, HB0⟩
      case round =>
        obtain ⟨i, hi, rfl, HO, HB⟩ := hrel
        rcases i with _ | _ | _ | i
        · have HK := hide (HG.out.below HB.out HG.out.lt)
          have z0 : wr.cell? ⟨g, 0, none⟩ = some (.slice A n c) := HK.out.cell 0
          have HR2 := hide (flatH.reads (w := wr) (fun b h => Nat.lt_of_lt_of_le h HB.out.size) (Rd.below HX.out HB.out (Nat.le_refl _)) Hn.out)
          clear c0 c1
          go_wp2_with (at_builtin; refine wpList_append_any _ rfl _ _ 23 rfl w.heap.size 34 i0 _ 2 16 Try.underlying23 HI.out HZ.out HS.out HW.out rfl (by decide) _ 0 _ rfl HO.out wr.heap.size A n c (fcs encH l) rfl HR2.out (flatH.ones l) (by simp only [maxLen]; omega) (by omega) HB.out.size ?_; intro v' w9 hown9 hgr9 _; have HO9 := hide hown9; have HB9 := hide (below_own HB.out HO.out HB.out.size hgr9); clear hown9 hgr9)
          go_roundw
          case rel => exact ⟨1, by omega, by go_num, hide (by have h := HO9.out; simpa [fcs_append, fcs_nil] using h), HB9⟩
          case measure => simp [intOf]
        · have HK := hide (HG.out.below HB.out HG.out.lt)
          have z0 : wr.cell? ⟨g, 1, none⟩ = some (.slice B m d) := HK.out.cell 1
          have HR2 := hide (flatH.reads (w := wr) (fun b h => Nat.lt_of_lt_of_le h HB.out.size) (Rd.below HY.out HB.out (Nat.le_refl _)) Hm.out)
          clear c0 c1
          go_wp2_with (at_builtin; refine wpList_append_any _ rfl _ _ 23 rfl w.heap.size 34 i0 _ 2 16 Try.underlying23 HI.out HZ.out HS.out HW.out rfl (by decide) _ n _ rfl HO.out wr.heap.size B m d (fcs encH k) rfl HR2.out (flatH.ones k) (by simp only [maxLen]; omega) (by omega) HB.out.size ?_; intro v' w9 hown9 hgr9 _; have HO9 := hide hown9; have HB9 := hide (below_own HB.out HO.out HB.out.size hgr9); clear hown9 hgr9)
          go_roundw
          case rel => exact ⟨2, by omega, by go_num, hide (by have h := HO9.out; simpa [fcs_append, fcs_nil] using h), HB9⟩
          case measure => simp [intOf]
        · go_wp2
          go_ret
          exact ⟨_, rfl, by have h := HO.out; simpa using h, HB.out⟩
        · omega
    · omega
end Go.Proofs.Ytohccblecgmdbaa
