/-
  Whether a plane is small. Conditions: the slice of nodes reads as a list.
-/
import Derived.Test.YtphbdffgeeicaabGreatMgE
namespace Go.Proofs.YtphbdffgeeicaabGreat
set_option linter.unusedSimpArgs false
set_option linter.unusedVariables false
open Go.RowKit

def SmallP (ns : List NodeP) : Prop := ns.length ≤ 20 ∧ ∀ x ∈ ns, SmN x
section
variable {w : World} {N : Option Addr} {nn cN : Nat} {ns : List NodeP} {en top : Int}
theorem mem_take_snocN {α : Type} {l : List α} {k : Nat} {x y : α} (h : l[k]? = some x) : y ∈ l.take (k + 1) ↔ y ∈ l.take k ∨ y = x := by
  rw [List.take_add_one, h]; simp
set_option maxHeartbeats 8000000 in
theorem small_any (hx : Rd SNode w w.heap.size N ns) (hn : ns.length = nn) (hc : nn ≤ cN) (hm : cN ≤ 9223372036854775807) : Calls Tryz.prog 4 #[.agg #[.slice N nn cN, .int .i64 en, .int .i64 top]] w fun e w' => ((e = .returned (.int .i64 1) ∧ SmallP ns) ∨ (e = .returned (.int .i64 0) ∧ ¬ SmallP ns)) ∧ Below w.heap.size w w' := by
  have hb1 := below1 w (.cells #[.slice N nn cN, .int .i64 en, .int .i64 top] 24)
  have HB1 := hide hb1
  have HX := hide hx
  have Hn := hide hn
  rcases Nat.lt_or_ge 20 nn with h1 | h1
  · have b1 : decide ((20 : Int) < nn) = true := by simp; omega
    have b0 : decide (20 < nn) = true := by simp; omega
    have HF := hide (show ¬ SmallP ns from fun h => by have := h.1; omega)
    clear hb1 hx hn
    go_enter Tryz.func4, Tryz.ntmps4
    go_wp2
    go_ret
    exact ⟨.inr ⟨rfl, HF.out⟩, HB1.out⟩
  have b1 : decide ((20 : Int) < nn) = false := by simp; omega
  have b0 : decide (20 < nn) = false := by simp; omega
  clear hb1 hx hn
  go_enter Tryz.func4, Tryz.ntmps4
  go_wp2
  generalize World.alloc w _ = w1 at *
  go_loopw [4, 6, 14] (fun _ _ i wr => ∃ k : Nat, k ≤ nn ∧ i = .int .i64 k ∧ Hid (∀ x ∈ ns.take k, SmN x) ∧ Hid (Below w.heap.size w wr)) (fun _ _ i _ => nn - (intOf i).toNat)
  case atStart => exact ⟨0, by omega, rfl, hide (by simp), HB1⟩
  case round =>
    obtain ⟨k, hk, rfl, HA, HB⟩ := hrel
    by_cases hlt : k < nn
    · obtain ⟨ad, x, V, cV, L, cL, rfl, hbl, hkx, hc⟩ := HX.out.node (k := k) (by have := Hn.out; omega)
      have g0 : (0 : Int) ≤ k := by omega
      have g1 : (k : Int) < nn := by omega
      have hba : (ad.add (k * 7)).block = ad.block := block_of_add _ _
      have hcell : ∀ p : Addr, p.block = ad.block → wr.cell? p = w.cell? p := fun p hp => HB.out.cell (by rw [hp]; exact hbl)
      have c0 := (hcell _ hba).trans hc.c0
      have c1 := (hcell ⟨(ad.add (k * 7)).block, (ad.add (k * 7)).off + 1, none⟩ hba).trans hc.c1
      have c2 := (hcell ⟨(ad.add (k * 7)).block, (ad.add (k * 7)).off + 2, none⟩ hba).trans hc.c2
      have c3 := (hcell ⟨(ad.add (k * 7)).block, (ad.add (k * 7)).off + 3, none⟩ hba).trans hc.c3
      have c4 := (hcell ⟨(ad.add (k * 7)).block, (ad.add (k * 7)).off + 4, none⟩ hba).trans hc.c4
      have c5 := (hcell ⟨(ad.add (k * 7)).block, (ad.add (k * 7)).off + 5, none⟩ hba).trans hc.c5
      have c6 := (hcell ⟨(ad.add (k * 7)).block, (ad.add (k * 7)).off + 6, none⟩ hba).trans hc.c6
      have HKx := hide hkx
      have HLs := hide hc.l
      obtain ⟨⟨id, vs, tg⟩, lv, ls, nx, pv⟩ := x
      simp only at c0 c1 c2 c3 c4 c5 c6
      have HNot := hide (show ¬ SmN ((id, vs, tg), lv, ls, nx, pv) → ¬ SmallP ns from fun h k2 => h (k2.2 _ (List.mem_of_getElem? hkx)))
      clear hc hcell hba hkx hbl
      go_upto_region 6 with fail
      have HB2 := hide (Below.step HB.out (below1 wr (.cells #[.int .u64 id, .slice V vs.length cV, .int .u64 tg, .int .i64 lv, .slice L ls.length cL, .int .i64 nx, .int .i64 pv] 43)))
      have HN2 := hide (Blk.new wr 43 #[.int .u64 id, .slice V vs.length cV, .int .u64 tg, .int .i64 lv, .slice L ls.length cL, .int .i64 nx, .int .i64 pv])
      clear c0 c1 c2 c3 c4 c5 c6 HB
      generalize World.alloc wr _ = W2 at *
      generalize wr.heap.size = g2 at *
      have d1 := HN2.out.cell 1
      have d4 := HN2.out.cell 4
      simp at d1 d4
      by_cases hl : 10 < ls.length
      · have e1 : decide ((10 : Int) < ls.length) = true := by simp; omega
        have e0 : decide (10 < ls.length) = true := by simp; omega
        have HF := hide (HNot.out fun h => by have := h.1; simp only at this; omega)
        go_wp2
        go_ret
        exact ⟨.inr ⟨rfl, HF.out⟩, HB2.out⟩
      have e1 : decide ((10 : Int) < ls.length) = false := by simp; omega
      have e0 : decide (10 < ls.length) = false := by simp; omega
      by_cases hv : 50 < vs.length
      · have e3 : decide ((50 : Int) < vs.length) = true := by simp; omega
        have e2 : decide (50 < vs.length) = true := by simp; omega
        have HF := hide (HNot.out fun h => by have := h.2.1; simp only at this; omega)
        go_wp2
        go_ret
        exact ⟨.inr ⟨rfl, HF.out⟩, HB2.out⟩
      have e3 : decide ((50 : Int) < vs.length) = false := by simp; omega
      have e2 : decide (50 < vs.length) = false := by simp; omega
      go_wp2
      go_loopw [6, 32] (fun _ j wx => ∃ m : Nat, m ≤ ls.length ∧ j = .int .i64 m ∧ Hid (∀ l ∈ ls.take m, l.length ≤ 80) ∧ wx = W2) (fun _ j _ => ls.length - (intOf j).toNat)
      case atStart => exact ⟨0, by omega, rfl, hide (by simp), rfl⟩
      case round =>
        obtain ⟨m, hm2, rfl, HAm, rfl⟩ := hrel
        by_cases hmt : m < ls.length
        · obtain ⟨adL, li, Li, cLi, hAL, hbL, hli, q0, q1, q2, hrl⟩ := RdR.slc HLs.out (k := m) hmt
          obtain rfl : L = some adL := hAL
          have q0' := (HB2.out.cell (p := adL.add m) (by rw [block_of_add]; exact hbL)).trans q0
          have m0 : (0 : Int) ≤ m := by omega
          have m1 : (m : Int) < ls.length := by omega
          have HLi := hide hli
          clear hli q0 hrl hbL
          by_cases h80 : 80 < li.length
          · have f1 : decide ((80 : Int) < li.length) = true := by simp; omega
            have f0 : decide (80 < li.length) = true := by simp; omega
            have HF := hide (HNot.out fun h => by have := h.2.2 li (List.mem_of_getElem? HLi.out); omega)
            go_wp2
            go_ret
            exact ⟨.inr ⟨rfl, HF.out⟩, HB2.out⟩
          · have f1 : decide ((80 : Int) < li.length) = false := by simp; omega
            have f0 : decide (80 < li.length) = false := by simp; omega
            have HS := hide (show ∀ l ∈ ls.take (m + 1), l.length ≤ 80 from fun l hl2 => ((mem_take_snocN HLi.out).1 hl2).elim (HAm.out l) fun e => by rw [e]; omega)
            go_wp2
            go_roundw
            case rel => exact ⟨m + 1, by omega, by go_num, HS, by first | exact rfl | trivial⟩
            case measure => simp [intOf]; omega
        · obtain rfl : ls.length = m := by omega
          have HS := hide (show ∀ x ∈ ns.take (k + 1), SmN x from fun x hx2 => ((mem_take_snocN HKx.out).1 hx2).elim (HA.out x) fun e => by
            rw [e]
            exact ⟨by simp only; omega, by simp only; omega, fun l hl2 => HAm.out l (by rw [List.take_of_length_le (Nat.le_refl _)]; exact hl2)⟩)
          go_wp2
          go_roundw
          case rel => exact ⟨k + 1, by omega, by go_num, HS, HB2⟩
          case measure => simp [intOf]; omega
    · obtain rfl : nn = k := by omega
      have HS := hide (show SmallP ns from ⟨by have := Hn.out; omega, fun x hx2 => HA.out x (by rw [List.take_of_length_le (by have := Hn.out; omega)]; exact hx2)⟩)
      go_wp2
      go_ret
      exact ⟨.inl ⟨rfl, HS.out⟩, HB.out⟩
end
end Go.Proofs.YtphbdffgeeicaabGreat
