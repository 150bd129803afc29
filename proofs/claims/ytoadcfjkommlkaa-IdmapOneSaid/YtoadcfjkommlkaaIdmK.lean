/-
  The document's idmap: Shard, Get. Conditions: the list reads as said.
-/
import Derived.Test.YtoadcfjkommlkaaIdmI
namespace Go.Proofs.Ytoadcfjkommlkaa
set_option linter.unusedSimpArgs false
set_option linter.unusedVariables false
open Go.RowKit

theorem RdR.ncell {w : World} {R : Nat → Prop} {A : Option Addr} {l : List NamedV} (h : RdR SNm w R A l) {k : Nat} (hk : k < l.length) : ∃ ad x, A = some ad ∧ R ad.block ∧ l[k]? = some x ∧ w.cell? (ad.add (k * 3)) = some (.int .u64 x.1) ∧ w.cell? ⟨(ad.add (k * 3)).block, (ad.add (k * 3)).off + 1, none⟩ = some (.int .i64 x.2.1) ∧ w.cell? ⟨(ad.add (k * 3)).block, (ad.add (k * 3)).off + 2, none⟩ = some (.int .i64 x.2.2) := by
  obtain ⟨ad, x, cs, e, hb, hx, hr, hc⟩ := h.at_ hk
  have hcs : cs = encN x := (flatN.rd _ _ _ _).1 hr
  subst hcs
  have c0 := hc 0 _ rfl
  have c1 := hc 1 _ rfl
  have c2 := hc 2 _ rfl
  rw [show SNm.size = 3 from rfl, ← add_of_add] at c1 c2
  refine ⟨ad, x, e, hb, hx, ?_, c1, c2⟩
  simpa [SNm, Sh.pair, Sh.int] using c0
set_option maxHeartbeats 4000000 in
theorem refGet_any (A : Option Addr) (n c : Nat) (l : List NamedV) (sh ver id : Int) (w : World) (hx : Rd SNm w w.heap.size A l) (hn : l.length = n) (h6 : n ≤ 1000) :
    Calls Try.prog 13 #[.agg #[.int .i64 sh, .slice A n c, .int .i64 ver], .int .u64 id] w fun e w' => e = .returned (.tuple #[encR ((lookF l id).getD (0, 0)), .bool (lookF l id).isSome]) ∧ Below w.heap.size w w' := by
  obtain ⟨k0, k1, kB⟩ := blk2 w #[.int .i64 sh, .slice A n c, .int .i64 ver] #[.int .i64 0, .int .i64 0] 30 35
  have HX := hide hx
  have Hn := hide hn
  have HM := hide k0
  have HR := hide k1
  have HB := hide kB
  clear hx hn k0 k1 kB
  go_enter Try.func13, Try.ntmps13
  go_upto_region 1 with fail
  generalize World.alloc (World.alloc w _) _ = w2 at *
  generalize hr : w.heap.size + 1 = r at HR ⊢
  have Hr := hide (show w.heap.size ≤ r by omega)
  clear hr
  have z1 : w2.cell? ⟨w.heap.size, 1, none⟩ = some (.slice A n c) := by rw [HM.out.cell]; rfl
  go_wp2
  clear z1
  go_loopw [11] (fun i wr => ∃ k : Nat, k ≤ n ∧ i = .int .i64 k ∧ Hid (Below w.heap.size w wr) ∧ Hid (Blk wr r 35 #[.int .i64 0, .int .i64 0]) ∧ Hid (lookF (l.take k) id = none)) (fun i _ => n - (intOf i).toNat)
  case atStart => exact ⟨0, by omega, rfl, HB, HR, hide rfl⟩
  case round =>
    obtain ⟨k, hk, rfl, HBr, HRr, HL⟩ := hrel
    clear HB HR HM
    by_cases hlt : k < n
    · obtain ⟨ad, ⟨x0, x1, x2⟩, rfl, hbl, hs, c0, c1, c2⟩ := RdR.ncell (HX.out.below HBr.out (Nat.le_refl _)) (k := k) (by rw [Hn.out]; exact hlt)
      simp only at c0 c1 c2
      have g1 : (k : Int) < n := by omega
      have g0 : (0 : Int) ≤ k := by omega
      have Hs := hide hs
      have hT := hide (show lookF (l.take (k + 1)) id = if x0 == id then some (x1, x2) else none by
        rw [List.take_add_one, hs, Option.toList_some, lookF_append, HL.out, lookF_cons, lookF_nil]
        rfl)
      clear hs hbl
      go_upto_region 4 with fail
      have hb1 := below1 wr (.cells #[.int .u64 x0, .int .i64 x1, .int .i64 x2] 56)
      have HN := hide (Blk.new wr 56 #[.int .u64 x0, .int .i64 x1, .int .i64 x2])
      have HB2 := hide (Below.step HBr.out hb1)
      have HR2 := hide (HRr.out.below hb1 HRr.out.lt)
      clear hb1 c0 c1 c2
      generalize World.alloc wr _ = w3 at *
      generalize wr.heap.size = b at *
      have y0 : w3.cell? ⟨b, 0, none⟩ = some (.int .u64 x0) := by rw [HN.out.cell]; rfl
      have y1 : w3.cell? ⟨b, 1, none⟩ = some (.int .i64 x1) := by rw [HN.out.cell]; rfl
      have y2 : w3.cell? ⟨b, 2, none⟩ = some (.int .i64 x2) := by rw [HN.out.cell]; rfl
      obtain ⟨u0, u1⟩ := cell2s HR2.out
      have f0 := HR2.out.frozen 0
      have f1 := HR2.out.frozen 1
      by_cases e : x0 = id
      · have e1 : (x0 == id) = true := by simpa using e
        have HF := hide (show lookF l id = some (x1, x2) by
          have h1 := hT.out
          rw [if_pos e1] at h1
          have h2 := lookF_append (l.take (k + 1)) (l.drop (k + 1)) id
          rw [List.take_append_drop, h1] at h2
          simpa using h2)
        go_wp2
        obtain ⟨q, hb⟩ := ref_stored HR2.out HB2.out Hr.out x1 x2
        have q0 := q.cell 0
        have q1 := q.cell 1
        simp at q0 q1
        rw [HF.out]
        exact bodyPost_ret (v := .tuple #[.agg #[.int .i64 x1, .int .i64 x2], .bool true]) (by simp [results, Try.results13, go_sem, q0, q1]) rfl ⟨rfl, hb⟩
      · have e1 : (x0 == id) = false := by simpa using e
        go_wp2
        go_roundw
        case rel => exact ⟨k + 1, by omega, by go_num, HB2, HR2, hide (by rw [hT.out, if_neg (by rw [e1]; simp)])⟩
        case measure => simp [intOf]; omega
    · obtain rfl : k = n := by omega
      have HF := hide (show lookF l id = none by have h1 := HL.out; rwa [List.take_of_length_le (by rw [Hn.out]; omega)] at h1)
      obtain ⟨u0, u1⟩ := cell2s HRr.out
      have f0 := HRr.out.frozen 0
      have f1 := HRr.out.frozen 1
      go_wp2
      obtain ⟨q, hb⟩ := ref_stored HRr.out HBr.out Hr.out 0 0
      have q0 := q.cell 0
      have q1 := q.cell 1
      simp at q0 q1
      rw [HF.out]
      exact bodyPost_ret (v := .tuple #[.agg #[.int .i64 0, .int .i64 0], .bool false]) (by simp [results, Try.results13, go_sem, q0, q1]) rfl ⟨rfl, hb⟩
end Go.Proofs.Ytoadcfjkommlkaa
