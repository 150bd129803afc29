/-
  Texts of one part, put together. No condition.
-/
import Derived.Test.YtphbdffgeeicaabGreatMgD
import Derived.Test.YtphbdffgeeicaabGreatMgN
import Derived.Test.YtphbdffgeeicaabGreatMgQ
import Derived.Test.YtphbdffgeeicaabGreatMgA
import Derived.Test.YtphbdffgeeicaabGreatBmQ
import Derived.Test.YtphbdffgeeicaabGreatMgP
import Derived.Test.YtphbdffgeeicaabGreatMgF
/-
  The document's planes and walks: There, Near, Spot, Step, Level, Down. Conditions: the slices read as lists.
-/
namespace Go.Proofs.YtphbdffgeeicaabGreat
set_option linter.unusedSimpArgs false
set_option linter.unusedVariables false
open Go.RowKit

section
variable {w W W' : World} {N Aq : Option Addr} {nn cN nq cq : Nat} {ns : List NodeP} {en top : Int} {qs : List Int}
set_option maxHeartbeats 4000000 in
theorem rfThere_any (hx : Rd SNode w w.heap.size N ns) (hn : ns.length = nn) (s : Int) : Calls Tryz.prog 60 #[.agg #[.slice N nn cN, .int .i64 en, .int .i64 top], .int .i64 s] w fun e w' => e = .returned (.bool (thereF ns s)) ∧ Below w.heap.size w w' := by
  have hb := below1 w (.cells #[.slice N nn cN, .int .i64 en, .int .i64 top] 24)
  have HB := hide hb
  by_cases h0 : 0 < s
  · have b0 : decide (0 < s) = true := decide_eq_true h0
    have b1 : decide (1 ≤ s) = true := decide_eq_true (by omega)
    by_cases h1 : s < nn
    · obtain ⟨k, rfl⟩ : ∃ k : Nat, s = k := ⟨s.toNat, by omega⟩
      obtain ⟨ad, x, V, cV, L, cL, rfl, hbl, hk, hc⟩ := hx.node (k := k) (by omega)
      have HT := hide (show thereF ns (k : Int) = decide (0 ≤ x.2.2.2.1) by rw [node_at hk, b0]; rfl)
      have hk0 : (0 : Int) ≤ k := by omega
      have c5 : (w.alloc (.cells #[.slice (some ad) nn cN, .int .i64 en, .int .i64 top] 24)).cell? ⟨(ad.add (k * 7)).block, (ad.add (k * 7)).off + 5, none⟩ = some (.int .i64 x.2.2.2.1) := (hb.cell (by show (ad.add (k * 7)).block < _; rw [block_of_add]; exact hbl)).trans hc.c5
      have hlt : decide ((k : Int) < nn) = true := decide_eq_true h1
      clear hx hn hk hc hb
      go_enter Tryz.func60, Tryz.ntmps60
      go_wp2
      go_ret
      exact ⟨by rw [HT.out]; rfl, HB.out⟩
    · have HT := hide (show thereF ns s = false from there_out (.inr (by omega)))
      have hlt : decide (s < (nn : Int)) = false := decide_eq_false h1
      clear hx hn hb
      go_enter Tryz.func60, Tryz.ntmps60
      go_wp2
      go_ret
      exact ⟨by rw [HT.out]; rfl, HB.out⟩
  · have b0 : decide (0 < s) = false := decide_eq_false h0
    have b1 : decide (1 ≤ s) = false := decide_eq_false (by omega)
    have HT := hide (show thereF ns s = false from there_out (.inl (by omega)))
    clear hx hn hb
    go_enter Tryz.func60, Tryz.ntmps60
    go_wp2
    go_ret
    exact ⟨by rw [HT.out]; rfl, HB.out⟩
set_option maxHeartbeats 8000000 in
set_option maxRecDepth 100000 in
theorem rfSpot_any (hx : Rd SNode w w.heap.size N ns) (hn : ns.length = nn) (hok : ∀ x ∈ ns, OkN x) (hq : Rd (Sh.int .i32) w w.heap.size Aq qs) (hnq : qs.length = nq) (hcq : nq ≤ cq) (hcq2 : cq ≤ 9223372036854775807) (hqi : I32 qs) (slot : Int) :
    Calls Tryz.prog 106 #[.agg #[.slice N nn cN, .int .i64 en, .int .i64 top], .slice Aq nq cq, .int .i64 slot] w fun e w' => e = .returned (aggW (spotF ns qs slot)) ∧ Below w.heap.size w w' := by
  have HNq := hide hnq
  have HQI := hide hqi
  unfold aggW
  by_cases hin : 0 ≤ slot ∧ slot < nn
  · obtain ⟨k, rfl⟩ : ∃ k : Nat, slot = k := ⟨slot.toNat, by omega⟩
    have hk0 : (0 : Int) ≤ k := by omega
    have hk1 : (k : Int) < nn := by omega
    have b0 : decide (0 ≤ (k : Int)) = true := decide_eq_true hk0
    have b1 : decide ((k : Int) < nn) = true := decide_eq_true hk1
    obtain ⟨ad, x, V, cV, L, cL, rfl, hbl, hkx, hc⟩ := hx.node (k := k) (by omega)
    have HIt := hide (show itemF ns k = x.1 by unfold itemF; rw [if_pos ⟨hk0, by omega⟩, show ((k : Int)).toNat = k by omega, hkx]; rfl)
    have HVI := hide (hok x (List.mem_of_getElem? hkx)).v
    obtain ⟨⟨id, vs, tg⟩, lv, ls, nx, pv⟩ := x
    obtain ⟨⟨d, i9, s9⟩, hd⟩ : ∃ y : Int × Int × Int, y = ((spotF ns qs k).1.1, (spotF ns qs k).1.2, (spotF ns qs k).2) := ⟨_, rfl⟩
    simp only [Prod.mk.injEq] at hd
    have HD := hide (show (spotF ns qs k) = ((distOf qs vs, id), (k : Int)) by unfold spotF; rw [HIt.out])
    rw [HD.out]
    have hbw : Below w.heap.size w (((w.alloc (.cells #[.slice (some ad) nn cN, .int .i64 en, .int .i64 top] 24)).alloc (.cells #[.int .u64 0, .int .u64 0, .int .i64 0] 51)).alloc (.cells #[.int .u64 0, .slice none 0 0, .int .u64 0] 40)) := (((Below.refl _ _).alloc (Nat.le_refl _) _).alloc (by simp) _).alloc (by simp; omega) _
    have H := hide (show SpW w (w.heap.size + 1) (w.heap.size + 1 + 1) #[.int .u64 0, .slice none 0 0, .int .u64 0] Aq qs V vs (((w.alloc (.cells #[.slice (some ad) nn cN, .int .i64 en, .int .i64 top] 24)).alloc (.cells #[.int .u64 0, .int .u64 0, .int .i64 0] 51)).alloc (.cells #[.int .u64 0, .slice none 0 0, .int .u64 0] 40)) from
      ⟨hbw, ⟨_, rfl, Blk.alloc (by have := Blk.new (w.alloc (.cells #[.slice (some ad) nn cN, .int .i64 en, .int .i64 top] 24)) 51 #[.int .u64 0, .int .u64 0, .int .i64 0]; simpa using this) _⟩, by have := Blk.new ((w.alloc (.cells #[.slice (some ad) nn cN, .int .i64 en, .int .i64 top] 24)).alloc (.cells #[.int .u64 0, .int .u64 0, .int .i64 0] 51)) 40 #[.int .u64 0, .slice none 0 0, .int .u64 0]; simpa using this, by omega, by omega, hq.below hbw (Nat.le_refl _), Rd.below hc.v hbw (Nat.le_refl _)⟩)
    have HZ0 := hide (show Blk (((w.alloc (.cells #[.slice (some ad) nn cN, .int .i64 en, .int .i64 top] 24)).alloc (.cells #[.int .u64 0, .int .u64 0, .int .i64 0] 51)).alloc (.cells #[.int .u64 0, .slice none 0 0, .int .u64 0] 40)) (w.heap.size + 1) 51 #[.int .u64 0, .int .u64 0, .int .i64 0] from Blk.alloc (by have := Blk.new (w.alloc (.cells #[.slice (some ad) nn cN, .int .i64 en, .int .i64 top] 24)) 51 #[.int .u64 0, .int .u64 0, .int .i64 0]; simpa using this) _)
    have HPl := hide (show Blk (((w.alloc (.cells #[.slice (some ad) nn cN, .int .i64 en, .int .i64 top] 24)).alloc (.cells #[.int .u64 0, .int .u64 0, .int .i64 0] 51)).alloc (.cells #[.int .u64 0, .slice none 0 0, .int .u64 0] 40)) w.heap.size 24 #[.slice (some ad) nn cN, .int .i64 en, .int .i64 top] from ((Blk.new w 24 #[.slice (some ad) nn cN, .int .i64 en, .int .i64 top]).alloc _).alloc _)
    have hba : (ad.add (k * 7)).block = ad.block := block_of_add _ _
    have hcell : ∀ p : Addr, p.block = ad.block → (((w.alloc (.cells #[.slice (some ad) nn cN, .int .i64 en, .int .i64 top] 24)).alloc (.cells #[.int .u64 0, .int .u64 0, .int .i64 0] 51)).alloc (.cells #[.int .u64 0, .slice none 0 0, .int .u64 0] 40)).cell? p = w.cell? p := fun p hp => hbw.cell (by rw [hp]; exact hbl)
    have c0 := (hcell _ hba).trans hc.c0
    have c1 := (hcell ⟨(ad.add (k * 7)).block, (ad.add (k * 7)).off + 1, none⟩ hba).trans hc.c1
    have c2 := (hcell ⟨(ad.add (k * 7)).block, (ad.add (k * 7)).off + 2, none⟩ hba).trans hc.c2
    simp only at c0 c1 c2
    have u1 : vs.length ≤ cV := hc.v1
    have u2 : cV ≤ 9223372036854775807 := hc.v2
    have p0 := HPl.out.cell 0
    have i0 := H.out.i.cell 0
    have i1 := H.out.i.cell 1
    have i2 := H.out.i.cell 2
    have f0 := H.out.i.frozen 0
    have f1 := H.out.i.frozen 1
    have f2 := H.out.i.frozen 2
    simp at p0 i0 i1 i2
    have hbi : Below w.heap.size w (((w.alloc (.cells #[.slice (some ad) nn cN, .int .i64 en, .int .i64 top] 24)).alloc (.cells #[.int .u64 0, .int .u64 0, .int .i64 0] 51)).alloc (.cells #[.int .u64 id, .slice V vs.length cV, .int .u64 tg] 40)) := (((Below.refl _ _).alloc (Nat.le_refl _) _).alloc (by simp) _).alloc (by simp; omega) _
    have HZI := hide (show Blk (((w.alloc (.cells #[.slice (some ad) nn cN, .int .i64 en, .int .i64 top] 24)).alloc (.cells #[.int .u64 0, .int .u64 0, .int .i64 0] 51)).alloc (.cells #[.int .u64 id, .slice V vs.length cV, .int .u64 tg] 40)) (w.heap.size + 1) 51 #[.int .u64 0, .int .u64 0, .int .i64 0] from Blk.alloc (by have := Blk.new (w.alloc (.cells #[.slice (some ad) nn cN, .int .i64 en, .int .i64 top] 24)) 51 #[.int .u64 0, .int .u64 0, .int .i64 0]; simpa using this) _)
    have HI2 := hide (show SpW w (w.heap.size + 1) (w.heap.size + 1 + 1) #[.int .u64 id, .slice V vs.length cV, .int .u64 tg] Aq qs V vs (((w.alloc (.cells #[.slice (some ad) nn cN, .int .i64 en, .int .i64 top] 24)).alloc (.cells #[.int .u64 0, .int .u64 0, .int .i64 0] 51)).alloc (.cells #[.int .u64 id, .slice V vs.length cV, .int .u64 tg] 40)) from ⟨hbi, ⟨_, rfl, HZI.out⟩, by have := Blk.new ((w.alloc (.cells #[.slice (some ad) nn cN, .int .i64 en, .int .i64 top] 24)).alloc (.cells #[.int .u64 0, .int .u64 0, .int .i64 0] 51)) 40 #[.int .u64 id, .slice V vs.length cV, .int .u64 tg]; simpa using this, by omega, by omega, hq.below hbi (Nat.le_refl _), Rd.below hc.v hbi (Nat.le_refl _)⟩)
    clear hbi hd hbw hcell hba hc hkx hbl hx hq hqi hnq hok hin
    go_enter Tryz.func106, Tryz.ntmps106
    go_upto_region 4 with fail
    have H2 := HI2
    have HZ := HZI
    clear c0 c1 c2 p0 i0 i1 i2 f0 f1 f2 H HPl HZ0
    clear HI2 HZI
    generalize World.alloc (World.alloc (World.alloc w _) _) _ = W2 at *
    generalize w.heap.size + 1 + 1 = gi at *
    generalize w.heap.size + 1 = gs at *
    have hvn := hide (Eq.refl vs.length)
    refine startO (S := (fun W => SpW w gs gi #[.int .u64 id, .slice V vs.length cV, .int .u64 tg] Aq qs V vs W)) 10 (by as_aux_lemma => kernel_rfl) (by as_aux_lemma => kernel_rfl) (H2.out.step (Below.refl _ _).drew) (fun hHeld => ?_)
    have HZ2 := hide HZ.out.drew
    clear H2 HZ
    generalize World.drew _ = Wd at *
    refine putsO [0, 7] [7, 0] [(30, .int .i64 k), (23, .slice Aq nq cq)] 2 rfl [23, 30] (by as_aux_lemma => kernel_rfl) (by as_aux_lemma => kernel_rfl) rfl (fun _ _ _ _ _ h => h) hHeld ?_
    refine takeO 1 24 (.fieldAddr 40 (.const (.pointer (some ⟨gi, 0, none⟩))) 1) 0 (.pointer (some ⟨gi, 1, none⟩)) (by as_aux_lemma => kernel_rfl) (by as_aux_lemma => kernel_rfl) (by as_aux_lemma => kernel_rfl) (fun _ _ _ _ _ h => h) (fun W hS => by clear hS hHeld; unfold cEv opC; as_aux_lemma => first | (go_simp; done) | (go_simp <;> rfl)) hHeld ?_
    refine takeO 4 27 (.fieldAddr 40 (.const (.pointer (some ⟨gi, 0, none⟩))) 0) 0 (.pointer (some ⟨gi, 0, none⟩)) (by as_aux_lemma => kernel_rfl) (by as_aux_lemma => kernel_rfl) (by as_aux_lemma => kernel_rfl) (fun _ _ _ _ _ h => h) (fun W hS => by clear hS hHeld; unfold cEv opC; as_aux_lemma => first | (go_simp; done) | (go_simp <;> rfl)) hHeld ?_
    refine takeO 2 25 (.load 25 (.const (.pointer (some ⟨gi, 1, none⟩)))) 25 (.slice V vs.length cV) (by as_aux_lemma => kernel_rfl) (by as_aux_lemma => kernel_rfl) (by as_aux_lemma => kernel_rfl) (fun _ _ _ _ _ h => h) (fun W hS => by have z0 := hS.i.cell 0; have z1 := hS.i.cell 1; simp at z0 z1; clear hS hHeld; unfold cEv opC; as_aux_lemma => first | (go_simp; done) | (go_simp <;> rfl)) hHeld ?_
    refine takeO 5 28 (.load 26 (.const (.pointer (some ⟨gi, 0, none⟩)))) 26 (.int .u64 id) (by as_aux_lemma => kernel_rfl) (by as_aux_lemma => kernel_rfl) (by as_aux_lemma => kernel_rfl) (fun _ _ _ _ _ h => h) (fun W hS => by have z0 := hS.i.cell 0; have z1 := hS.i.cell 1; simp at z0 z1; clear hS hHeld; unfold cEv opC; as_aux_lemma => first | (go_simp; done) | (go_simp <;> rfl)) hHeld ?_
    refine readyO [3] (by as_aux_lemma => kernel_rfl) (by simp) ?_
    refine callO 3 26 (.call { callee := .value (.func 84), args := #[.const (.slice Aq nq cq), .const (.slice V vs.length cV)], argTypes := #[25, 25] }) 26 84 #[.slice Aq nq cq, .slice V vs.length cV] (by as_aux_lemma => kernel_rfl) (by as_aux_lemma => kernel_rfl) (by unfold cEv opC; go_simp) ?_ AllReadyH.nil
    refine (refDist_any Aq V nq cq vs.length cV qs vs _ hHeld.q.1 HNq.out HQI.out hcq hcq2 hHeld.q.2 rfl HVI.out u1 u2).mono ?_
    rintro e _ ⟨rfl, rfl⟩
    refine ⟨_, rfl, hHeld, fun hHeld2 => ?_⟩
    clear hHeld
    have hHeld := hHeld2
    clear hHeld2
    refine takeO 6 29 (.build 49 #[(0, .const (.int .u64 (distOf qs vs))), (1, .const (.int .u64 id))]) 49 (.agg #[.int .u64 (distOf qs vs), .int .u64 id]) (by as_aux_lemma => kernel_rfl) (by as_aux_lemma => kernel_rfl) (by as_aux_lemma => kernel_rfl) (fun _ _ _ _ _ h => h) (fun W hS => by clear hS hHeld; unfold cEv opC; as_aux_lemma => first | (go_simp; done) | (go_simp <;> rfl)) hHeld ?_
    refine takeO 8 31 (.build 51 #[(0, .const (.agg #[.int .u64 (distOf qs vs), .int .u64 id])), (1, .const (.int .i64 k))]) 51 (.agg #[.int .u64 (distOf qs vs), .int .u64 id, .int .i64 k]) (by as_aux_lemma => kernel_rfl) (by as_aux_lemma => kernel_rfl) (by as_aux_lemma => kernel_rfl) (fun _ _ _ _ _ h => h) (fun W hS => by clear hS hHeld; unfold cEv opC; as_aux_lemma => first | (go_simp; done) | (go_simp <;> rfl)) hHeld ?_
    refine readyO [9] (by as_aux_lemma => kernel_rfl) (by simp) ?_
    have hst := spot_storedW HZ2.out rfl hHeld.bel hHeld.hs ((distOf qs vs, id), (k : Int))
    simp only at hst
    have x0 := HZ2.out.cell 0
    have x1 := HZ2.out.cell 1
    have x2 := HZ2.out.cell 2
    have f0 := HZ2.out.frozen 0
    have f1 := HZ2.out.frozen 1
    have f2 := HZ2.out.frozen 2
    simp at x0 x1 x2
    refine storeO 9 (.store 51 (.const (.pointer (some ⟨gs, 0, none⟩))) (.const (.agg #[.int .u64 (distOf qs vs), .int .u64 id, .int .i64 k]))) 0 (((Wd.setCell ⟨gs, 0, none⟩ (.int .u64 (distOf qs vs))).setCell ⟨gs, 1, none⟩ (.int .u64 id)).setCell ⟨gs, 2, none⟩ (.int .i64 k)) (by as_aux_lemma => kernel_rfl) (by as_aux_lemma => kernel_rfl) (by unfold cEv opC; go_simp) (hHeld.stored ((distOf qs vs, id), (k : Int))) (fun hHeld2 => ?_) AllReadyH.nil
    clear hHeld
    have hHeld := hHeld2
    clear hHeld2
    refine doneO [(23, .slice Aq nq cq), (0, .pointer (some ⟨gi, 1, none⟩)), (0, .slice V vs.length cV), (0, .int .u64 (distOf qs vs)), (0, .pointer (some ⟨gi, 0, none⟩)), (0, .int .u64 id), (0, .agg #[.int .u64 (distOf qs vs), .int .u64 id]), (0, .int .i64 k), (0, .agg #[.int .u64 (distOf qs vs), .int .u64 id, .int .i64 k])] (by as_aux_lemma => kernel_rfl) (by as_aux_lemma => kernel_rfl) ?_
    simp only [fillG]
    go_wp2
    have q0 := hst.1.cell 0
    have q1 := hst.1.cell 1
    have q2 := hst.1.cell 2
    simp at q0 q1 q2
    exact bodyPost_ret (v := .agg #[.int .u64 (distOf qs vs), .int .u64 id, .int .i64 k]) (by simp [results, Tryz.results106, go_sem, q0, q1, q2]) rfl ⟨rfl, hst.2⟩
  · have HIt := hide (show itemF ns slot = (0, [], 0) by unfold itemF; rw [if_neg (by omega)])
    have HD := hide (show (spotF ns qs slot) = ((distOf qs [], 0), slot) by unfold spotF; rw [HIt.out])
    rw [HD.out]
    have hbw : Below w.heap.size w (((w.alloc (.cells #[.slice N nn cN, .int .i64 en, .int .i64 top] 24)).alloc (.cells #[.int .u64 0, .int .u64 0, .int .i64 0] 51)).alloc (.cells #[.int .u64 0, .slice none 0 0, .int .u64 0] 40)) := (((Below.refl _ _).alloc (Nat.le_refl _) _).alloc (by simp) _).alloc (by simp; omega) _
    have H2 := hide (show SpW w (w.heap.size + 1) (w.heap.size + 1 + 1) #[.int .u64 0, .slice none 0 0, .int .u64 0] Aq qs none [] (((w.alloc (.cells #[.slice N nn cN, .int .i64 en, .int .i64 top] 24)).alloc (.cells #[.int .u64 0, .int .u64 0, .int .i64 0] 51)).alloc (.cells #[.int .u64 0, .slice none 0 0, .int .u64 0] 40)) from
      ⟨hbw, ⟨_, rfl, Blk.alloc (by have := Blk.new (w.alloc (.cells #[.slice N nn cN, .int .i64 en, .int .i64 top] 24)) 51 #[.int .u64 0, .int .u64 0, .int .i64 0]; simpa using this) _⟩, by have := Blk.new ((w.alloc (.cells #[.slice N nn cN, .int .i64 en, .int .i64 top] 24)).alloc (.cells #[.int .u64 0, .int .u64 0, .int .i64 0] 51)) 40 #[.int .u64 0, .slice none 0 0, .int .u64 0]; simpa using this, by omega, by omega, hq.below hbw (Nat.le_refl _), RdR.nil⟩)
    have HZ := hide (show Blk (((w.alloc (.cells #[.slice N nn cN, .int .i64 en, .int .i64 top] 24)).alloc (.cells #[.int .u64 0, .int .u64 0, .int .i64 0] 51)).alloc (.cells #[.int .u64 0, .slice none 0 0, .int .u64 0] 40)) (w.heap.size + 1) 51 #[.int .u64 0, .int .u64 0, .int .i64 0] from Blk.alloc (by have := Blk.new (w.alloc (.cells #[.slice N nn cN, .int .i64 en, .int .i64 top] 24)) 51 #[.int .u64 0, .int .u64 0, .int .i64 0]; simpa using this) _)
    have HPl := hide (show Blk (((w.alloc (.cells #[.slice N nn cN, .int .i64 en, .int .i64 top] 24)).alloc (.cells #[.int .u64 0, .int .u64 0, .int .i64 0] 51)).alloc (.cells #[.int .u64 0, .slice none 0 0, .int .u64 0] 40)) w.heap.size 24 #[.slice N nn cN, .int .i64 en, .int .i64 top] from ((Blk.new w 24 #[.slice N nn cN, .int .i64 en, .int .i64 top]).alloc _).alloc _)
    have p0 := HPl.out.cell 0
    simp at p0
    clear hbw hx hq hqi hnq hok
    by_cases h0 : 0 ≤ slot
    · have b0 : decide (0 ≤ slot) = true := decide_eq_true h0
      have b1 : decide (slot < (nn : Int)) = false := decide_eq_false (by omega)
      go_enter Tryz.func106, Tryz.ntmps106
      go_upto_region 4 with fail
      clear p0 HPl
      generalize World.alloc (World.alloc (World.alloc w _) _) _ = W2 at *
      generalize w.heap.size + 1 + 1 = gi at *
      generalize w.heap.size + 1 = gs at *
      refine startO (S := (fun W => SpW w gs gi #[.int .u64 0, .slice none 0 0, .int .u64 0] Aq qs none [] W)) 10 (by as_aux_lemma => kernel_rfl) (by as_aux_lemma => kernel_rfl) (H2.out.step (Below.refl _ _).drew) (fun hHeld => ?_)
      have HZ2 := hide HZ.out.drew
      clear H2 HZ
      generalize World.drew _ = Wd at *
      refine putsO [0, 7] [7, 0] [(30, .int .i64 slot), (23, .slice Aq nq cq)] 2 rfl [23, 30] (by as_aux_lemma => kernel_rfl) (by as_aux_lemma => kernel_rfl) rfl (fun _ _ _ _ _ h => h) hHeld ?_
      refine takeO 1 24 (.fieldAddr 40 (.const (.pointer (some ⟨gi, 0, none⟩))) 1) 0 (.pointer (some ⟨gi, 1, none⟩)) (by as_aux_lemma => kernel_rfl) (by as_aux_lemma => kernel_rfl) (by as_aux_lemma => kernel_rfl) (fun _ _ _ _ _ h => h) (fun W hS => by clear hS hHeld; unfold cEv opC; as_aux_lemma => first | (go_simp; done) | (go_simp <;> rfl)) hHeld ?_
      refine takeO 4 27 (.fieldAddr 40 (.const (.pointer (some ⟨gi, 0, none⟩))) 0) 0 (.pointer (some ⟨gi, 0, none⟩)) (by as_aux_lemma => kernel_rfl) (by as_aux_lemma => kernel_rfl) (by as_aux_lemma => kernel_rfl) (fun _ _ _ _ _ h => h) (fun W hS => by clear hS hHeld; unfold cEv opC; as_aux_lemma => first | (go_simp; done) | (go_simp <;> rfl)) hHeld ?_
      refine takeO 2 25 (.load 25 (.const (.pointer (some ⟨gi, 1, none⟩)))) 25 (.slice none 0 0) (by as_aux_lemma => kernel_rfl) (by as_aux_lemma => kernel_rfl) (by as_aux_lemma => kernel_rfl) (fun _ _ _ _ _ h => h) (fun W hS => by have z0 := hS.i.cell 0; have z1 := hS.i.cell 1; simp at z0 z1; clear hS hHeld; unfold cEv opC; as_aux_lemma => first | (go_simp; done) | (go_simp <;> rfl)) hHeld ?_
      refine takeO 5 28 (.load 26 (.const (.pointer (some ⟨gi, 0, none⟩)))) 26 (.int .u64 0) (by as_aux_lemma => kernel_rfl) (by as_aux_lemma => kernel_rfl) (by as_aux_lemma => kernel_rfl) (fun _ _ _ _ _ h => h) (fun W hS => by have z0 := hS.i.cell 0; have z1 := hS.i.cell 1; simp at z0 z1; clear hS hHeld; unfold cEv opC; as_aux_lemma => first | (go_simp; done) | (go_simp <;> rfl)) hHeld ?_
      refine readyO [3] (by as_aux_lemma => kernel_rfl) (by simp) ?_
      refine callO 3 26 (.call { callee := .value (.func 84), args := #[.const (.slice Aq nq cq), .const (.slice none 0 0)], argTypes := #[25, 25] }) 26 84 #[.slice Aq nq cq, .slice none 0 0] (by as_aux_lemma => kernel_rfl) (by as_aux_lemma => kernel_rfl) (by unfold cEv opC; go_simp) ?_ AllReadyH.nil
      refine (refDist_any Aq none nq cq 0 0 qs [] _ hHeld.q.1 HNq.out HQI.out hcq hcq2 hHeld.q.2 rfl (fun y hy => by simp at hy) (by omega) (by omega)).mono ?_
      rintro e _ ⟨rfl, rfl⟩
      refine ⟨_, rfl, hHeld, fun hHeld2 => ?_⟩
      clear hHeld
      have hHeld := hHeld2
      clear hHeld2
      refine takeO 6 29 (.build 49 #[(0, .const (.int .u64 (distOf qs []))), (1, .const (.int .u64 0))]) 49 (.agg #[.int .u64 (distOf qs []), .int .u64 0]) (by as_aux_lemma => kernel_rfl) (by as_aux_lemma => kernel_rfl) (by as_aux_lemma => kernel_rfl) (fun _ _ _ _ _ h => h) (fun W hS => by clear hS hHeld; unfold cEv opC; as_aux_lemma => first | (go_simp; done) | (go_simp <;> rfl)) hHeld ?_
      refine takeO 8 31 (.build 51 #[(0, .const (.agg #[.int .u64 (distOf qs []), .int .u64 0])), (1, .const (.int .i64 slot))]) 51 (.agg #[.int .u64 (distOf qs []), .int .u64 0, .int .i64 slot]) (by as_aux_lemma => kernel_rfl) (by as_aux_lemma => kernel_rfl) (by as_aux_lemma => kernel_rfl) (fun _ _ _ _ _ h => h) (fun W hS => by clear hS hHeld; unfold cEv opC; as_aux_lemma => first | (go_simp; done) | (go_simp <;> rfl)) hHeld ?_
      refine readyO [9] (by as_aux_lemma => kernel_rfl) (by simp) ?_
      have hst := spot_storedW HZ2.out rfl hHeld.bel hHeld.hs ((distOf qs [], 0), (slot : Int))
      simp only at hst
      have x0 := HZ2.out.cell 0
      have x1 := HZ2.out.cell 1
      have x2 := HZ2.out.cell 2
      have f0 := HZ2.out.frozen 0
      have f1 := HZ2.out.frozen 1
      have f2 := HZ2.out.frozen 2
      simp at x0 x1 x2
      refine storeO 9 (.store 51 (.const (.pointer (some ⟨gs, 0, none⟩))) (.const (.agg #[.int .u64 (distOf qs []), .int .u64 0, .int .i64 slot]))) 0 (((Wd.setCell ⟨gs, 0, none⟩ (.int .u64 (distOf qs []))).setCell ⟨gs, 1, none⟩ (.int .u64 0)).setCell ⟨gs, 2, none⟩ (.int .i64 slot)) (by as_aux_lemma => kernel_rfl) (by as_aux_lemma => kernel_rfl) (by unfold cEv opC; go_simp) (hHeld.stored ((distOf qs [], 0), (slot : Int))) (fun hHeld2 => ?_) AllReadyH.nil
      clear hHeld
      have hHeld := hHeld2
      clear hHeld2
      refine doneO [(23, .slice Aq nq cq), (0, .pointer (some ⟨gi, 1, none⟩)), (0, .slice none 0 0), (0, .int .u64 (distOf qs [])), (0, .pointer (some ⟨gi, 0, none⟩)), (0, .int .u64 0), (0, .agg #[.int .u64 (distOf qs []), .int .u64 0]), (0, .int .i64 slot), (0, .agg #[.int .u64 (distOf qs []), .int .u64 0, .int .i64 slot])] (by as_aux_lemma => kernel_rfl) (by as_aux_lemma => kernel_rfl) ?_
      simp only [fillG]
      go_wp2
      have q0 := hst.1.cell 0
      have q1 := hst.1.cell 1
      have q2 := hst.1.cell 2
      simp at q0 q1 q2
      exact bodyPost_ret (v := .agg #[.int .u64 (distOf qs []), .int .u64 0, .int .i64 slot]) (by simp [results, Tryz.results106, go_sem, q0, q1, q2]) rfl ⟨rfl, hst.2⟩
    · have b0 : decide (0 ≤ slot) = false := decide_eq_false h0
      go_enter Tryz.func106, Tryz.ntmps106
      go_upto_region 4 with fail
      clear p0 HPl
      generalize World.alloc (World.alloc (World.alloc w _) _) _ = W2 at *
      generalize w.heap.size + 1 + 1 = gi at *
      generalize w.heap.size + 1 = gs at *
      refine startO (S := (fun W => SpW w gs gi #[.int .u64 0, .slice none 0 0, .int .u64 0] Aq qs none [] W)) 10 (by as_aux_lemma => kernel_rfl) (by as_aux_lemma => kernel_rfl) (H2.out.step (Below.refl _ _).drew) (fun hHeld => ?_)
      have HZ2 := hide HZ.out.drew
      clear H2 HZ
      generalize World.drew _ = Wd at *
      refine putsO [0, 7] [7, 0] [(30, .int .i64 slot), (23, .slice Aq nq cq)] 2 rfl [23, 30] (by as_aux_lemma => kernel_rfl) (by as_aux_lemma => kernel_rfl) rfl (fun _ _ _ _ _ h => h) hHeld ?_
      refine takeO 1 24 (.fieldAddr 40 (.const (.pointer (some ⟨gi, 0, none⟩))) 1) 0 (.pointer (some ⟨gi, 1, none⟩)) (by as_aux_lemma => kernel_rfl) (by as_aux_lemma => kernel_rfl) (by as_aux_lemma => kernel_rfl) (fun _ _ _ _ _ h => h) (fun W hS => by clear hS hHeld; unfold cEv opC; as_aux_lemma => first | (go_simp; done) | (go_simp <;> rfl)) hHeld ?_
      refine takeO 4 27 (.fieldAddr 40 (.const (.pointer (some ⟨gi, 0, none⟩))) 0) 0 (.pointer (some ⟨gi, 0, none⟩)) (by as_aux_lemma => kernel_rfl) (by as_aux_lemma => kernel_rfl) (by as_aux_lemma => kernel_rfl) (fun _ _ _ _ _ h => h) (fun W hS => by clear hS hHeld; unfold cEv opC; as_aux_lemma => first | (go_simp; done) | (go_simp <;> rfl)) hHeld ?_
      refine takeO 2 25 (.load 25 (.const (.pointer (some ⟨gi, 1, none⟩)))) 25 (.slice none 0 0) (by as_aux_lemma => kernel_rfl) (by as_aux_lemma => kernel_rfl) (by as_aux_lemma => kernel_rfl) (fun _ _ _ _ _ h => h) (fun W hS => by have z0 := hS.i.cell 0; have z1 := hS.i.cell 1; simp at z0 z1; clear hS hHeld; unfold cEv opC; as_aux_lemma => first | (go_simp; done) | (go_simp <;> rfl)) hHeld ?_
      refine takeO 5 28 (.load 26 (.const (.pointer (some ⟨gi, 0, none⟩)))) 26 (.int .u64 0) (by as_aux_lemma => kernel_rfl) (by as_aux_lemma => kernel_rfl) (by as_aux_lemma => kernel_rfl) (fun _ _ _ _ _ h => h) (fun W hS => by have z0 := hS.i.cell 0; have z1 := hS.i.cell 1; simp at z0 z1; clear hS hHeld; unfold cEv opC; as_aux_lemma => first | (go_simp; done) | (go_simp <;> rfl)) hHeld ?_
      refine readyO [3] (by as_aux_lemma => kernel_rfl) (by simp) ?_
      refine callO 3 26 (.call { callee := .value (.func 84), args := #[.const (.slice Aq nq cq), .const (.slice none 0 0)], argTypes := #[25, 25] }) 26 84 #[.slice Aq nq cq, .slice none 0 0] (by as_aux_lemma => kernel_rfl) (by as_aux_lemma => kernel_rfl) (by unfold cEv opC; go_simp) ?_ AllReadyH.nil
      refine (refDist_any Aq none nq cq 0 0 qs [] _ hHeld.q.1 HNq.out HQI.out hcq hcq2 hHeld.q.2 rfl (fun y hy => by simp at hy) (by omega) (by omega)).mono ?_
      rintro e _ ⟨rfl, rfl⟩
      refine ⟨_, rfl, hHeld, fun hHeld2 => ?_⟩
      clear hHeld
      have hHeld := hHeld2
      clear hHeld2
      refine takeO 6 29 (.build 49 #[(0, .const (.int .u64 (distOf qs []))), (1, .const (.int .u64 0))]) 49 (.agg #[.int .u64 (distOf qs []), .int .u64 0]) (by as_aux_lemma => kernel_rfl) (by as_aux_lemma => kernel_rfl) (by as_aux_lemma => kernel_rfl) (fun _ _ _ _ _ h => h) (fun W hS => by clear hS hHeld; unfold cEv opC; as_aux_lemma => first | (go_simp; done) | (go_simp <;> rfl)) hHeld ?_
      refine takeO 8 31 (.build 51 #[(0, .const (.agg #[.int .u64 (distOf qs []), .int .u64 0])), (1, .const (.int .i64 slot))]) 51 (.agg #[.int .u64 (distOf qs []), .int .u64 0, .int .i64 slot]) (by as_aux_lemma => kernel_rfl) (by as_aux_lemma => kernel_rfl) (by as_aux_lemma => kernel_rfl) (fun _ _ _ _ _ h => h) (fun W hS => by clear hS hHeld; unfold cEv opC; as_aux_lemma => first | (go_simp; done) | (go_simp <;> rfl)) hHeld ?_
      refine readyO [9] (by as_aux_lemma => kernel_rfl) (by simp) ?_
      have hst := spot_storedW HZ2.out rfl hHeld.bel hHeld.hs ((distOf qs [], 0), (slot : Int))
      simp only at hst
      have x0 := HZ2.out.cell 0
      have x1 := HZ2.out.cell 1
      have x2 := HZ2.out.cell 2
      have f0 := HZ2.out.frozen 0
      have f1 := HZ2.out.frozen 1
      have f2 := HZ2.out.frozen 2
      simp at x0 x1 x2
      refine storeO 9 (.store 51 (.const (.pointer (some ⟨gs, 0, none⟩))) (.const (.agg #[.int .u64 (distOf qs []), .int .u64 0, .int .i64 slot]))) 0 (((Wd.setCell ⟨gs, 0, none⟩ (.int .u64 (distOf qs []))).setCell ⟨gs, 1, none⟩ (.int .u64 0)).setCell ⟨gs, 2, none⟩ (.int .i64 slot)) (by as_aux_lemma => kernel_rfl) (by as_aux_lemma => kernel_rfl) (by unfold cEv opC; go_simp) (hHeld.stored ((distOf qs [], 0), (slot : Int))) (fun hHeld2 => ?_) AllReadyH.nil
      clear hHeld
      have hHeld := hHeld2
      clear hHeld2
      refine doneO [(23, .slice Aq nq cq), (0, .pointer (some ⟨gi, 1, none⟩)), (0, .slice none 0 0), (0, .int .u64 (distOf qs [])), (0, .pointer (some ⟨gi, 0, none⟩)), (0, .int .u64 0), (0, .agg #[.int .u64 (distOf qs []), .int .u64 0]), (0, .int .i64 slot), (0, .agg #[.int .u64 (distOf qs []), .int .u64 0, .int .i64 slot])] (by as_aux_lemma => kernel_rfl) (by as_aux_lemma => kernel_rfl) ?_
      simp only [fillG]
      go_wp2
      have q0 := hst.1.cell 0
      have q1 := hst.1.cell 1
      have q2 := hst.1.cell 2
      simp at q0 q1 q2
      exact bodyPost_ret (v := .agg #[.int .u64 (distOf qs []), .int .u64 0, .int .i64 slot]) (by simp [results, Tryz.results106, go_sem, q0, q1, q2]) rfl ⟨rfl, hst.2⟩
theorem PlW.rspot (h : PlW w N nn ns Aq nq cq qs) (slot : Int) : Calls Tryz.prog 106 #[.agg #[.slice N nn cN, .int .i64 en, .int .i64 top], .slice Aq nq cq, .int .i64 slot] w fun e w' => e = .returned (.agg #[.int .u64 (spotF ns qs slot).1.1, .int .u64 (spotF ns qs slot).1.2, .int .i64 slot]) ∧ Below w.heap.size w w' :=
  rfSpot_any h.nd h.len h.ok h.q h.lq h.c1 h.c2 h.qi slot
/-- the plane's variable, the neighbours as they stand in the node -/
def RawB (w : World) (b3 : Nat) (cs : Array Value) (l : List Int) (A : Option Addr) (n c : Nat) (W : World) : Prop := PlB w b3 cs W ∧ l.length = n ∧ n ≤ c ∧ c ≤ 9223372036854775807 ∧ W.ownsRow w.heap.size 3 1 (.slice A n c) n (fcs encI l)
theorem RawB.step {w W W' : World} {b3 : Nat} {cs : Array Value} {l : List Int} {A : Option Addr} {n c : Nat} (h : RawB w b3 cs l A n c W) (hb : Below W.heap.size W W') : RawB w b3 cs l A n c W' := ⟨h.1.step hb, h.2.1, h.2.2.1, h.2.2.2.1, own_keep h.2.2.2.2 fun g hg => hb.block g (h.2.2.2.2.lt g hg).2⟩
/-- .. and those that stay -/
def NeB (w : World) (b3 : Nat) (cs : Array Value) (raw : List Int) (A : Option Addr) (n c : Nat) (B : Option Addr) (l : List Int) (W : World) : Prop := RawB w b3 cs raw A n c W ∧ RdR (Sh.int .i64) W (Btw w.heap.size W.heap.size) B l
theorem NeB.step {w W W' : World} {b3 : Nat} {cs : Array Value} {raw l : List Int} {A B : Option Addr} {n c : Nat} (h : NeB w b3 cs raw A n c B l W) (hb : Below W.heap.size W W') : NeB w b3 cs raw A n c B l W' := ⟨h.1.step hb, (h.2.keepBlocks fun d hd => hb.block d hd.2).more fun d hd => ⟨hd.1, Nat.lt_of_lt_of_le hd.2 hb.size⟩⟩
theorem NeB.raw {w W : World} {b3 : Nat} {cs : Array Value} {raw l : List Int} {A B : Option Addr} {n c : Nat} (h : NeB w b3 cs raw A n c B l W) : RdR (Sh.int .i64) W (Btw w.heap.size W.heap.size) A raw := by
  have := flatI.own h.1.2.2.2.2
  exact this
theorem NeB.rd {w W : World} {b3 : Nat} {cs : Array Value} {raw l : List Int} {A B : Option Addr} {n c : Nat} (h : NeB w b3 cs raw A n c B l W) : Rd (Sh.int .i64) W W.heap.size B l := h.2.rd fun d hd => hd.2
theorem kept_with {ns : List NodeP} {l : List Int} {k : Nat} {x : Int} (h : l[k]? = some x) (ht : thereF ns x = true) : kept ns l (k + 1) = withF (kept ns l k) x := by
  rw [kept_succ h]
  unfold withF stayF
  by_cases hx : x ∈ l.take k
  · rw [if_pos (kept_all ht hx), if_neg (by simp [hx]), List.append_nil]
  · rw [if_neg (fun e => hx (kept_sub e)), if_pos (by rw [decide_eq_true hx, ht]; rfl)]
theorem kept_not {ns : List NodeP} {l : List Int} {k : Nat} {x : Int} (h : l[k]? = some x) (ht : thereF ns x = false) : kept ns l (k + 1) = kept ns l k := by
  rw [kept_succ h, if_neg (by unfold stayF; rw [ht]; simp), List.append_nil]
set_option maxHeartbeats 8000000 in
theorem rfNear_any (hx : Rd SNode w w.heap.size N ns) (hn : ns.length = nn) (hok : ∀ x ∈ ns, OkN x) (hsm : ∀ x ∈ ns, SmN x) (slot level : Int) : Calls Tryz.prog 40 #[.agg #[.slice N nn cN, .int .i64 en, .int .i64 top], .int .i64 slot, .int .i64 level] w (GivesN w (nearF ns slot level)) := by
  have hb1 := below1 w (.cells #[.slice N nn cN, .int .i64 en, .int .i64 top] 24)
  have HB1 := hide hb1
  have HP1 := hide (Blk.new w 24 #[.slice N nn cN, .int .i64 en, .int .i64 top])
  have HX := hide hx
  have Hn := hide hn
  by_cases hout : slot < 0 ∨ (nn : Int) ≤ slot
  · have HF := hide (show nearF ns slot level = [] by unfold nearF; rw [if_pos (by rw [hn]; exact hout)])
    clear hb1 hx hn
    have HG := hide (show GivesN w [] (.returned (.slice none 0 0)) (w.alloc (.cells #[.slice N nn cN, .int .i64 en, .int .i64 top] 24)) from ⟨none, 0, 0, rfl, rfl, by omega, by omega, RdR.nil, HB1.out⟩)
    rw [HF.out]
    by_cases h0 : slot < 0
    · have b0 : decide (slot < 0) = true := decide_eq_true h0
      go_enter Tryz.func40, Tryz.ntmps40
      go_wp2
      go_ret
      exact HG.out
    · have b0 : decide (slot < 0) = false := decide_eq_false h0
      have h1 : (nn : Int) ≤ slot := by omega
      have b1 : decide ((nn : Int) ≤ slot) = true := decide_eq_true h1
      go_enter Tryz.func40, Tryz.ntmps40
      go_wp2
      go_ret
      exact HG.out
  obtain ⟨k, rfl⟩ : ∃ k : Nat, slot = k := ⟨slot.toNat, by omega⟩
  have hk0 : (0 : Int) ≤ k := by omega
  have hk1 : (k : Int) < nn := by omega
  have b0 : decide ((k : Int) < 0) = false := decide_eq_false (by omega)
  have b1 : decide ((nn : Int) ≤ k) = false := decide_eq_false (by omega)
  obtain ⟨ad, x, V, cV, L, cL, rfl, hbl, hkx, hc⟩ := hx.node (k := k) (by omega)
  have HOk := hide (hok x (List.mem_of_getElem? hkx))
  have HSm := hide (hsm x (List.mem_of_getElem? hkx))
  have HF := hide (show nearF ns k level = kept ns (rawF x k level) (rawF x k level).length by
    unfold nearF
    rw [if_neg (by rw [hn]; exact hout), show ((k : Int)).toNat = k by omega, hkx])
  have HC := hide hc
  have hcell : ∀ p : Addr, p.block = ad.block → (w.alloc (.cells #[.slice (some ad) nn cN, .int .i64 en, .int .i64 top] 24)).cell? p = w.cell? p := fun p hp => hb1.cell (by rw [hp]; exact hbl)
  have hba : (ad.add (k * 7)).block = ad.block := block_of_add _ _
  have c0 := (hcell _ hba).trans hc.c0
  have c1 := (hcell ⟨(ad.add (k * 7)).block, (ad.add (k * 7)).off + 1, none⟩ hba).trans hc.c1
  have c2 := (hcell ⟨(ad.add (k * 7)).block, (ad.add (k * 7)).off + 2, none⟩ hba).trans hc.c2
  have c3 := (hcell ⟨(ad.add (k * 7)).block, (ad.add (k * 7)).off + 3, none⟩ hba).trans hc.c3
  have c4 := (hcell ⟨(ad.add (k * 7)).block, (ad.add (k * 7)).off + 4, none⟩ hba).trans hc.c4
  have c5 := (hcell ⟨(ad.add (k * 7)).block, (ad.add (k * 7)).off + 5, none⟩ hba).trans hc.c5
  have c6 := (hcell ⟨(ad.add (k * 7)).block, (ad.add (k * 7)).off + 6, none⟩ hba).trans hc.c6
  rw [HF.out]
  obtain ⟨⟨id, vs, tg⟩, lv, ls, nx, pv⟩ := x
  simp only at c0 c1 c2 c3 c4 c5 c6
  clear hx hn hok hsm hout hc hcell hba hb1 hkx hbl
  go_enter Tryz.func40, Tryz.ntmps40
  go_upto_region 4 with fail
  have HB2 := hide (Below.step HB1.out (below1 (w.alloc (.cells #[.slice (some ad) nn cN, .int .i64 en, .int .i64 top] 24)) (.cells #[.int .u64 id, .slice V vs.length cV, .int .u64 tg, .int .i64 lv, .slice L ls.length cL, .int .i64 nx, .int .i64 pv] 43)))
  have HP2 := hide (HP1.out.alloc (.cells #[.int .u64 id, .slice V vs.length cV, .int .u64 tg, .int .i64 lv, .slice L ls.length cL, .int .i64 nx, .int .i64 pv] 43))
  have HN2 := hide (show Blk ((w.alloc (.cells #[.slice (some ad) nn cN, .int .i64 en, .int .i64 top] 24)).alloc (.cells #[.int .u64 id, .slice V vs.length cV, .int .u64 tg, .int .i64 lv, .slice L ls.length cL, .int .i64 nx, .int .i64 pv] 43)) (w.heap.size + 1) 43 #[.int .u64 id, .slice V vs.length cV, .int .u64 tg, .int .i64 lv, .slice L ls.length cL, .int .i64 nx, .int .i64 pv] by have := Blk.new (w.alloc (.cells #[.slice (some ad) nn cN, .int .i64 en, .int .i64 top] 24)) 43 #[.int .u64 id, .slice V vs.length cV, .int .u64 tg, .int .i64 lv, .slice L ls.length cL, .int .i64 nx, .int .i64 pv]; simpa using this)
  clear c0 c1 c2 c3 c4 c5 c6 HB1 HP1
  generalize World.alloc (World.alloc w _) _ = W2 at *
  generalize w.heap.size + 1 = g2 at *
  obtain ⟨b3, hb3⟩ : ∃ b, w.heap.size = b := ⟨_, rfl⟩
  rw [hb3] at HP2
  rw [hb3]
  clear hb3
  have d4 := HN2.out.cell 4
  have d5 := HN2.out.cell 5
  have d6 := HN2.out.cell 6
  simp at d4 d5 d6
  have HK := hide (show RawB w b3 #[.slice (some ad) nn cN, .int .i64 en, .int .i64 top] [] none 0 0 W2 from ⟨⟨HB2.out, HP2.out⟩, rfl, by omega, by omega, World.ownsRow_nil _ _ _ _⟩)
  obtain ⟨b1, hb1⟩ : ∃ b, decide (0 < (k : Int) ∧ 0 ≤ level ∧ level < ls.length) = b := ⟨_, rfl⟩
  have HB1 := hide hb1
  clear hb1
  have HNd := HN2
  clear HN2
  go_upto_region 5 with fail
  go_cut [38] (fun s wx => s = .bool b1 ∧ W2 = wx)
  case first =>
    by_cases h1 : 0 < (k : Int)
    · have e1 : decide (0 < (k : Int)) = true := decide_eq_true h1
      have e1' : decide (0 < k) = true := decide_eq_true (by omega)
      by_cases h2 : 0 ≤ level
      · have e2 : decide (0 ≤ level) = true := decide_eq_true h2
        by_cases h3 : level < ls.length
        · have e3 : decide (level < (ls.length : Int)) = true := decide_eq_true h3
          have HE := hide (show b1 = true from by rw [← HB1.out]; exact decide_eq_true ⟨h1, h2, h3⟩)
          clear h1 h2 h3
          go_wp2_with fail
          go_meet
          case rel => exact ⟨by rw [HE.out], rfl⟩
        · have e3 : decide (level < (ls.length : Int)) = false := decide_eq_false h3
          have HE := hide (show b1 = false from by rw [← HB1.out]; exact decide_eq_false (fun h => h3 h.2.2))
          clear h1 h2 h3
          go_wp2_with fail
          go_meet
          case rel => exact ⟨by rw [HE.out], rfl⟩
      · have e2 : decide (0 ≤ level) = false := decide_eq_false h2
        have HE := hide (show b1 = false from by rw [← HB1.out]; exact decide_eq_false (fun h => h2 h.2.1))
        clear h1 h2
        go_wp2_with fail
        go_meet
        case rel => exact ⟨by rw [HE.out], rfl⟩
    · have e1 : decide (0 < (k : Int)) = false := decide_eq_false h1
      have e1' : decide (0 < k) = false := decide_eq_false (by omega)
      have HE := hide (show b1 = false from by rw [← HB1.out]; exact decide_eq_false (fun h => h1 h.1))
      clear h1
      go_wp2_with fail
      go_meet
      case rel => exact ⟨by rw [HE.out], rfl⟩
  case rest =>
    obtain ⟨rfl, rfl⟩ := hcut
    clear d4 d5 d6 HB2 HP2
    go_upto_if 38 with (fail)
    go_cut [8] (fun s8 wx => ∃ A n c, s8 = .slice A n c ∧ n ≤ 100 ∧ Hid (RawB w b3 #[.slice (some ad) nn cN, .int .i64 en, .int .i64 top] (if b1 = true then (ls[level.toNat]?).getD [] else []) A n c wx) ∧ Hid (Blk wx g2 43 #[.int .u64 id, .slice V vs.length cV, .int .u64 tg, .int .i64 lv, .slice L ls.length cL, .int .i64 nx, .int .i64 pv]))
    case first =>
      rcases b1 with _ | _
      · go_wp2_with fail
        go_meet
        case rel => exact ⟨none, 0, 0, rfl, by omega, hide (by simpa using HK.out), HNd⟩
      · obtain ⟨h1, h2, h3⟩ := of_decide_eq_true HB1.out
        obtain ⟨lev, rfl⟩ : ∃ m : Nat, level = m := ⟨level.toNat, by omega⟩
        obtain ⟨adL, li, Li, cLi, hAL, hbL, hli, q0, q1, q2, hrl⟩ := RdR.slc HC.out.l (k := lev) (show lev < ls.length by omega)
        obtain rfl : L = some adL := hAL
        have HLi := hide (show (ls[((lev : Int)).toNat]?).getD [] = li from by rw [show ((lev : Int)).toNat = lev by omega, hli]; rfl)
        have q0' : W2.cell? (adL.add lev) = some (.slice Li li.length cLi) := (HK.out.1.bel.cell (by rw [block_of_add]; exact hbL)).trans q0
        have HRl := hide (show Rd (Sh.int .i64) W2 W2.heap.size Li li from Rd.at_world hrl HK.out.1.bel)
        have hl80 : li.length ≤ 80 := HSm.out.2.2 li (List.mem_of_getElem? hli)
        have d4 := HNd.out.cell 4
        simp at d4
        have l0 : (0 : Int) ≤ lev := by omega
        have l1 : (lev : Int) < ls.length := by omega
        clear hli q0 hrl hbL h1 h2 h3
        obtain ⟨nl, hnl⟩ : ∃ n, li.length = n := ⟨_, rfl⟩
        have HNl := hide hnl
        rw [hnl] at q0' q1 hl80
        clear hnl
        go_wp2_with (at_builtin; go_loud (refine wpList_append_ints rfl (.tmp 39) (.tmp 44) 27 rfl w.heap.size Tryz.underlying27 info_intE rfl (.slice none 0 0) 0 [] rfl HK.out.2.2.2.2 _ Li nl cLi li rfl HRl.out HNl.out (by simp only [maxLen]; omega) (by omega) HK.out.1.bel.size ?_; intro v9 w9 hown9 hgr9 hat9; obtain ⟨A9, c9, rfl, k1, k2⟩ := own_form hown9; have HK9 := hide (show RawB w b3 #[.slice (some ad) nn cN, .int .i64 en, .int .i64 top] (if true = true then (ls[((lev : Int)).toNat]?).getD [] else []) A9 nl c9 w9 from ⟨⟨below_own HK.out.1.bel HK.out.2.2.2.2 HK.out.1.bel.size hgr9, HK.out.1.pl.grown hgr9 (by simp [Value.ownBlock])⟩, by rw [if_pos rfl, HLi.out, HNl.out], by omega, k2, by rw [if_pos rfl, HLi.out, fcsI]; simpa using hown9⟩); have HN9 := hide (HNd.out.grown hgr9 (by simp [Value.ownBlock])); clear hown9 hgr9 hat9))
        go_meet
        case rel => exact ⟨A9, nl, c9, by simp, by omega, HK9, HN9⟩
    case rest =>
      obtain ⟨A, n, c, rfl, hn, HK2, HN2⟩ := hcut
      clear HK HNd
      obtain ⟨b2, hb2⟩ : ∃ b, (level == 0) = b := ⟨_, rfl⟩
      go_upto_if 47 with (fail)
      go_cut [8] (fun s8 wx => ∃ A n c, s8 = .slice A n c ∧ n ≤ 200 ∧ Hid (RawB w b3 #[.slice (some ad) nn cN, .int .i64 en, .int .i64 top] (rawF ((id, vs, tg), lv, ls, nx, pv) k level) A n c wx))
      case first =>
        have HE1 := hide (show (if 0 < (k : Int) ∧ 0 ≤ level ∧ level < ls.length then (ls[level.toNat]?).getD [] else []) = (if b1 = true then (ls[level.toNat]?).getD [] else []) from by
          have h := HB1.out
          by_cases hq : 0 < (k : Int) ∧ 0 ≤ level ∧ level < ls.length
          · rw [if_pos hq, if_pos (by rw [← h]; exact decide_eq_true hq)]
          · rw [if_neg hq, if_neg (by rw [← h, decide_eq_false hq]; simp)])
        rcases b2 with _ | _
        · have HR := hide (show rawF ((id, vs, tg), lv, ls, nx, pv) k level = (if b1 = true then (ls[level.toNat]?).getD [] else []) from by
            unfold rawF
            rw [if_neg (show ¬ level = 0 from by simpa using hb2), List.append_nil]
            exact HE1.out)
          clear hb2
          go_wp2_with fail
          go_meet
          case rel => exact ⟨A, n, c, rfl, by omega, by rw [HR.out]; exact HK2⟩
        · have HR := hide (show rawF ((id, vs, tg), lv, ls, nx, pv) k level = (if b1 = true then (ls[level.toNat]?).getD [] else []) ++ [nx, pv] from by
            unfold rawF
            rw [if_pos (show level = 0 from by simpa using hb2)]
            show (if 0 < (k : Int) ∧ 0 ≤ level ∧ level < ls.length then (ls[level.toNat]?).getD [] else []) ++ [nx, pv] = _
            rw [HE1.out])
          clear hb2
          obtain ⟨l1, hl1⟩ : ∃ l, (if b1 = true then (ls[level.toNat]?).getD [] else []) = l := ⟨_, rfl⟩
          rw [hl1] at HK2 HR
          clear hl1 HE1
          have d5 := HN2.out.cell 5
          have d6 := HN2.out.cell 6
          simp at d5 d6
          have HRl := hide (show Rd (Sh.int .i64) (wc.alloc (.cells #[.int .i64 nx, .int .i64 pv] 3)) (wc.alloc (.cells #[.int .i64 nx, .int .i64 pv] 3)).heap.size (some ⟨wc.heap.size, 0, none⟩) [nx, pv] from flatI.blk (l := [nx, pv]) (Blk.new wc 3 #[.int .i64 nx, .int .i64 pv]) rfl)
          have HOa := hide (own_keep (w' := wc.alloc (.cells #[.int .i64 nx, .int .i64 pv] 3)) HK2.out.2.2.2.2 fun g hg => (below1 wc _).block g (HK2.out.2.2.2.2.lt g hg).2)
          have HPa := hide (HK2.out.1.step (below1 wc (.cells #[.int .i64 nx, .int .i64 pv] 3)))
          have HLk := hide HK2.out.2.1
          clear HN2 HK2
          go_wp2_with (at_builtin; go_loud (refine wpList_append_ints rfl (.tmp 48) (.tmp 53) 27 rfl w.heap.size Tryz.underlying27 info_intE rfl (.slice A n c) n (fcs encI l1) rfl HOa.out _ _ 2 2 [nx, pv] rfl HRl.out rfl (by simp only [maxLen]; omega) (by omega) HPa.out.bel.size ?_; intro v9 w9 hown9 hgr9 hat9; obtain ⟨A9, c9, rfl, k1, k2⟩ := own_form hown9; have HK9 := hide (show RawB w b3 #[.slice (some ad) nn cN, .int .i64 en, .int .i64 top] (rawF ((id, vs, tg), lv, ls, nx, pv) k level) A9 (n + 2) c9 w9 from ⟨⟨below_own HPa.out.bel HOa.out HPa.out.bel.size hgr9, HPa.out.pl.grown hgr9 (fun e => own_blk_ne HOa.out HPa.out.pl (by decide) e.symm)⟩, by rw [HR.out, List.length_append, HLk.out]; rfl, by omega, k2, by rw [HR.out]; rw [fcsI] at hown9 ⊢; simpa using hown9⟩); clear hown9 hgr9 hat9))
          go_meet
          case rel => exact ⟨A9, n + 2, c9, rfl, by omega, HK9⟩
      case rest =>
        obtain ⟨A1, n1, c1, rfl, hn1, HK3⟩ := hcut
        obtain ⟨raw, hraw⟩ : ∃ l, rawF ((id, vs, tg), lv, ls, nx, pv) k level = l := ⟨_, rfl⟩
        have HRaw := hide hraw
        rw [hraw] at HK3
        clear hraw
        have HK0 := hide (show NeB w b3 #[.slice (some ad) nn cN, .int .i64 en, .int .i64 top] raw A1 n1 c1 none [] wc from ⟨HK3.out, RdR.nil⟩)
        have Hln := hide HK3.out.2.1
        clear HK3 HK2 HN2
        go_wp2
        go_loopw [9, 57] (fun o i wr => ∃ (j m : Nat) (B : Option Addr) (d : Nat), j ≤ n1 ∧ m ≤ j ∧ i = .int .i64 j ∧ o = .slice B m d ∧ m ≤ d ∧ d ≤ 9223372036854775807 ∧ Hid ((kept ns raw j).length = m) ∧ Hid (NeB w b3 #[.slice (some ad) nn cN, .int .i64 en, .int .i64 top] raw A1 n1 c1 B (kept ns raw j) wr)) (fun _ i _ => n1 - (intOf i).toNat)
        case atStart => exact ⟨0, 0, none, 0, by omega, by omega, rfl, rfl, by omega, by omega, hide rfl, HK0⟩
        case round =>
          obtain ⟨j, m, B, d, hj, hm, rfl, rfl, hd1, hd2, HL, HB⟩ := hrel
          clear HK0
          by_cases hlt : j < n1
          · have g0 : (0 : Int) ≤ j := by omega
            have g1 : (j : Int) < n1 := by omega
            obtain ⟨al, y, rfl, _, hv, q0⟩ := RdR.icell HB.out.raw (k := j) (by have := Hln.out; omega)
            have HV := hide hv
            have CT := hide (fun (W : World) (hb : Below w.heap.size w W) => rfThere_any (nn := nn) (cN := cN) (en := en) (top := top) (HX.out.at_world hb) Hn.out y)
            obtain ⟨p0, p1, p2⟩ := HB.out.1.1.cells
            clear hv
            rcases ht : thereF ns y with _ | _
            · rw [ht] at CT
              have HSn := hide (kept_not HV.out ht)
              clear ht
              go_wp2_with (go_at_call 60; refine (CT.out _ HB.out.1.1.bel).mono ?_; rintro e w2 ⟨rfl, hb⟩; have HB2 := hide (HB.out.step hb); clear hb)
              go_roundw
              case rel => exact ⟨j + 1, m, B, d, by omega, by omega, by go_num, rfl, hd1, hd2, by rw [HSn.out]; exact HL, by rw [HSn.out]; exact HB2⟩
              case measure => simp [intOf]; omega
            · rw [ht] at CT
              have HSn := hide (kept_with HV.out ht)
              have HSl := hide (show m ≤ (kept ns raw (j + 1)).length ∧ (kept ns raw (j + 1)).length ≤ m + 1 from by
                rw [HSn.out]; unfold withF; have := HL.out
                split
                · omega
                · rw [List.length_append]; simp; omega)
              clear ht
              go_wp2_with (first
                | (go_at_call 60; refine (CT.out _ HB.out.1.1.bel).mono ?_; rintro e w2 ⟨rfl, hb⟩; have HB2 := hide (HB.out.step hb); clear hb)
                | (go_at_call 65; go_loud (refine (refWith_any B m d (kept ns raw j) y _ HB2.out.rd HL.out hd1 hd2 (by omega)).mono ?_; rintro e w3 ⟨v3, rfl, B3, n3, d3, rfl, l3, l4, l5, hr3, hb3⟩; have HB3 := hide (show NeB w b3 #[.slice (some ad) nn cN, .int .i64 en, .int .i64 top] raw (some al) n1 c1 B3 (kept ns raw (j + 1)) w3 from ⟨(HB2.out.step hb3).1, by rw [HSn.out]; exact hr3.more fun e he => ⟨Nat.le_trans HB2.out.1.1.bel.size he.1, he.2⟩⟩); have HL3 := hide (show (kept ns raw (j + 1)).length = n3 from by rw [HSn.out]; exact l3); clear l3 hr3 hb3)))
              go_roundw
              case rel => exact ⟨j + 1, n3, B3, d3, by omega, by have := HSl.out; have := HL3.out; omega, by go_num, rfl, l4, l5, HL3, HB3⟩
              case measure => simp [intOf]; omega
          · obtain rfl : n1 = j := by omega
            have HE := hide (show kept ns raw raw.length = kept ns raw n1 from by rw [Hln.out])
            go_wp2
            go_ret
            rw [HRaw.out]
            exact ⟨B, m, d, rfl, by rw [HE.out]; exact HL.out, hd1, hd2, by rw [HE.out]; exact HB.out.2, HB.out.1.1.bel⟩
end
end Go.Proofs.YtphbdffgeeicaabGreat

/-
  The document's walks: Step, Level, Down. Conditions: the slices read as lists.
-/
namespace Go.Proofs.YtphbdffgeeicaabGreat
set_option linter.unusedSimpArgs false
set_option linter.unusedVariables false
open Go.RowKit

theorem Blk.tri {W : World} {b : Nat} {T : TypeId} {a0 a1 a2 : Value} (h : Blk W b T #[a0, a1, a2]) : W.cell? ⟨b, 0, none⟩ = some a0 ∧ W.cell? ⟨b, 1, none⟩ = some a1 ∧ W.cell? ⟨b, 2, none⟩ = some a2 := by
  have p0 := h.cell 0
  have p1 := h.cell 1
  have p2 := h.cell 2
  simp at p0 p1 p2
  exact ⟨p0, p1, p2⟩
/-- the best of a spot and those of slots -/
def bestF (ns : List NodeP) (q : List Int) (l : List Int) (b : Spt) : Spt := l.foldl (fun b n => if sptLt (spotF ns q n) b = true then spotF ns q n else b) b
theorem best_snoc {ns : List NodeP} {q l : List Int} {b : Spt} {k : Nat} {x : Int} (h : l[k]? = some x) : bestF ns q (l.take (k + 1)) b = if sptLt (spotF ns q x) (bestF ns q (l.take k) b) = true then spotF ns q x else bestF ns q (l.take k) b := by
  unfold bestF
  rw [takeI_snoc h, List.foldl_append]; rfl
theorem nlt_trans {a b c : Spt} (h1 : sptLt b a = false) (h2 : sptLt c b = false) : sptLt c a = false := by
  rw [not_spt] at *
  omega
theorem best_spec {ns : List NodeP} {q : List Int} : ∀ (l : List Int) (b : Spt), (bestF ns q l b = b ∨ ∃ n ∈ l, bestF ns q l b = spotF ns q n) ∧ sptLt b (bestF ns q l b) = false ∧ ∀ n ∈ l, sptLt (spotF ns q n) (bestF ns q l b) = false
  | [], b => ⟨.inl rfl, swoS.irrefl _, by simp⟩
  | x :: l, b => by
    by_cases h : sptLt (spotF ns q x) b = true
    · have e : bestF ns q (x :: l) b = bestF ns q l (spotF ns q x) := by unfold bestF; rw [List.foldl_cons, if_pos h]
      rw [e]
      obtain ⟨h1, h2, h3⟩ := best_spec l (spotF ns q x)
      refine ⟨.inr ?_, nlt_trans h2 ?_, fun n hn => ?_⟩
      · rcases h1 with h1 | ⟨n, hn, h1⟩
        · exact ⟨x, by simp, h1⟩
        · exact ⟨n, List.mem_cons_of_mem _ hn, h1⟩
      · rcases e2 : sptLt b (spotF ns q x) with _ | _
        · rfl
        · exact absurd (swoS.trans _ _ _ h e2) (by rw [swoS.irrefl]; simp)
      · rcases List.mem_cons.1 hn with rfl | hn
        · exact h2
        · exact h3 n hn
    · have e : bestF ns q (x :: l) b = bestF ns q l b := by unfold bestF; rw [List.foldl_cons, if_neg h]
      rw [e]
      obtain ⟨h1, h2, h3⟩ := best_spec l b
      refine ⟨?_, h2, fun n hn => ?_⟩
      · rcases h1 with h1 | ⟨n, hn, h1⟩
        · exact .inl h1
        · exact .inr ⟨n, List.mem_cons_of_mem _ hn, h1⟩
      · rcases List.mem_cons.1 hn with rfl | hn
        · exact nlt_trans h2 (by simpa using h)
        · exact h3 n hn
theorem best_step (ns : List NodeP) (q : List Int) (slot level : Int) : bestF ns q (nearF ns slot level) (spotF ns q slot) = spotF ns q (stepF ns q slot level) := by
  obtain ⟨b, _, _, h1, h2⟩ := step_spec ns q slot level
  obtain ⟨k1, k2, k3⟩ := best_spec (ns := ns) (q := q) (nearF ns slot level) (spotF ns q slot)
  refine totS _ _ ?_ ?_
  · refine h2 _ ?_
    unfold seenF
    rcases k1 with k1 | ⟨n, hn, k1⟩
    · rw [k1]; simp
    · rw [k1]; exact List.mem_cons_of_mem _ (List.mem_map.2 ⟨n, hn, rfl⟩)
  · rcases h1 with h1 | h1
    · rw [h1]; exact k2
    · exact k3 _ h1
/-- while Step goes: the plane's variable, the best, the neighbours -/
structure StB (w : World) (b4 : Nat) (cs : Array Value) (b10 : Nat) (s : Spt) (W : World) : Prop where
  p : PlB w b4 cs W
  b : Blk W b10 51 #[.int .u64 s.1.1, .int .u64 s.1.2, .int .i64 s.2]
  hb : w.heap.size ≤ b10
theorem StB.step {w W W' : World} {b4 b10 : Nat} {cs : Array Value} {s : Spt} (h : StB w b4 cs b10 s W) (hb : Below W.heap.size W W') : StB w b4 cs b10 s W' := ⟨h.p.step hb, h.b.below hb h.b.lt, h.hb⟩
theorem StB.set {w W : World} {b4 b10 : Nat} {cs : Array Value} {s : Spt} (h : StB w b4 cs b10 s W) (t : Spt) : StB w b4 cs b10 t (((W.setCell ⟨b10, 0, none⟩ (.int .u64 t.1.1)).setCell ⟨b10, 1, none⟩ (.int .u64 t.1.2)).setCell ⟨b10, 2, none⟩ (.int .i64 t.2)) := by
  have h4 : b4 ≠ b10 := h.p.pl.ne_ h.b (by decide)
  refine ⟨⟨((h.p.bel.setCell h.hb _).setCell h.hb _).setCell h.hb _, ((h.p.pl.far h4 _).far h4 _).far h4 _⟩, ?_, h.hb⟩
  have := ((h.b.set_ 0 (.int .u64 t.1.1)).set_ 1 (.int .u64 t.1.2)).set_ 2 (.int .i64 t.2)
  simpa using this
theorem rfSpotB (a b : Spt) {r : Bool} (h : sptLt a b = r) (w : World) : Calls Tryz.prog 64 #[.agg #[.int .u64 a.1.1, .int .u64 a.1.2, .int .i64 a.2], .agg #[.int .u64 b.1.1, .int .u64 b.1.2, .int .i64 b.2]] w fun e w' => e = .returned (.bool r) ∧ Below w.heap.size w w' := h ▸ refSpot_any a b w
section
variable {w W W' : World} {N Aq : Option Addr} {nn cN nq cq : Nat} {ns : List NodeP} {en top : Int} {qs : List Int}
set_option maxHeartbeats 8000000 in
theorem rfStep_any (h : PlW w N nn ns Aq nq cq qs) (slot level : Int) : Calls Tryz.prog 90 #[.agg #[.slice N nn cN, .int .i64 en, .int .i64 top], .slice Aq nq cq, .int .i64 slot, .int .i64 level] w fun e w' => e = .returned (.tuple #[.int .i64 (stepF ns qs slot level), .bool (stepF ns qs slot level != slot)]) ∧ Below w.heap.size w w' := by
  have HP1 := hide (PlB.start w #[.slice N nn cN, .int .i64 en, .int .i64 top])
  have HPl := hide h
  have HEnd := hide (best_step ns qs slot level)
  have hn20 : (nearF ns slot level).length ≤ 20 := by have := near_len ns slot level; have := h.len; have := h.n20; omega
  clear h
  have CS := hide (fun (W : World) (hb : Below w.heap.size w W) (s : Int) => (HPl.out.at_ hb).rspot (cN := cN) (en := en) (top := top) s)
  go_enter Tryz.func90, Tryz.ntmps90
  go_upto_region 1 with fail
  generalize World.alloc w _ = w1 at *
  obtain ⟨b4, hb4⟩ : ∃ b, w.heap.size = b := ⟨_, rfl⟩
  rw [hb4] at HP1
  rw [hb4]
  clear hb4
  obtain ⟨p0, p1, p2⟩ := HP1.out.cells
  go_upto_region 2 with (go_at_call 106; refine (CS.out _ HP1.out.bel slot).mono ?_; rintro e w2 ⟨rfl, hb2⟩; have HP2 := hide (HP1.out.step hb2); clear hb2)
  have HS := hide (show StB w b4 #[.slice N nn cN, .int .i64 en, .int .i64 top] w2.heap.size (spotF ns qs slot) (w2.alloc (.cells #[.int .u64 (spotF ns qs slot).1.1, .int .u64 (spotF ns qs slot).1.2, .int .i64 slot] 51)) from ⟨HP2.out.step (below1 _ _), Blk.new _ _ _, HP2.out.bel.size⟩)
  clear p0 p1 p2 HP1 HP2
  generalize World.alloc w2 _ = w3 at *
  obtain ⟨b10, hb10⟩ : ∃ b, w2.heap.size = b := ⟨_, rfl⟩
  rw [hb10] at HS
  rw [hb10]
  clear hb10
  obtain ⟨p0, p1, p2⟩ := HS.out.p.cells
  go_wp2_with (go_at_call 40; refine (rfNear_any (cN := cN) (en := en) (top := top) (HPl.out.at_ HS.out.p.bel).nd HPl.out.len HPl.out.ok HPl.out.sm slot level).mono ?_; rintro e w4 ⟨A4, n4, c4, rfl, k1, k2, k3, hr4, hb4⟩; have HK1 := hide k1; have HR4 := hide (show RdR (Sh.int .i64) w4 (fun d => b10 < d ∧ d < w4.heap.size) A4 (nearF ns slot level) from hr4.more fun d hd => ⟨Nat.lt_of_lt_of_le HS.out.b.lt hd.1, hd.2⟩); have HS4 := hide (HS.out.step hb4); clear k1 hr4 hb4)
  clear p0 p1 p2 HS
  have hn4 : n4 ≤ 20 := by have := HK1.out; omega
  go_loopw [23] (fun i wr => ∃ (k : Nat), k ≤ n4 ∧ i = .int .i64 k ∧ Hid (RdR (Sh.int .i64) wr (fun d => b10 < d ∧ d < wr.heap.size) A4 (nearF ns slot level)) ∧ Hid (StB w b4 #[.slice N nn cN, .int .i64 en, .int .i64 top] b10 (bestF ns qs ((nearF ns slot level).take k) (spotF ns qs slot)) wr)) (fun i _ => n4 - (intOf i).toNat)
  case atStart => exact ⟨0, by omega, rfl, HR4, HS4⟩
  case round =>
    obtain ⟨k, hk, rfl, HR, HB⟩ := hrel
    clear HR4 HS4
    by_cases hlt : k < n4
    · have g0 : (0 : Int) ≤ k := by omega
      have g1 : (k : Int) < n4 := by omega
      obtain ⟨al, y, rfl, _, hv, q0⟩ := RdR.icell HR.out (k := k) (by have := HK1.out; omega)
      have HSn := hide (best_snoc (ns := ns) (q := qs) (b := spotF ns qs slot) hv)
      clear hv
      obtain ⟨⟨⟨bd, bid⟩, bs⟩, hbst⟩ : ∃ s : Spt, bestF ns qs ((nearF ns slot level).take k) (spotF ns qs slot) = s := ⟨_, rfl⟩
      rw [hbst] at HSn HB
      clear hbst
      obtain ⟨d, id, hsp⟩ : ∃ d id : Int, spotF ns qs y = ((d, id), y) := ⟨_, _, rfl⟩
      have CY := hide (show Calls Tryz.prog 106 #[.agg #[.slice N nn cN, .int .i64 en, .int .i64 top], .slice Aq nq cq, .int .i64 y] wr fun e w' => e = .returned (.agg #[.int .u64 d, .int .u64 id, .int .i64 y]) ∧ Below wr.heap.size wr w' from by
        have h := CS.out wr HB.out.p.bel y
        rw [hsp] at h
        exact h)
      rw [hsp] at HSn
      clear hsp
      obtain ⟨p0, p1, p2⟩ := HB.out.p.cells
      go_upto_region 6 with (go_at_call 106; refine CY.out.mono ?_; rintro e w5 ⟨rfl, hb5⟩; have HB5 := hide (HB.out.step hb5); have HR5 := hide (show RdR (Sh.int .i64) w5 (fun d => b10 < d ∧ d < w5.heap.size) (some al) (nearF ns slot level) from (HR.out.keepBlocks fun d hd => hb5.block d hd.2).more fun d hd => ⟨hd.1, Nat.lt_of_lt_of_le hd.2 hb5.size⟩); clear hb5)
      have hb6 := below1 w5 (.cells #[.int .u64 d, .int .u64 id, .int .i64 y] 51)
      have HS6 := hide (HB5.out.step hb6)
      have HN6 := hide (Blk.new w5 51 #[.int .u64 d, .int .u64 id, .int .i64 y])
      have HR6 := hide (show RdR (Sh.int .i64) (w5.alloc (.cells #[.int .u64 d, .int .u64 id, .int .i64 y] 51)) (fun d => b10 < d ∧ d < w5.heap.size) (some al) (nearF ns slot level) from HR5.out.keepBlocks fun d hd => hb6.block d hd.2)
      have HSz := hide hb6.size
      clear p0 p1 p2 q0 hb6 HB HR HB5 HR5 CY
      generalize World.alloc w5 _ = w6 at *
      obtain ⟨b13, hb13⟩ : ∃ b, w5.heap.size = b := ⟨_, rfl⟩
      rw [hb13] at HN6 HR6 HSz
      rw [hb13]
      clear hb13
      obtain ⟨q0, q1, q2⟩ := HN6.out.tri
      obtain ⟨s0, s1, s2⟩ := HS6.out.b.tri
      rcases c : sptLt ((d, id), y) ((bd, bid), bs) with _ | _
      · have HSn2 := hide (show bestF ns qs ((nearF ns slot level).take (k + 1)) (spotF ns qs slot) = ((bd, bid), bs) from by rw [HSn.out, if_neg (by rw [c]; simp)])
        have CR := hide (rfSpotB ((d, id), y) ((bd, bid), bs) c)
        clear c HSn
        go_wp2_with (go_at_call 64; refine (CR.out _).mono ?_; rintro e w7 ⟨rfl, hb7⟩; have HS7 := hide (HS6.out.step hb7); have HR7 := hide (show RdR (Sh.int .i64) w7 (fun d => b10 < d ∧ d < w7.heap.size) (some al) (nearF ns slot level) from (HR6.out.keepBlocks fun d hd => hb7.block d (Nat.lt_of_lt_of_le hd.2 HSz.out)).more fun d hd => ⟨hd.1, Nat.lt_of_lt_of_le hd.2 (Nat.le_trans HSz.out hb7.size)⟩); clear hb7)
        go_roundw
        case rel => exact ⟨k + 1, by omega, by go_num, HR7, by rw [HSn2.out]; exact HS7⟩
        case measure => simp [intOf]; omega
      · have HSn2 := hide (show bestF ns qs ((nearF ns slot level).take (k + 1)) (spotF ns qs slot) = ((d, id), y) from by rw [HSn.out, if_pos c])
        have CR := hide (rfSpotB ((d, id), y) ((bd, bid), bs) c)
        clear c HSn
        go_upto_region 7 with (go_at_call 64; refine (CR.out _).mono ?_; rintro e w7 ⟨rfl, hb7⟩; have HS7 := hide (HS6.out.step hb7); have HN7 := hide (HN6.out.below hb7 HN6.out.lt); have HR7 := hide (show RdR (Sh.int .i64) w7 (fun d => b10 < d ∧ d < w7.heap.size) (some al) (nearF ns slot level) from (HR6.out.keepBlocks fun d hd => hb7.block d (Nat.lt_of_lt_of_le hd.2 HSz.out)).more fun d hd => ⟨hd.1, Nat.lt_of_lt_of_le hd.2 (Nat.le_trans HSz.out hb7.size)⟩); clear hb7)
        clear q0 q1 q2 s0 s1 s2
        obtain ⟨q0, q1, q2⟩ := HN7.out.tri
        obtain ⟨s0, s1, s2⟩ := HS7.out.b.tri
        have f0 := HS7.out.b.frozen 0
        have f1 := HS7.out.b.frozen 1
        have f2 := HS7.out.b.frozen 2
        have HS8 := hide (HS7.out.set ((d, id), y))
        have HR8 := hide (show RdR (Sh.int .i64) (((w7.setCell ⟨b10, 0, none⟩ (.int .u64 d)).setCell ⟨b10, 1, none⟩ (.int .u64 id)).setCell ⟨b10, 2, none⟩ (.int .i64 y)) (fun q => b10 < q ∧ q < (((w7.setCell ⟨b10, 0, none⟩ (.int .u64 d)).setCell ⟨b10, 1, none⟩ (.int .u64 id)).setCell ⟨b10, 2, none⟩ (.int .i64 y)).heap.size) (some al) (nearF ns slot level) from (HR7.out.keepBlocks fun e he => by
          rw [Below.heap_setCell _ _ _ e (by have := he.1; simp; omega), Below.heap_setCell _ _ _ e (by have := he.1; simp; omega), Below.heap_setCell _ _ _ e (by have := he.1; simp; omega)]).more fun e he => ⟨he.1, by simpa using he.2⟩)
        go_wp2
        go_roundw
        case rel => exact ⟨k + 1, by omega, by go_num, HR8, by rw [HSn2.out]; exact HS8⟩
        case measure => simp [intOf]; omega
    · obtain rfl : n4 = k := by omega
      have HF := hide (show bestF ns qs ((nearF ns slot level).take n4) (spotF ns qs slot) = spotF ns qs (stepF ns qs slot level) from by rw [List.take_of_length_le (by rw [HK1.out]; exact Nat.le_refl _)]; exact HEnd.out)
      rw [HF.out] at HB
      obtain ⟨st, hst⟩ : ∃ z, stepF ns qs slot level = z := ⟨_, rfl⟩
      have s2 : wr.cell? ⟨b10, 2, none⟩ = some (.int .i64 st) := by have h := HB.out.b.tri.2.2; rw [← hst]; exact h
      have HBel := hide HB.out.p.bel
      have HSt := hide hst
      clear hst HF HB
      go_upto_region 9 with fail
      go_quiet (fail)
      go_wp2
      go_ret2
      rw [HSt.out]
      exact ⟨rfl, below_drewN HBel.out _⟩
set_option maxHeartbeats 8000000 in
theorem rfLevel_any (h : PlW w N nn ns Aq nq cq qs) (slot level : Int) : Calls Tryz.prog 67 #[.agg #[.slice N nn cN, .int .i64 en, .int .i64 top], .slice Aq nq cq, .int .i64 slot, .int .i64 level] w (GivesLv ns qs level slot w) := by
  have HB1 := hide (Below.step (below1 w (.cells #[.slice N nn cN, .int .i64 en, .int .i64 top] 24)) (below1 (w.alloc (.cells #[.slice N nn cN, .int .i64 en, .int .i64 top] 24)) (.cells #[.int .i64 slot] 3)))
  have HP1 := hide ((Blk.new w 24 #[.slice N nn cN, .int .i64 en, .int .i64 top]).alloc (.cells #[.int .i64 slot] 3))
  have HO1 := hide (show ((w.alloc (.cells #[.slice N nn cN, .int .i64 en, .int .i64 top] 24)).alloc (.cells #[.int .i64 slot] 3)).ownsRow w.heap.size 3 1 (.slice (some ⟨w.heap.size + 1, 0, none⟩) 1 1) 1 (fcs encI [slot]) by
    have := World.ownsRow_lit (base := w.heap.size) (e := 3) (size := 1) (w.alloc (.cells #[.slice N nn cN, .int .i64 en, .int .i64 top] 24)) #[.int .i64 slot] 1 (by simp) (by decide) rfl
    simpa [fcsI] using this)
  have HPl := hide h
  have h20 : nn ≤ 20 := h.n20
  have Hn := hide h.len
  clear h
  go_enter Tryz.func67, Tryz.ntmps67
  go_wp2_with fail
  generalize World.alloc (World.alloc w _) _ = w1 at *
  generalize w.heap.size + 1 = g1 at *
  obtain ⟨b4, hb4⟩ : ∃ b, w.heap.size = b := ⟨_, rfl⟩
  rw [hb4] at HP1
  rw [hb4]
  clear hb4
  have CS := hide (fun (W : World) (hb : Below w.heap.size w W) (s : Int) => rfStep_any (HPl.out.at_ hb) (cN := cN) (en := en) (top := top) s level)
  go_loopw [2, 9] (fun s o wr => ∃ (p : List Int) (a : Int) (n c : Nat) (A : Option Addr), s = .int .i64 a ∧ o = .slice A n c ∧ n ≤ c ∧ c ≤ 9223372036854775807 ∧ n ≤ 1 + nn ∧ Hid (p.length = n ∧ LvW ns qs level slot p a) ∧ Hid (wr.ownsRow w.heap.size 3 1 (.slice A n c) n (fcs encI p)) ∧ Hid (Below w.heap.size w wr) ∧ Hid (Blk wr b4 24 #[.slice N nn cN, .int .i64 en, .int .i64 top])) (fun s _ _ => aheadN ns qs (intOf s))
  case atStart => exact ⟨[slot], slot, 1, 1, _, rfl, rfl, by omega, by omega, by omega, hide ⟨rfl, LvW.start _ _ _ _⟩, HO1, HB1, HP1⟩
  case round =>
    obtain ⟨p, a, n, c, A, rfl, rfl, hc1, hc2, hn1, HLv, HO, HB, HP⟩ := hrel
    clear HO1 HB1 HP1
    obtain ⟨p0, p1, p2⟩ := HP.out.tri
    by_cases hs : stepF ns qs a level = a
    · have CA := hide (show Calls Tryz.prog 90 #[.agg #[.slice N nn cN, .int .i64 en, .int .i64 top], .slice Aq nq cq, .int .i64 a, .int .i64 level] wr fun e w' => e = .returned (.tuple #[.int .i64 a, .bool false]) ∧ Below wr.heap.size wr w' from by
        have h := CS.out wr HB.out a
        rw [hs] at h
        simpa using h)
      have HDn := hide (HLv.out.2.done hs)
      clear hs
      go_wp2_with (go_at_call 90; refine CA.out.mono ?_; rintro e w2 ⟨rfl, hb2⟩; have HB2 := hide (Below.step HB.out hb2); have HO2 := hide (own_keep HO.out fun d hd => hb2.block d (HO.out.lt d hd).2); clear hb2)
      go_ret
      exact ⟨p, A, n, c, rfl, HDn.out, HLv.out.1, by rw [Hn.out]; exact hn1, hc1, hc2, flatI.own HO2.out, HB2.out⟩
    · have HNx := hide (HLv.out.2.next hs)
      have HMs := hide (show aheadN ns qs (stepF ns qs a level) < aheadN ns qs a from by
        have h3 := step_on hs
        exact ahead_lt (near_there h3.1) h3.2)
      obtain ⟨st, hst⟩ : ∃ z, stepF ns qs a level = z := ⟨_, rfl⟩
      have CA := hide (show Calls Tryz.prog 90 #[.agg #[.slice N nn cN, .int .i64 en, .int .i64 top], .slice Aq nq cq, .int .i64 a, .int .i64 level] wr fun e w' => e = .returned (.tuple #[.int .i64 st, .bool true]) ∧ Below wr.heap.size wr w' from by
        have h := CS.out wr HB.out a
        rw [show (stepF ns qs a level != a) = true by simp [hs], hst] at h
        exact h)
      rw [hst] at HNx HMs
      clear hs hst
      go_wp2_with (first
        | (go_at_call 90; refine CA.out.mono ?_; rintro e w2 ⟨rfl, hb2⟩; have HB2 := hide (Below.step HB.out hb2); have HP2 := hide (HP.out.below hb2 HP.out.lt); have HO2 := hide (own_keep HO.out fun d hd => hb2.block d (HO.out.lt d hd).2); clear hb2)
        | (at_builtin; go_loud (refine wpList_append_elem rfl (.tmp 26) (.tmp 28) 27 rfl w.heap.size Tryz.underlying27 info_intE rfl (by decide) (.slice A n c) n _ rfl HO2.out _ _ rfl rfl (by simp [Value.oneCell']) (by simp only [maxLen]; omega) (by omega) HB2.out.size ?_; intro v9 w9 hown9 hgr9 hat9; have HO9 := hide (show w9.ownsRow w.heap.size 3 1 v9 (n + 1) (fcs encI (p ++ [st])) by rw [fcsI]; simpa [fcsI] using hown9); have HB9 := hide (below_own HB2.out HO2.out HB2.out.size hgr9); have HP9 := hide (HP2.out.grown hgr9 fun e => own_blk_ne HO2.out HP2.out (by decide) e.symm); obtain ⟨A9, c9, rfl, l1, l2⟩ := own_form HO9.out; clear hown9 hgr9 hat9)))
      go_roundw
      case rel => exact ⟨p ++ [st], st, n + 1, c9, A9, rfl, rfl, l1, l2, by have h := HNx.out.sz; rw [List.length_append, HLv.out.1, Hn.out] at h; simp at h; omega, hide ⟨by rw [List.length_append, HLv.out.1]; rfl, HNx.out⟩, HO9, HB9, HP9⟩
      case measure => exact HMs.out
set_option maxHeartbeats 8000000 in
theorem rfDown_any (h : PlW w N nn ns Aq nq cq qs) : Calls Tryz.prog 42 #[.agg #[.slice N nn cN, .int .i64 en, .int .i64 top], .slice Aq nq cq] w fun e w' => ∃ d, e = .returned (.tuple #[.int .i64 d, .bool (thereF ns en)]) ∧ (if thereF ns en = true then DownR ns qs (lvN top) en d else d = 0) ∧ Below w.heap.size w w' := by
  have hb1 := below1 w (.cells #[.slice N nn cN, .int .i64 en, .int .i64 top] 24)
  have HB1 := hide hb1
  have HP1 := hide (Blk.new w 24 #[.slice N nn cN, .int .i64 en, .int .i64 top])
  have HPl := hide h
  have Hn := hide h.len
  have h20 : nn ≤ 20 := h.n20
  clear h hb1
  rcases ht : thereF ns en with _ | _
  · have CT := hide (fun (W : World) (hb : Below w.heap.size w W) => ht ▸ rfThere_any (nn := nn) (cN := cN) (en := en) (top := top) (HPl.out.at_ hb).nd HPl.out.len en)
    clear ht
    go_enter Tryz.func42, Tryz.ntmps42
    go_wp2_with (go_at_call 60; refine (CT.out _ HB1.out).mono ?_; rintro e w2 ⟨rfl, hb2⟩; have HB2 := hide (Below.step HB1.out hb2); clear hb2)
    go_ret2
    exact ⟨0, rfl, by simp, HB2.out⟩
  · have CT := hide (fun (W : World) (hb : Below w.heap.size w W) => ht ▸ rfThere_any (nn := nn) (cN := cN) (en := en) (top := top) (HPl.out.at_ hb).nd HPl.out.len en)
    have CL := hide (fun (W : World) (hb : Below w.heap.size w W) (s l : Int) => rfLevel_any (HPl.out.at_ hb) (cN := cN) (en := en) (top := top) s l)
    clear ht
    go_enter Tryz.func42, Tryz.ntmps42
    go_upto_region 3 with (go_at_call 60; refine (CT.out _ HB1.out).mono ?_; rintro e w2 ⟨rfl, hb2⟩; have HB2 := hide (Below.step HB1.out hb2); have HP2 := hide (HP1.out.below hb2 HP1.out.lt); clear hb2)
    clear HB1 HP1
    obtain ⟨b2, hb2⟩ : ∃ b, w.heap.size = b := ⟨_, rfl⟩
    rw [hb2] at HP2
    rw [hb2]
    have Hb2 := hide hb2
    clear hb2
    have p0 := HP2.out.cell 0
    have p1 := HP2.out.cell 1
    have p2 := HP2.out.cell 2
    simp at p0 p1 p2
    go_wp2
    go_loopw [6, 7, 8] (fun at_ lv _ wr => ∃ (k : Nat) (l a : Int), at_ = .int .i64 a ∧ lv = .int .i64 l ∧ Hid (k = l.toNat ∧ k ≤ 7 ∧ (l ≤ 7)) ∧ Hid (∀ d, DownR ns qs k a d → DownR ns qs (lvN top) en d) ∧ Hid (Below w.heap.size w wr) ∧ Hid (Blk wr b2 24 #[.slice N nn cN, .int .i64 en, .int .i64 top])) (fun _ lv _ _ => (intOf lv).toNat)
    case atStart => exact ⟨lvN top, min top 7, en, rfl, rfl, hide ⟨rfl, by unfold lvN; omega, by omega⟩, hide (fun d h => h), HB2, HP2⟩
    case round =>
      obtain ⟨k, l, a, rfl, rfl, HK, HD, HB, HP⟩ := hrel
      clear HB2 HP2 p0 p1 p2
      by_cases hl : 0 < l
      · have b0 : decide (0 < l) = true := decide_eq_true hl
        have b1 : decide (1 ≤ l) = true := decide_eq_true (by omega)
        obtain ⟨m, hm⟩ : ∃ m, k = m + 1 := ⟨k - 1, by have := HK.out.1; omega⟩
        subst hm
        have hl7 : l ≤ 7 := HK.out.2.2
        have hlm : ((m + 1 : Nat) : Int) = l := by have := HK.out.1; omega
        have HLm := hide hlm
        clear hlm
        have hwr : IntKind.i64.wrap (l - 1) = l - 1 := IntWalk.i64_in _ (by omega)
        have p0 := HP.out.cell 0
        have p1 := HP.out.cell 1
        have p2 := HP.out.cell 2
        simp at p0 p1 p2
        go_upto_region 8 with (go_at_call 67; refine (CL.out _ HB.out a l).mono ?_; rintro e w5 ⟨p, A5, n5, c5, rfl, m1, m2, m3, m4, m5, m6, hb5⟩; have HB5 := hide (Below.step HB.out hb5); have HP5 := hide (HP.out.below hb5 HP.out.lt); have HW := hide m1; have HLn := hide m2; have HN5 := hide m3; have HR := hide m6; clear hb5 m1 m2 m3 m6)
        have hpos : 0 < n5 := by have h := (List.getElem?_eq_some_iff.1 HW.out.p0).1; have := HLn.out; omega
        have hn21 : n5 ≤ 21 := by have h := HN5.out; rw [Hn.out] at h; omega
        obtain ⟨j, hj⟩ : ∃ j, n5 = j + 1 := ⟨n5 - 1, by omega⟩
        obtain ⟨ad5, t, rfl, _, hv, q0⟩ := RdR.cell HR.out (k := j) (by have := HLn.out; omega)
        have HV := hide (show p[p.length - 1]? = some t by rw [HLn.out, show n5 - 1 = j by omega]; exact hv)
        have j0 : (0 : Int) ≤ j := by omega
        have j1 : (j : Int) < n5 := by omega
        have hsub : (n5 : Int) - 1 = j := by omega
        have hwj : IntKind.i64.wrap ((n5 : Int) - 1) = j := by rw [IntWalk.i64_in _ (by omega)]; omega
        have hwj2 : IntKind.i64.wrap (j : Int) = j := IntWalk.i64_in _ (by omega)
        clear hv hj
        go_wp2
        go_roundw
        case rel => exact ⟨m, l - 1, t, rfl, rfl, hide ⟨by have := HLm.out; omega, by have := HK.out.2.1; omega, by omega⟩, hide (fun d hd => HD.out d ⟨p, t, by rw [HLm.out]; exact HW.out, HV.out, hd⟩), HB5, HP5⟩
        case measure => simp [intOf]; omega
      · have b0 : decide (0 < l) = false := decide_eq_false hl
        have b1 : decide (1 ≤ l) = false := decide_eq_false (by omega)
        have HDn := hide (HD.out a (by have := HK.out.1; rw [show k = 0 by omega]; rfl))
        go_wp2
        go_ret2
        exact ⟨a, rfl, by first | exact HDn.out | (rw [if_pos rfl]; exact HDn.out), HB.out⟩
end
end Go.Proofs.YtphbdffgeeicaabGreat

/-
  The document's beam: item, offer. Conditions: the slices read as lists.
-/
namespace Go.Proofs.YtphbdffgeeicaabGreat
set_option linter.unusedSimpArgs false
set_option linter.unusedVariables false
open Go.RowKit

theorem BmI.small {ns : List NodeP} {q : List Int} {mask : Int} {K : Nat} {s : PrS} {dn : List Int} (h : BmI ns q mask K s dn) : s.1.length ≤ ns.length ∧ s.2.1.length ≤ ns.length ∧ s.2.2.length ≤ ns.length := by
  have h1 := h.le
  have h2 := liveK_len ns ns.length
  have h3 : s.1.length ≤ ns.length := Nat.le_trans h1 (by unfold liveF; exact h2)
  have h4 := h.pm.length_eq
  rw [List.length_append, List.length_map] at h4
  refine ⟨h3, by omega, ?_⟩
  rw [h.bs, List.length_take, srtS_len]
  have := tgS_len (ns := ns) (q := q) (mask := mask) s.1
  omega
/-- blocks that are no variable of P -/
def FrO (Z : Nat → Prop) (bp br : Nat) (W : World) (d : Nat) : Prop := d < W.heap.size ∧ d ≠ bp ∧ d ≠ br ∧ ¬ Z d
/-- old blocks that are not of R -/
def Z0 (w : World) (R : Nat → Prop) (d : Nat) : Prop := d < w.heap.size ∧ ¬ R d
/-- a P's lists -/
structure RpN (Z : Nat → Prop) (bp br : Nat) (Ak : Option Addr) (nk ck : Nat) (Aw : Option Addr) (nw cw : Nat) (Ab : Option Addr) (nb cb : Nat) (s : PrS) (W : World) : Prop where
  k : s.1.length = nk ∧ nk ≤ ck ∧ ck ≤ 9223372036854775807
  w : s.2.1.length = nw ∧ nw ≤ cw ∧ cw ≤ 9223372036854775807
  b : s.2.2.length = nb ∧ nb ≤ cb ∧ cb ≤ 9223372036854775807
  rk : RdR (Sh.int .i64) W (FrO Z bp br W) Ak s.1
  rw_ : RdR SP W (FrO Z bp br W) Aw s.2.1
  rb : RdR SP W (FrO Z bp br W) Ab s.2.2
theorem FrO.step {Z : Nat → Prop} {bp br : Nat} {W W' : World} (hb : W.heap.size ≤ W'.heap.size) {d : Nat} (h : FrO Z bp br W d) : FrO Z bp br W' d := ⟨Nat.lt_of_lt_of_le h.1 hb, h.2⟩
theorem RpN.move {Z : Nat → Prop} {bp br : Nat} {Ak Aw Ab : Option Addr} {nk ck nw cw nb cb : Nat} {s : PrS} {W W' : World} (h : RpN Z bp br Ak nk ck Aw nw cw Ab nb cb s W) (hs : W.heap.size ≤ W'.heap.size) (hk : ∀ d, FrO Z bp br W d → W'.heap[d]? = W.heap[d]?) : RpN Z bp br Ak nk ck Aw nw cw Ab nb cb s W' :=
  ⟨h.k, h.w, h.b, (h.rk.keepBlocks hk).more fun d hd => hd.step hs, (h.rw_.keepBlocks hk).more fun d hd => hd.step hs, (h.rb.keepBlocks hk).more fun d hd => hd.step hs⟩
theorem RpN.step {Z : Nat → Prop} {bp br : Nat} {Ak Aw Ab : Option Addr} {nk ck nw cw nb cb : Nat} {s : PrS} {W W' : World} (h : RpN Z bp br Ak nk ck Aw nw cw Ab nb cb s W) (hb : Below W.heap.size W W') : RpN Z bp br Ak nk ck Aw nw cw Ab nb cb s W' := h.move hb.size fun d hd => hb.block d hd.1
/-- a function's variables: a P, a plane, the result; P's lists -/
structure RpB (Z : Nat → Prop) (w : World) (bp bg br : Nat) (cs : Array Value) (Aq : Option Addr) (nq cq : Nat) (mask ef : Int) (qs : List Int) (Ak : Option Addr) (nk ck : Nat) (Aw : Option Addr) (nw cw : Nat) (Ab : Option Addr) (nb cb : Nat) (s : PrS) (W : World) : Prop where
  bel : Below w.heap.size w W
  p : Blk W bp 61 #[.slice Aq nq cq, .int .u64 mask, .int .i64 ef, .slice Ak nk ck, .slice Aw nw cw, .slice Ab nb cb]
  g : Blk W bg 24 cs
  r : Blk W br 61 #[.slice none 0 0, .int .u64 0, .int .i64 0, .slice none 0 0, .slice none 0 0, .slice none 0 0]
  hp : w.heap.size ≤ bp
  hg : w.heap.size ≤ bg
  hr : w.heap.size ≤ br
  ne : bp ≠ br
  q : RdR (Sh.int .i32) W (FrO Z bp br W) Aq qs
  n : RpN Z bp br Ak nk ck Aw nw cw Ab nb cb s W
section
variable {Z : Nat → Prop} {w W W' : World} {bp bg br b9 : Nat} {cs : Array Value} {Aq Ak Aw Ab : Option Addr} {nq cq nk ck nw cw nb cb : Nat} {mask ef : Int} {qs : List Int} {s : PrS} {Ak1 Aw1 Ab1 : Option Addr} {nk1 ck1 nw1 cw1 nb1 cb1 : Nat} {s1 : PrS}
theorem RpB.step (h : RpB Z w bp bg br cs Aq nq cq mask ef qs Ak nk ck Aw nw cw Ab nb cb s W) (hb : Below W.heap.size W W') : RpB Z w bp bg br cs Aq nq cq mask ef qs Ak nk ck Aw nw cw Ab nb cb s W' :=
  ⟨Below.step h.bel hb, h.p.below hb h.p.lt, h.g.below hb h.g.lt, h.r.below hb h.r.lt, h.hp, h.hg, h.hr, h.ne, (h.q.keepBlocks fun d hd => hb.block d hd.1).more fun d hd => hd.step hb.size, h.n.step hb⟩
theorem Blk.six {b : Nat} {T : TypeId} {a0 a1 a2 a3 a4 a5 : Value} (h : Blk W b T #[a0, a1, a2, a3, a4, a5]) : W.cell? ⟨b, 0, none⟩ = some a0 ∧ W.cell? ⟨b, 1, none⟩ = some a1 ∧ W.cell? ⟨b, 2, none⟩ = some a2 ∧ W.cell? ⟨b, 3, none⟩ = some a3 ∧ W.cell? ⟨b, 4, none⟩ = some a4 ∧ W.cell? ⟨b, 5, none⟩ = some a5 := by
  have p0 := h.cell 0
  have p1 := h.cell 1
  have p2 := h.cell 2
  have p3 := h.cell 3
  have p4 := h.cell 4
  have p5 := h.cell 5
  simp at p0 p1 p2 p3 p4 p5
  exact ⟨p0, p1, p2, p3, p4, p5⟩
theorem Blk.six_set {b : Nat} {T : TypeId} {a0 a1 a2 a3 a4 a5 c0 c1 c2 c3 c4 c5 : Value} (h : Blk W b T #[c0, c1, c2, c3, c4, c5]) : Blk ((((((W.setCell ⟨b, 0, none⟩ a0).setCell ⟨b, 1, none⟩ a1).setCell ⟨b, 2, none⟩ a2).setCell ⟨b, 3, none⟩ a3).setCell ⟨b, 4, none⟩ a4).setCell ⟨b, 5, none⟩ a5) b T #[a0, a1, a2, a3, a4, a5] := by
  have := (((((h.set_ 0 a0).set_ 1 a1).set_ 2 a2).set_ 3 a3).set_ 4 a4).set_ 5 a5
  simpa using this
theorem six_far {b d : Nat} {a0 a1 a2 a3 a4 a5 : Value} (hd : d ≠ b) : ((((((W.setCell ⟨b, 0, none⟩ a0).setCell ⟨b, 1, none⟩ a1).setCell ⟨b, 2, none⟩ a2).setCell ⟨b, 3, none⟩ a3).setCell ⟨b, 4, none⟩ a4).setCell ⟨b, 5, none⟩ a5).heap[d]? = W.heap[d]? := by
  rw [Below.heap_setCell _ _ _ d hd, Below.heap_setCell _ _ _ d hd, Below.heap_setCell _ _ _ d hd, Below.heap_setCell _ _ _ d hd, Below.heap_setCell _ _ _ d hd, Below.heap_setCell _ _ _ d hd]
/-- P's variable gets another P -/
theorem RpB.put (h : RpB Z w bp bg br cs Aq nq cq mask ef qs Ak nk ck Aw nw cw Ab nb cb s W) (k : RpN Z bp br Ak1 nk1 ck1 Aw1 nw1 cw1 Ab1 nb1 cb1 s1 W) : RpB Z w bp bg br cs Aq nq cq mask ef qs Ak1 nk1 ck1 Aw1 nw1 cw1 Ab1 nb1 cb1 s1 ((((((W.setCell ⟨bp, 0, none⟩ (.slice Aq nq cq)).setCell ⟨bp, 1, none⟩ (.int .u64 mask)).setCell ⟨bp, 2, none⟩ (.int .i64 ef)).setCell ⟨bp, 3, none⟩ (.slice Ak1 nk1 ck1)).setCell ⟨bp, 4, none⟩ (.slice Aw1 nw1 cw1)).setCell ⟨bp, 5, none⟩ (.slice Ab1 nb1 cb1)) := by
  have hg : bg ≠ bp := h.g.ne_ h.p (by decide)
  refine ⟨(((((h.bel.setCell h.hp _).setCell h.hp _).setCell h.hp _).setCell h.hp _).setCell h.hp _).setCell h.hp _, h.p.six_set, (six_far hg).trans h.g, (six_far (fun e => h.ne e.symm)).trans h.r, h.hp, h.hg, h.hr, h.ne, (h.q.keepBlocks fun d hd => six_far hd.2.1).more fun d hd => hd.step (by simp), k.move (by simp) fun d hd => six_far hd.2.1⟩
/-- .. and the result -/
theorem RpB.res (h : RpB Z w bp bg br cs Aq nq cq mask ef qs Ak nk ck Aw nw cw Ab nb cb s W) : Below w.heap.size w ((((((W.setCell ⟨br, 0, none⟩ (.slice Aq nq cq)).setCell ⟨br, 1, none⟩ (.int .u64 mask)).setCell ⟨br, 2, none⟩ (.int .i64 ef)).setCell ⟨br, 3, none⟩ (.slice Ak nk ck)).setCell ⟨br, 4, none⟩ (.slice Aw nw cw)).setCell ⟨br, 5, none⟩ (.slice Ab nb cb)) ∧
    Blk ((((((W.setCell ⟨br, 0, none⟩ (.slice Aq nq cq)).setCell ⟨br, 1, none⟩ (.int .u64 mask)).setCell ⟨br, 2, none⟩ (.int .i64 ef)).setCell ⟨br, 3, none⟩ (.slice Ak nk ck)).setCell ⟨br, 4, none⟩ (.slice Aw nw cw)).setCell ⟨br, 5, none⟩ (.slice Ab nb cb)) br 61 #[.slice Aq nq cq, .int .u64 mask, .int .i64 ef, .slice Ak nk ck, .slice Aw nw cw, .slice Ab nb cb] ∧
    RpN Z bp br Ak nk ck Aw nw cw Ab nb cb s ((((((W.setCell ⟨br, 0, none⟩ (.slice Aq nq cq)).setCell ⟨br, 1, none⟩ (.int .u64 mask)).setCell ⟨br, 2, none⟩ (.int .i64 ef)).setCell ⟨br, 3, none⟩ (.slice Ak nk ck)).setCell ⟨br, 4, none⟩ (.slice Aw nw cw)).setCell ⟨br, 5, none⟩ (.slice Ab nb cb)) :=
  ⟨(((((h.bel.setCell h.hr _).setCell h.hr _).setCell h.hr _).setCell h.hr _).setCell h.hr _).setCell h.hr _, h.r.six_set, h.n.move (by simp) fun d hd => six_far hd.2.2.1⟩
end
theorem start_rd {w : World} {b c d : Obj} {R : Nat → Prop} {Al : Option Addr} {α : Type} {S : Sh α} {l : List α} (hR : ∀ d, R d → d < w.heap.size) (hl : RdR S w R Al l) : RdR S (((w.alloc b).alloc c).alloc d) (FrO (Z0 w R) w.heap.size (w.heap.size + 1 + 1) (((w.alloc b).alloc c).alloc d)) Al l := by
  have hb := Below.step (Below.step (below1 w b) (below1 _ c)) (below1 _ d)
  exact (hl.keepBlocks fun e he => hb.block e (hR e he)).more fun e he => ⟨Nat.lt_of_lt_of_le (hR e he) hb.size, by have := hR e he; omega, by have := hR e he; omega, fun hz => hz.2 he⟩
theorem FrO.grow {w W : World} {R : Nat → Prop} {bp br d : Nat} (h : FrO (Z0 w R) bp br W d) : Grow R w W d := by
  by_cases e : d < w.heap.size
  · exact .inl (Classical.byContradiction fun hr => h.2.2.2 ⟨e, hr⟩)
  · exact .inr ⟨by omega, h.1⟩
theorem RpB.start {w : World} {R : Nat → Prop} {cs : Array Value} {Aq Ak Aw Ab : Option Addr} {nq cq nk ck nw cw nb cb : Nat} {mask ef : Int} {qs : List Int} {s : PrS} (hR : ∀ d, R d → d < w.heap.size) (hq : RdR (Sh.int .i32) w R Aq qs) (hk : s.1.length = nk ∧ nk ≤ ck ∧ ck ≤ 9223372036854775807) (hw : s.2.1.length = nw ∧ nw ≤ cw ∧ cw ≤ 9223372036854775807) (hb : s.2.2.length = nb ∧ nb ≤ cb ∧ cb ≤ 9223372036854775807)
    (rk : RdR (Sh.int .i64) w R Ak s.1) (rw_ : RdR SP w R Aw s.2.1) (rb : RdR SP w R Ab s.2.2) : RpB (Z0 w R) w w.heap.size (w.heap.size + 1) (w.heap.size + 1 + 1) cs Aq nq cq mask ef qs Ak nk ck Aw nw cw Ab nb cb s (((w.alloc (.cells #[.slice Aq nq cq, .int .u64 mask, .int .i64 ef, .slice Ak nk ck, .slice Aw nw cw, .slice Ab nb cb] 61)).alloc (.cells cs 24)).alloc (.cells #[.slice none 0 0, .int .u64 0, .int .i64 0, .slice none 0 0, .slice none 0 0, .slice none 0 0] 61)) := by
  have h1 := Blk.new (w.alloc (.cells #[.slice Aq nq cq, .int .u64 mask, .int .i64 ef, .slice Ak nk ck, .slice Aw nw cw, .slice Ab nb cb] 61)) 24 cs
  have h2 := Blk.new ((w.alloc (.cells #[.slice Aq nq cq, .int .u64 mask, .int .i64 ef, .slice Ak nk ck, .slice Aw nw cw, .slice Ab nb cb] 61)).alloc (.cells cs 24)) 61 #[.slice none 0 0, .int .u64 0, .int .i64 0, .slice none 0 0, .slice none 0 0, .slice none 0 0]
  have e1 : (w.alloc (.cells #[.slice Aq nq cq, .int .u64 mask, .int .i64 ef, .slice Ak nk ck, .slice Aw nw cw, .slice Ab nb cb] 61)).heap.size = w.heap.size + 1 := by simp
  have e2 : ((w.alloc (.cells #[.slice Aq nq cq, .int .u64 mask, .int .i64 ef, .slice Ak nk ck, .slice Aw nw cw, .slice Ab nb cb] 61)).alloc (.cells cs 24)).heap.size = w.heap.size + 1 + 1 := by simp
  rw [e1] at h1
  rw [e2] at h2
  exact ⟨Below.step (Below.step (below1 _ _) (below1 _ _)) (below1 _ _), ((Blk.new w 61 _).alloc _).alloc _, h1.alloc _, h2, Nat.le_refl _, by omega, by omega, by omega, start_rd hR hq, ⟨hk, hw, hb, start_rd hR rk, start_rd hR rw_, start_rd hR rb⟩⟩
theorem FrO.tight {Z : Nat → Prop} {bp br b9 : Nat} {W W' : World} (hb : W.heap.size ≤ W'.heap.size) (h9 : W.heap.size = b9) (d : Nat) (h : FrO Z bp br W d) : FrO (fun d => Z d ∨ d = b9) bp br W' d := ⟨Nat.lt_of_lt_of_le h.1 hb, h.2.1, h.2.2.1, fun e => e.elim h.2.2.2 fun e => by have := h.1; omega⟩
theorem RpN.mapZ {Z Z' : Nat → Prop} {bp br : Nat} {Ak Aw Ab : Option Addr} {nk ck nw cw nb cb : Nat} {s : PrS} {W W' : World} (h : RpN Z bp br Ak nk ck Aw nw cw Ab nb cb s W) (hk : ∀ d, FrO Z bp br W d → W'.heap[d]? = W.heap[d]?) (hz : ∀ d, FrO Z bp br W d → FrO Z' bp br W' d) : RpN Z' bp br Ak nk ck Aw nw cw Ab nb cb s W' :=
  ⟨h.k, h.w, h.b, (h.rk.keepBlocks hk).more hz, (h.rw_.keepBlocks hk).more hz, (h.rb.keepBlocks hk).more hz⟩
theorem RpB.mapZ {Z Z' : Nat → Prop} {w W W' : World} {bp bg br : Nat} {cs : Array Value} {Aq Ak Aw Ab : Option Addr} {nq cq nk ck nw cw nb cb : Nat} {mask ef : Int} {qs : List Int} {s : PrS} (h : RpB Z w bp bg br cs Aq nq cq mask ef qs Ak nk ck Aw nw cw Ab nb cb s W) (hb : Below w.heap.size w W') (h1 : W'.heap[bp]? = W.heap[bp]?) (h2 : W'.heap[bg]? = W.heap[bg]?) (h3 : W'.heap[br]? = W.heap[br]?) (hk : ∀ d, FrO Z bp br W d → W'.heap[d]? = W.heap[d]?) (hz : ∀ d, FrO Z bp br W d → FrO Z' bp br W' d) : RpB Z' w bp bg br cs Aq nq cq mask ef qs Ak nk ck Aw nw cw Ab nb cb s W' :=
  ⟨hb, h1.trans h.p, h2.trans h.g, h3.trans h.r, h.hp, h.hg, h.hr, h.ne, (h.q.keepBlocks hk).more hz, h.n.mapZ hk hz⟩
/-- a P's cells are stored in another variable -/
theorem RpB.far {Z : Nat → Prop} {w W : World} {bp bg br b9 : Nat} {cs : Array Value} {Aq Ak Aw Ab : Option Addr} {nq cq nk ck nw cw nb cb : Nat} {mask ef : Int} {qs : List Int} {s : PrS} {Ak1 Aw1 Ab1 Al : Option Addr} {nk1 ck1 nw1 cw1 nb1 cb1 : Nat} {s1 : PrS} {l : List Int} (h : RpB (fun d => Z d ∨ d = b9) w bp bg br cs Aq nq cq mask ef qs Ak nk ck Aw nw cw Ab nb cb s W) (h9 : Blk W b9 61 #[.slice none 0 0, .int .u64 0, .int .i64 0, .slice none 0 0, .slice none 0 0, .slice none 0 0]) (hn : RpN (fun d => Z d ∨ d = b9) bp br Ak1 nk1 ck1 Aw1 nw1 cw1 Ab1 nb1 cb1 s1 W) (hl : RdR (Sh.int .i64) W (FrO (fun d => Z d ∨ d = b9) bp br W) Al l) (hlt : bp < b9 ∧ br < b9 ∧ w.heap.size ≤ b9) :
    RpB Z w bp bg br cs Aq nq cq mask ef qs Ak nk ck Aw nw cw Ab nb cb s ((((((W.setCell ⟨b9, 0, none⟩ (.slice Aq nq cq)).setCell ⟨b9, 1, none⟩ (.int .u64 mask)).setCell ⟨b9, 2, none⟩ (.int .i64 ef)).setCell ⟨b9, 3, none⟩ (.slice Ak1 nk1 ck1)).setCell ⟨b9, 4, none⟩ (.slice Aw1 nw1 cw1)).setCell ⟨b9, 5, none⟩ (.slice Ab1 nb1 cb1)) ∧ Blk ((((((W.setCell ⟨b9, 0, none⟩ (.slice Aq nq cq)).setCell ⟨b9, 1, none⟩ (.int .u64 mask)).setCell ⟨b9, 2, none⟩ (.int .i64 ef)).setCell ⟨b9, 3, none⟩ (.slice Ak1 nk1 ck1)).setCell ⟨b9, 4, none⟩ (.slice Aw1 nw1 cw1)).setCell ⟨b9, 5, none⟩ (.slice Ab1 nb1 cb1)) b9 61 #[.slice Aq nq cq, .int .u64 mask, .int .i64 ef, .slice Ak1 nk1 ck1, .slice Aw1 nw1 cw1, .slice Ab1 nb1 cb1] ∧ RpN Z bp br Ak1 nk1 ck1 Aw1 nw1 cw1 Ab1 nb1 cb1 s1 ((((((W.setCell ⟨b9, 0, none⟩ (.slice Aq nq cq)).setCell ⟨b9, 1, none⟩ (.int .u64 mask)).setCell ⟨b9, 2, none⟩ (.int .i64 ef)).setCell ⟨b9, 3, none⟩ (.slice Ak1 nk1 ck1)).setCell ⟨b9, 4, none⟩ (.slice Aw1 nw1 cw1)).setCell ⟨b9, 5, none⟩ (.slice Ab1 nb1 cb1)) ∧ RdR (Sh.int .i64) ((((((W.setCell ⟨b9, 0, none⟩ (.slice Aq nq cq)).setCell ⟨b9, 1, none⟩ (.int .u64 mask)).setCell ⟨b9, 2, none⟩ (.int .i64 ef)).setCell ⟨b9, 3, none⟩ (.slice Ak1 nk1 ck1)).setCell ⟨b9, 4, none⟩ (.slice Aw1 nw1 cw1)).setCell ⟨b9, 5, none⟩ (.slice Ab1 nb1 cb1)) (FrO Z bp br ((((((W.setCell ⟨b9, 0, none⟩ (.slice Aq nq cq)).setCell ⟨b9, 1, none⟩ (.int .u64 mask)).setCell ⟨b9, 2, none⟩ (.int .i64 ef)).setCell ⟨b9, 3, none⟩ (.slice Ak1 nk1 ck1)).setCell ⟨b9, 4, none⟩ (.slice Aw1 nw1 cw1)).setCell ⟨b9, 5, none⟩ (.slice Ab1 nb1 cb1))) Al l := by
  have hg : bg ≠ b9 := h.g.ne_ h9 (by decide)
  have hz : ∀ d, FrO (fun d => Z d ∨ d = b9) bp br W d → FrO Z bp br ((((((W.setCell ⟨b9, 0, none⟩ (.slice Aq nq cq)).setCell ⟨b9, 1, none⟩ (.int .u64 mask)).setCell ⟨b9, 2, none⟩ (.int .i64 ef)).setCell ⟨b9, 3, none⟩ (.slice Ak1 nk1 ck1)).setCell ⟨b9, 4, none⟩ (.slice Aw1 nw1 cw1)).setCell ⟨b9, 5, none⟩ (.slice Ab1 nb1 cb1)) d := fun d hd => ⟨by simpa using hd.1, hd.2.1, hd.2.2.1, fun e => hd.2.2.2 (.inl e)⟩
  have hk : ∀ d, FrO (fun d => Z d ∨ d = b9) bp br W d → ((((((W.setCell ⟨b9, 0, none⟩ (.slice Aq nq cq)).setCell ⟨b9, 1, none⟩ (.int .u64 mask)).setCell ⟨b9, 2, none⟩ (.int .i64 ef)).setCell ⟨b9, 3, none⟩ (.slice Ak1 nk1 ck1)).setCell ⟨b9, 4, none⟩ (.slice Aw1 nw1 cw1)).setCell ⟨b9, 5, none⟩ (.slice Ab1 nb1 cb1)).heap[d]? = W.heap[d]? := fun d hd => six_far fun e => hd.2.2.2 (.inr e)
  exact ⟨h.mapZ ((((((h.bel.setCell hlt.2.2 _).setCell hlt.2.2 _).setCell hlt.2.2 _).setCell hlt.2.2 _).setCell hlt.2.2 _).setCell hlt.2.2 _) (six_far (by omega)) (six_far hg) (six_far (by omega)) hk hz, h9.six_set, hn.mapZ hk hz, (hl.keepBlocks hk).more hz⟩
/-- an offer -/
theorem RpB.offer {Z : Nat → Prop} {w W : World} {bp bg br : Nat} {cs : Array Value} {Aq Ak Aw Ab : Option Addr} {nq cq nk ck nw cw nb cb : Nat} {mask ef : Int} {qs : List Int} {s : PrS} (h : RpB Z w bp bg br cs Aq nq cq mask ef qs Ak nk ck Aw nw cw Ab nb cb s W) (hZ : ∀ d, Z d → d < W.heap.size) (hnq : qs.length = nq) (hcq : nq ≤ cq) (hcq2 : cq ≤ 9223372036854775807) (hqi : I32 qs) {V : Option Addr} {cv : Nat} {vs : List Int} (hv : RdR (Sh.int .i32) W (FrO Z bp br W) V vs) (hcv : vs.length ≤ cv) (hcv2 : cv ≤ 9223372036854775807) (hvi : I32 vs) (hmask : 0 ≤ mask ∧ mask ≤ 18446744073709551615) (hk6 : s.1.length ≤ 100000) (hw6 : s.2.1.length ≤ 100000) (hb6 : s.2.2.length ≤ 100000) (m id tg : Int) :
    Calls Tryz.prog 61 #[.agg #[.slice Aq nq cq, .int .u64 mask, .int .i64 ef, .slice Ak nk ck, .slice Aw nw cw, .slice Ab nb cb], .int .i64 m, .agg #[.int .u64 id, .slice V vs.length cv, .int .u64 tg]] W fun e w' => ∃ Ak1 nk1 ck1 Aw1 nw1 cw1 Ab1 nb1 cb1 bo, e = .returned (.tuple #[.agg #[.slice Aq nq cq, .int .u64 mask, .int .i64 ef, .slice Ak1 nk1 ck1, .slice Aw1 nw1 cw1, .slice Ab1 nb1 cb1], .bool bo]) ∧ RpN Z bp br Ak1 nk1 ck1 Aw1 nw1 cw1 Ab1 nb1 cb1 (offKn s.1 m, offWt s.1 s.2.1 ((distOf qs vs, id), m), offBs (mostB ef) (hasB mask tg) s.1 s.2.2 ((distOf qs vs, id), m)) w' ∧ Below W.heap.size W w' := by
  refine (refOfferP_any (R := FrO Z bp br W) (fun d hd => hd.1) Aq nq cq qs mask ef Ak nk ck s.1 Aw nw cw s.2.1 Ab nb cb s.2.2 m id tg V vs.length cv vs h.q hnq hcq hcq2 hqi h.n.rk h.n.k.1 h.n.k.2.1 h.n.k.2.2 (by have := h.n.k.1; omega) h.n.rw_ h.n.w.1 h.n.w.2.1 h.n.w.2.2 (by have := h.n.w.1; omega) h.n.rb h.n.b.1 h.n.b.2.1 h.n.b.2.2 (by have := h.n.b.1; omega) hv rfl hcv hcv2 hvi hmask).mono ?_
  have hgr : ∀ {w' : World}, Below W.heap.size W w' → ∀ d, Grow (FrO Z bp br W) W w' d → FrO Z bp br w' d := fun hb d hd => hd.elim (fun e => e.step hb.size) fun e => ⟨e.2, by have := h.p.lt; have := e.1; omega, by have := h.r.lt; have := e.1; omega, fun hz => by have := hZ d hz; have := e.1; omega⟩
  unfold offKn offWt offBs
  rintro e w' ⟨h1, ⟨hs, rfl⟩ | ⟨hs, A1, c1, A2, c2, A3, n3, c3, rfl, g1, g2, g3, g4, g5, g6, g7, g8, g9, g10⟩⟩
  · have hs : m ∈ s.1 := hs
    rw [if_pos hs, if_pos hs, if_pos hs]
    exact ⟨Ak, nk, ck, Aw, nw, cw, Ab, nb, cb, false, rfl, h.n.step h1, h1⟩
  · have hs : m ∉ s.1 := hs
    rw [if_neg hs, if_neg hs, if_neg hs]
    exact ⟨A1, nk + 1, c1, A2, nw + 1, c2, A3, n3, c3, true, rfl, ⟨⟨by rw [List.length_append, h.n.k.1]; rfl, g1, g2⟩, ⟨by rw [srtS_len, List.length_append, h.n.w.1]; rfl, g3, g4⟩, ⟨g7, g5, g6⟩, g8.more (hgr h1), g9.more (hgr h1), g10.more (hgr h1)⟩, h1⟩
/-- what a function gives that answers a P -/
def PIs (w : World) (R : Nat → Prop) (Aq : Option Addr) (nq cq : Nat) (mask ef : Int) (s : PrS) (v : Value) (w' : World) : Prop :=
  ∃ (Ak : Option Addr) (nk ck : Nat) (Aw : Option Addr) (nw cw : Nat) (Ab : Option Addr) (nb cb : Nat), v = .agg #[.slice Aq nq cq, .int .u64 mask, .int .i64 ef, .slice Ak nk ck, .slice Aw nw cw, .slice Ab nb cb] ∧ (s.1.length = nk ∧ nk ≤ ck ∧ ck ≤ 9223372036854775807) ∧ (s.2.1.length = nw ∧ nw ≤ cw ∧ cw ≤ 9223372036854775807) ∧ (s.2.2.length = nb ∧ nb ≤ cb ∧ cb ≤ 9223372036854775807) ∧ RdR (Sh.int .i64) w' (Grow R w w') Ak s.1 ∧ RdR SP w' (Grow R w w') Aw s.2.1 ∧ RdR SP w' (Grow R w w') Ab s.2.2 ∧ Below w.heap.size w w'
theorem itemF_atX {ns : List NodeP} {k : Nat} {x : NodeP} (h : ns[k]? = some x) : itemF ns (k : Int) = x.1 := by
  have := (List.getElem?_eq_some_iff.1 h).1
  unfold itemF
  rw [if_pos (by omega), show ((k : Int)).toNat = k by omega, h]; rfl
section
variable {w W : World} {N : Option Addr} {nn cN : Nat} {ns : List NodeP} {en top : Int}
set_option maxHeartbeats 4000000 in
theorem item15_any {R : Nat → Prop} (hx : RdR SNode w R N ns) (hR : ∀ d, R d → d < w.heap.size) (hn : ns.length = nn) {m : Nat} (hm : m < nn) : Calls Tryz.prog 62 #[.agg #[.slice N nn cN, .int .i64 en, .int .i64 top], .int .i64 (m : Int)] w fun e w' => ∃ V c, e = .returned (.agg #[.int .u64 (itemF ns m).1, .slice V (itemF ns m).2.1.length c, .int .u64 (itemF ns m).2.2]) ∧ (itemF ns m).2.1.length ≤ c ∧ c ≤ 9223372036854775807 ∧ RdR (Sh.int .i32) w R V (itemF ns m).2.1 ∧ Below w.heap.size w w' := by
  obtain ⟨ad, x, V, cV, L, cL, rfl, hbl, hkx, hc⟩ := hx.node (k := m) (by omega)
  have HF := hide (itemF_atX hkx)
  have hb1 := below1 w (.cells #[.slice (some ad) nn cN, .int .i64 en, .int .i64 top] 24)
  have hb2 := below1 (w.alloc (.cells #[.slice (some ad) nn cN, .int .i64 en, .int .i64 top] 24)) (.cells #[.int .u64 0, .slice none 0 0, .int .u64 0] 40)
  have hbw := Below.step hb1 hb2
  have hP : Blk ((w.alloc (.cells #[.slice (some ad) nn cN, .int .i64 en, .int .i64 top] 24)).alloc (.cells #[.int .u64 0, .slice none 0 0, .int .u64 0] 40)) w.heap.size 24 #[.slice (some ad) nn cN, .int .i64 en, .int .i64 top] := (Blk.new w _ _).alloc _
  have hba : (ad.add (m * 7)).block = ad.block := block_of_add _ _
  have hcell : ∀ p : Addr, p.block = ad.block → ((w.alloc (.cells #[.slice (some ad) nn cN, .int .i64 en, .int .i64 top] 24)).alloc (.cells #[.int .u64 0, .slice none 0 0, .int .u64 0] 40)).cell? p = w.cell? p := fun p hp => hbw.cell (by rw [hp]; exact hR _ hbl)
  have c0 := (hcell _ hba).trans hc.c0
  have c1 := (hcell ⟨(ad.add (m * 7)).block, (ad.add (m * 7)).off + 1, none⟩ hba).trans hc.c1
  have c2 := (hcell ⟨(ad.add (m * 7)).block, (ad.add (m * 7)).off + 2, none⟩ hba).trans hc.c2
  obtain ⟨⟨id, vs, tg⟩, lv, ls, nx, pv⟩ := x
  simp only at c0 c1 c2
  have hRr := Blk.new (w.alloc (.cells #[.slice (some ad) nn cN, .int .i64 en, .int .i64 top] 24)) 40 #[.int .u64 0, .slice none 0 0, .int .u64 0]
  have hsz : (w.alloc (.cells #[.slice (some ad) nn cN, .int .i64 en, .int .i64 top] 24)).heap.size = w.heap.size + 1 := by simp
  rw [hsz] at hRr
  have HC := hide hc
  have HB := hide hbw
  have HP := hide hP
  have HR := hide hRr
  have m0 : (0 : Int) ≤ m := by omega
  have m1 : (m : Int) < nn := by omega
  clear hc hcell hba hbl hkx hb1 hb2 hbw hP hRr hsz hx hn hR
  go_enter Tryz.func62, Tryz.ntmps62
  go_upto_region 1 with fail
  generalize World.alloc (World.alloc w _) _ = w1 at *
  have HB4 := hide (show w.heap.size ≤ w.heap.size + 1 from by omega)
  generalize w.heap.size + 1 = b4 at *
  obtain ⟨p0, p1, p2⟩ := HP.out.tri
  obtain ⟨r0, r1, r2⟩ := HR.out.tri
  have f0 := HR.out.frozen 0
  have f1 := HR.out.frozen 1
  have f2 := HR.out.frozen 2
  have HLt := hide HR.out.lt
  go_wp2
  have h3 : Blk (((w1.setCell ⟨b4, 0, none⟩ (.int .u64 id)).setCell ⟨b4, 1, none⟩ (.slice V vs.length cV)).setCell ⟨b4, 2, none⟩ (.int .u64 tg)) b4 40 #[.int .u64 id, .slice V vs.length cV, .int .u64 tg] := by
    have := ((HR.out.set_ 0 (.int .u64 id)).set_ 1 (.slice V vs.length cV)).set_ 2 (.int .u64 tg)
    simpa using this
  obtain ⟨q0, q1, q2⟩ := h3.tri
  have hb4 : w.heap.size ≤ b4 := HB4.out
  refine bodyPost_ret (v := .agg #[.int .u64 id, .slice V vs.length cV, .int .u64 tg]) (by simp [results, Tryz.results62, go_sem, q0, q1, q2]) rfl ?_
  rw [HF.out]
  exact ⟨V, cV, rfl, HC.out.v1, HC.out.v2, HC.out.v, ((HB.out.setCell hb4 _).setCell hb4 _).setCell hb4 _⟩
end
/-- P's lists, a list of slots, behind a call -/
def OffL (Z : Nat → Prop) (w : World) (bp bg br : Nat) (cs : Array Value) (Aq : Option Addr) (nq cq : Nat) (mask ef : Int) (qs : List Int) (Al : Option Addr) (l : List Int) (s : PrS) (W : World) : Prop := (∃ (Ak : Option Addr) (nk ck : Nat) (Aw : Option Addr) (nw cw : Nat) (Ab : Option Addr) (nb cb : Nat), RpB Z w bp bg br cs Aq nq cq mask ef qs Ak nk ck Aw nw cw Ab nb cb s W) ∧ RdR (Sh.int .i64) W (FrO Z bp br W) Al l
section
variable {w W : World} {N Aq Al : Option Addr} {nn cN nq cq nl cl : Nat} {ns : List NodeP} {en top mask ef : Int} {qs l : List Int} {s : PrS}
set_option maxHeartbeats 16000000 in
set_option maxRecDepth 100000 in
theorem rfOffer15_any {R : Nat → Prop} (hR : ∀ d, R d → d < w.heap.size) (h : PlW w N nn ns Aq nq cq qs) (hnd : RdR SNode w R N ns) (hq : RdR (Sh.int .i32) w R Aq qs) (hmk : 0 ≤ mask ∧ mask ≤ 18446744073709551615) (hi : ∃ dn, BmI ns qs mask (mostB ef) s dn) {Ak Aw Ab : Option Addr} {nk ck nw cw nb cb : Nat} (hk : s.1.length = nk ∧ nk ≤ ck ∧ ck ≤ 9223372036854775807) (hw : s.2.1.length = nw ∧ nw ≤ cw ∧ cw ≤ 9223372036854775807) (hb : s.2.2.length = nb ∧ nb ≤ cb ∧ cb ≤ 9223372036854775807)
    (rk : RdR (Sh.int .i64) w R Ak s.1) (rw_ : RdR SP w R Aw s.2.1) (rb : RdR SP w R Ab s.2.2) (hl : RdR (Sh.int .i64) w R Al l) (hnl : l.length = nl) (hl6 : nl ≤ 1000) :
    Calls Tryz.prog 38 #[.agg #[.slice Aq nq cq, .int .u64 mask, .int .i64 ef, .slice Ak nk ck, .slice Aw nw cw, .slice Ab nb cb], .agg #[.slice N nn cN, .int .i64 en, .int .i64 top], .slice Al nl cl] w fun e w' => ∃ v, e = .returned v ∧ PIs w R Aq nq cq mask ef (offL ns qs mask (mostB ef) s l) v w' := by
  have HPl := hide h
  have HMk := hide hmk
  have HI := hide hi
  have HNl := hide hnl
  have H0 := hide (show RpB (Z0 w R) w w.heap.size (w.heap.size + 1) (w.heap.size + 1 + 1) #[.slice N nn cN, .int .i64 en, .int .i64 top] Aq nq cq mask ef qs Ak nk ck Aw nw cw Ab nb cb s (((w.alloc (.cells #[.slice Aq nq cq, .int .u64 mask, .int .i64 ef, .slice Ak nk ck, .slice Aw nw cw, .slice Ab nb cb] 61)).alloc (.cells #[.slice N nn cN, .int .i64 en, .int .i64 top] 24)).alloc (.cells #[.slice none 0 0, .int .u64 0, .int .i64 0, .slice none 0 0, .slice none 0 0, .slice none 0 0] 61)) from RpB.start hR hq hk hw hb rk rw_ rb)
  have HL0 := hide (show RdR (Sh.int .i64) (((w.alloc (.cells #[.slice Aq nq cq, .int .u64 mask, .int .i64 ef, .slice Ak nk ck, .slice Aw nw cw, .slice Ab nb cb] 61)).alloc (.cells #[.slice N nn cN, .int .i64 en, .int .i64 top] 24)).alloc (.cells #[.slice none 0 0, .int .u64 0, .int .i64 0, .slice none 0 0, .slice none 0 0, .slice none 0 0] 61)) (FrO (Z0 w R) w.heap.size (w.heap.size + 1 + 1) (((w.alloc (.cells #[.slice Aq nq cq, .int .u64 mask, .int .i64 ef, .slice Ak nk ck, .slice Aw nw cw, .slice Ab nb cb] 61)).alloc (.cells #[.slice N nn cN, .int .i64 en, .int .i64 top] 24)).alloc (.cells #[.slice none 0 0, .int .u64 0, .int .i64 0, .slice none 0 0, .slice none 0 0, .slice none 0 0] 61))) Al l from start_rd hR hl)
  have HNd := hide hnd
  have HRR := hide hR
  clear h hmk hi hk hw hb rk rw_ rb hl hnl hnd hq hR
  go_enter Tryz.func38, Tryz.ntmps38
  go_upto_region 1 with fail
  generalize World.alloc (World.alloc (World.alloc w _) _) _ = w1 at *
  obtain ⟨br, hbr⟩ : ∃ b, w.heap.size + 1 + 1 = b := ⟨_, rfl⟩
  rw [hbr] at H0 HL0
  rw [hbr]
  clear hbr
  obtain ⟨bg, hbg⟩ : ∃ b, w.heap.size + 1 = b := ⟨_, rfl⟩
  rw [hbg] at H0
  rw [hbg]
  clear hbg
  obtain ⟨bp, hbp⟩ : ∃ b, w.heap.size = b := ⟨_, rfl⟩
  have H1 := hide (show OffL (Z0 w R) w bp bg br #[.slice N nn cN, .int .i64 en, .int .i64 top] Aq nq cq mask ef qs Al l (offL ns qs mask (mostB ef) s (l.take 0)) w1 from ⟨⟨Ak, nk, ck, Aw, nw, cw, Ab, nb, cb, hbp ▸ H0.out⟩, hbp ▸ HL0.out⟩)
  rw [hbp]
  clear hbp H0 HL0
  go_wp2
  go_loopw [13] (fun i wr => ∃ k : Nat, k ≤ nl ∧ i = .int .i64 k ∧ Hid (OffL (Z0 w R) w bp bg br #[.slice N nn cN, .int .i64 en, .int .i64 top] Aq nq cq mask ef qs Al l (offL ns qs mask (mostB ef) s (l.take k)) wr)) (fun i _ => nl - (intOf i).toNat)
  case atStart => exact ⟨0, by omega, rfl, H1⟩
  case round =>
    obtain ⟨k, hk, rfl, HB⟩ := hrel
    clear H1
    obtain ⟨⟨Ak, nk, ck, Aw, nw, cw, Ab, nb, cb, hB⟩, hL⟩ := HB.out
    have HB1 := hide hB
    have HL1 := hide hL
    clear hB hL HB
    by_cases hlt : k < nl
    · have g0 : (0 : Int) ≤ k := by omega
      have g1 : (k : Int) < nl := by omega
      obtain ⟨al, y, rfl, _, hv, q0⟩ := RdR.icell HL1.out (k := k) (by have := HNl.out; omega)
      have HSn := hide (show offL ns qs mask (mostB ef) s (l.take (k + 1)) = offS ns qs mask (mostB ef) (offL ns qs mask (mostB ef) s (l.take k)) y from by rw [takeI_snoc hv, offL_snoc])
      have HI1 := hide (show ∃ dn, BmI ns qs mask (mostB ef) (offL ns qs mask (mostB ef) s (l.take k)) dn from by obtain ⟨dn, hd⟩ := HI.out; exact ⟨dn, hd.offs _⟩)
      clear hv
      obtain ⟨s1, hs1⟩ : ∃ x, offL ns qs mask (mostB ef) s (l.take k) = x := ⟨_, rfl⟩
      rw [hs1] at HSn HI1 HB1
      clear hs1
      obtain ⟨p0, p1, p2⟩ := HB1.out.g.tri
      have CT := hide (rfThere_any (nn := nn) (cN := cN) (en := en) (top := top) (HPl.out.at_ HB1.out.bel).nd HPl.out.len y)
      rcases ht : thereF ns y with _ | _
      · rw [ht] at CT
        have HSn2 := hide (show offL ns qs mask (mostB ef) s (l.take (k + 1)) = s1 from by rw [HSn.out]; unfold offS; rw [if_neg (by rw [ht]; simp)])
        clear ht HSn
        go_wp2_with (go_at_call 60; refine CT.out.mono ?_; rintro e w2 ⟨rfl, hb⟩; have HB2 := hide (show OffL (Z0 w R) w bp bg br #[.slice N nn cN, .int .i64 en, .int .i64 top] Aq nq cq mask ef qs (some al) l s1 w2 from ⟨⟨Ak, nk, ck, Aw, nw, cw, Ab, nb, cb, HB1.out.step hb⟩, (HL1.out.keepBlocks fun d hd => hb.block d hd.1).more fun d hd => hd.step hb.size⟩); clear hb)
        go_roundw
        case rel => exact ⟨k + 1, by omega, by go_num, by rw [HSn2.out]; exact HB2⟩
        case measure => simp [intOf]; omega
      · rw [ht] at CT
        have hrg := there_lt ht
        obtain ⟨m, rfl⟩ : ∃ m : Nat, y = m := ⟨y.toNat, by omega⟩
        have hmn : m < nn := by have := HPl.out.len; omega
        have HSn2 := hide (show offL ns qs mask (mostB ef) s (l.take (k + 1)) = (offKn s1.1 m, offWt s1.1 s1.2.1 (spotF ns qs m), offBs (mostB ef) (hasB mask (itemF ns m).2.2) s1.1 s1.2.2 (spotF ns qs m)) from by rw [HSn.out]; unfold offS; rw [if_pos ht])
        clear ht hrg HSn
        go_upto_region 5 with (go_at_call 60; refine CT.out.mono ?_; rintro e w2 ⟨rfl, hb⟩; have HB2 := hide (HB1.out.step hb); have HL2 := hide (show RdR (Sh.int .i64) w2 (FrO (Z0 w R) bp br w2) (some al) l from (HL1.out.keepBlocks fun d hd => hb.block d hd.1).more fun d hd => hd.step hb.size); clear hb)
        clear p0 p1 p2 q0 CT HB1 HL1
        have CI := hide (fun (W : World) (hb : Below w.heap.size w W) => item15_any (cN := cN) (en := en) (top := top) (R := R) (RdR.keepBlocks HNd.out fun d hd => hb.block d (HRR.out d hd)) (fun d hd => Nat.lt_of_lt_of_le (HRR.out d hd) hb.size) HPl.out.len hmn)
        have HIk := hide (HPl.out.ok)
        have HIi := hide (show I32 (itemF ns m).2.1 from by
          obtain ⟨y, hy⟩ : ∃ y, ns[m]? = some y := ⟨_, List.getElem?_eq_getElem (by have := HPl.out.len; omega)⟩
          rw [itemF_atX hy]
          exact (HIk.out y (List.mem_of_getElem? hy)).v)
        have HSp := hide (show spotF ns qs (m : Int) = ((distOf qs (itemF ns m).2.1, (itemF ns m).1), (m : Int)) from rfl)
        rw [HSp.out] at HSn2
        obtain ⟨⟨id, vs, tg⟩, hit⟩ : ∃ x, itemF ns (m : Int) = x := ⟨_, rfl⟩
        rw [hit] at CI HIi HSn2
        simp only at HSn2 HIi
        clear hit HSp HIk
        have HBd := hide (HB2.out.step (Below.refl _ _).drew)
        have HLd := hide (show RdR (Sh.int .i64) w2.drew (FrO (Z0 w R) bp br w2.drew) (some al) l from HL2.out)
        clear HB2 HL2
        refine startO (S := (RpB (Z0 w R) w bp bg br #[.slice N nn cN, .int .i64 en, .int .i64 top] Aq nq cq mask ef qs Ak nk ck Aw nw cw Ab nb cb s1)) 12 (by as_aux_lemma => kernel_rfl) (by as_aux_lemma => kernel_rfl) HBd.out (fun hHeld => ?_)
        have HX := HBd
        clear HBd
        generalize World.drew _ = W0 at *
        have HSm := hide (show s1.1.length ≤ 100000 ∧ s1.2.1.length ≤ 100000 ∧ s1.2.2.length ≤ 100000 from by obtain ⟨dn, hd⟩ := HI1.out; have := hd.small; have := HPl.out.len; have := HPl.out.n20; omega)
        refine putsO [1, 3] [3, 1] [(24, .int .i64 (m : Int)), (22, .int .i64 (m : Int))] 2 rfl [22, 24] (by as_aux_lemma => kernel_rfl) (by as_aux_lemma => kernel_rfl) rfl (fun _ _ _ _ _ h => h) hHeld ?_
        refine takeO 0 21 (.load 61 (.const (.pointer (some ⟨bp, 0, none⟩)))) 61 (.agg #[.slice Aq nq cq, .int .u64 mask, .int .i64 ef, .slice Ak nk ck, .slice Aw nw cw, .slice Ab nb cb]) (by as_aux_lemma => kernel_rfl) (by as_aux_lemma => kernel_rfl) (by as_aux_lemma => kernel_rfl) (fun _ _ _ _ _ h => h) (fun W hS => by obtain ⟨z0, z1, z2, z3, z4, z5⟩ := hS.p.six; clear hS hHeld; unfold cEv opC; as_aux_lemma => first | (go_simp; done) | (go_simp <;> rfl)) hHeld ?_
        refine takeO 2 23 (.load 24 (.const (.pointer (some ⟨bg, 0, none⟩)))) 24 (.agg #[.slice N nn cN, .int .i64 en, .int .i64 top]) (by as_aux_lemma => kernel_rfl) (by as_aux_lemma => kernel_rfl) (by as_aux_lemma => kernel_rfl) (fun _ _ _ _ _ h => h) (fun W hS => by obtain ⟨z0, z1, z2⟩ := hS.g.tri; clear hS hHeld; unfold cEv opC; as_aux_lemma => first | (go_simp; done) | (go_simp <;> rfl)) hHeld ?_
        refine readyO [4, 9] (by as_aux_lemma => kernel_rfl) (by simp) ?_
        refine callO 4 25 (.call { callee := .value (.func 62), args := #[.const (.agg #[.slice N nn cN, .int .i64 en, .int .i64 top]), .const (.int .i64 (m : Int))], argTypes := #[24, 3] }) 40 62 #[.agg #[.slice N nn cN, .int .i64 en, .int .i64 top], .int .i64 (m : Int)] (by as_aux_lemma => kernel_rfl) (by as_aux_lemma => kernel_rfl) (by unfold cEv opC; go_simp) ?_ ?_
        · skip
          refine (CI.out _ hHeld.bel).mono ?_
          rintro e W4 ⟨V4, c4, rfl, hc4, hm4, hv4, hb4⟩
          replace HX := hide (HX.out.step hb4)
          replace HLd := hide (show RdR (Sh.int .i64) _ (FrO (Z0 w R) bp br _) (some al) l from (HLd.out.keepBlocks fun d hd => hb4.block d hd.1).more fun d hd => hd.step hb4.size)
          have HV := hide (show RdR (Sh.int .i32) W4 (FrO (Z0 w R) bp br W4) V4 vs from (hv4.below hb4 fun d hd => Nat.lt_of_lt_of_le (HRR.out d hd) hHeld.bel.size).more fun d hd => ⟨Nat.lt_of_lt_of_le (HRR.out d hd) (hHeld.step hb4).bel.size, by have := hHeld.hp; have := HRR.out d hd; omega, by have := hHeld.hr; have := HRR.out d hd; omega, fun e => e.2 hd⟩)
          refine ⟨_, rfl, (hHeld.step hb4), fun hHeld2 => ?_⟩
          clear hHeld
          have hHeld := hHeld2
          clear hHeld2
          refine readyO [5, 9] (by as_aux_lemma => kernel_rfl) (by simp) ?_
          refine callO 5 26 (.call { callee := .value (.func 61), args := #[.const (.agg #[.slice Aq nq cq, .int .u64 mask, .int .i64 ef, .slice Ak nk ck, .slice Aw nw cw, .slice Ab nb cb]), .const (.int .i64 (m : Int)), .const (.agg #[.int .u64 id, .slice V4 vs.length c4, .int .u64 tg])], argTypes := #[61, 3, 40] }) 111 61 #[.agg #[.slice Aq nq cq, .int .u64 mask, .int .i64 ef, .slice Ak nk ck, .slice Aw nw cw, .slice Ab nb cb], .int .i64 (m : Int), .agg #[.int .u64 id, .slice V4 vs.length c4, .int .u64 tg]] (by as_aux_lemma => kernel_rfl) (by as_aux_lemma => kernel_rfl) (by unfold cEv opC; go_simp) ?_ ?_
          · skip
            refine (RpB.offer HX.out (fun d hd => Nat.lt_of_lt_of_le hd.1 HX.out.bel.size) HPl.out.lq HPl.out.c1 HPl.out.c2 HPl.out.qi HV.out hc4 hm4 HIi.out HMk.out HSm.out.1 HSm.out.2.1 HSm.out.2.2 (m : Int) id tg).mono ?_
            rintro e W5 ⟨Ak1, nk1, ck1, Aw1, nw1, cw1, Ab1, nb1, cb1, bo, rfl, hn5, hb5⟩
            replace HX := hide (HX.out.step hb5)
            replace HLd := hide (show RdR (Sh.int .i64) _ (FrO (Z0 w R) bp br _) (some al) l from (HLd.out.keepBlocks fun d hd => hb5.block d hd.1).more fun d hd => hd.step hb5.size)
            replace HV := hide (show RdR (Sh.int .i32) _ (FrO (Z0 w R) bp br _) V4 vs from (HV.out.keepBlocks fun d hd => hb5.block d hd.1).more fun d hd => hd.step hb5.size)
            have HNw := hide hn5
            refine ⟨_, rfl, (hHeld.step hb5), fun hHeld2 => ?_⟩
            clear hHeld
            have hHeld := hHeld2
            clear hHeld2
            refine putsO [6] [6] [(20, .tuple #[.agg #[.slice Aq nq cq, .int .u64 mask, .int .i64 ef, .slice Ak1 nk1 ck1, .slice Aw1 nw1 cw1, .slice Ab1 nb1 cb1], .bool bo])] 1 rfl [20] (by as_aux_lemma => kernel_rfl) (by as_aux_lemma => kernel_rfl) rfl (fun _ _ _ _ _ h => h) hHeld ?_
            refine takeO 7 27 (.extract (.const (.tuple #[.agg #[.slice Aq nq cq, .int .u64 mask, .int .i64 ef, .slice Ak1 nk1 ck1, .slice Aw1 nw1 cw1, .slice Ab1 nb1 cb1], .bool bo])) 0) 61 (.agg #[.slice Aq nq cq, .int .u64 mask, .int .i64 ef, .slice Ak1 nk1 ck1, .slice Aw1 nw1 cw1, .slice Ab1 nb1 cb1]) (by as_aux_lemma => kernel_rfl) (by as_aux_lemma => kernel_rfl) (by as_aux_lemma => kernel_rfl) (fun _ _ _ _ _ h => h) (fun W hS => by clear hS hHeld; unfold cEv opC; as_aux_lemma => first | (go_simp; done) | (go_simp <;> rfl)) hHeld ?_
            refine takeO 8 28 (.extract (.const (.tuple #[.agg #[.slice Aq nq cq, .int .u64 mask, .int .i64 ef, .slice Ak1 nk1 ck1, .slice Aw1 nw1 cw1, .slice Ab1 nb1 cb1], .bool bo])) 1) 4 (.bool bo) (by as_aux_lemma => kernel_rfl) (by as_aux_lemma => kernel_rfl) (by as_aux_lemma => kernel_rfl) (fun _ _ _ _ _ h => h) (fun W hS => by clear hS hHeld; unfold cEv opC; as_aux_lemma => first | (go_simp; done) | (go_simp <;> rfl)) hHeld ?_
            refine readyO [9] (by as_aux_lemma => kernel_rfl) (by simp) ?_
            have HLt := And.intro hHeld.p.lt (And.intro hHeld.r.lt hHeld.bel.size)
            refine memO 9 9 (.alloc 61) 0 (.pointer (some ⟨W5.heap.size, 0, none⟩)) (W5.alloc (.cells #[.slice none 0 0, .int .u64 0, .int .i64 0, .slice none 0 0, .slice none 0 0, .slice none 0 0] 61)) (by as_aux_lemma => kernel_rfl) (by as_aux_lemma => kernel_rfl) (by unfold cEv opC; go_simp) (hHeld.step (below1 _ _)) (fun hHeld2 => ?_) AllReadyH.nil
            clear hHeld
            have hHeld := hHeld2
            clear hHeld2
            replace HX := hide (HX.out.mapZ (Z' := fun d => Z0 w R d ∨ d = W5.heap.size) (Below.step HX.out.bel (below1 W5 (.cells #[.slice none 0 0, .int .u64 0, .int .i64 0, .slice none 0 0, .slice none 0 0, .slice none 0 0] 61))) ((below1 W5 (.cells #[.slice none 0 0, .int .u64 0, .int .i64 0, .slice none 0 0, .slice none 0 0, .slice none 0 0] 61)).block _ HX.out.p.lt) ((below1 W5 (.cells #[.slice none 0 0, .int .u64 0, .int .i64 0, .slice none 0 0, .slice none 0 0, .slice none 0 0] 61)).block _ HX.out.g.lt) ((below1 W5 (.cells #[.slice none 0 0, .int .u64 0, .int .i64 0, .slice none 0 0, .slice none 0 0, .slice none 0 0] 61)).block _ HX.out.r.lt) (fun d hd => (below1 W5 (.cells #[.slice none 0 0, .int .u64 0, .int .i64 0, .slice none 0 0, .slice none 0 0, .slice none 0 0] 61)).block d hd.1) (FrO.tight (below1 W5 (.cells #[.slice none 0 0, .int .u64 0, .int .i64 0, .slice none 0 0, .slice none 0 0, .slice none 0 0] 61)).size rfl))
            replace HLd := hide (show RdR (Sh.int .i64) (W5.alloc (.cells #[.slice none 0 0, .int .u64 0, .int .i64 0, .slice none 0 0, .slice none 0 0, .slice none 0 0] 61)) (FrO (fun d => Z0 w R d ∨ d = W5.heap.size) bp br (W5.alloc (.cells #[.slice none 0 0, .int .u64 0, .int .i64 0, .slice none 0 0, .slice none 0 0, .slice none 0 0] 61))) (some al) l from (HLd.out.keepBlocks (fun d hd => (below1 W5 (.cells #[.slice none 0 0, .int .u64 0, .int .i64 0, .slice none 0 0, .slice none 0 0, .slice none 0 0] 61)).block d hd.1)).more (FrO.tight (below1 W5 (.cells #[.slice none 0 0, .int .u64 0, .int .i64 0, .slice none 0 0, .slice none 0 0, .slice none 0 0] 61)).size rfl))
            replace HNw := hide (HNw.out.mapZ (Z' := fun d => Z0 w R d ∨ d = W5.heap.size) (fun d hd => (below1 W5 (.cells #[.slice none 0 0, .int .u64 0, .int .i64 0, .slice none 0 0, .slice none 0 0, .slice none 0 0] 61)).block d hd.1) (FrO.tight (below1 W5 (.cells #[.slice none 0 0, .int .u64 0, .int .i64 0, .slice none 0 0, .slice none 0 0, .slice none 0 0] 61)).size rfl))
            have HN9 := hide (Blk.new W5 61 #[.slice none 0 0, .int .u64 0, .int .i64 0, .slice none 0 0, .slice none 0 0, .slice none 0 0])
            generalize World.alloc W5 (.cells #[.slice none 0 0, .int .u64 0, .int .i64 0, .slice none 0 0, .slice none 0 0, .slice none 0 0] 61) = Wa at *
            obtain ⟨b9, hb9⟩ : ∃ b, W5.heap.size = b := ⟨_, rfl⟩
            rw [hb9] at HN9 HX HLd HNw
            rw [hb9]
            have Hb9 := hide (show bp < b9 ∧ br < b9 ∧ w.heap.size ≤ b9 from hb9 ▸ HLt)
            clear hb9 HLt
            refine readyO [10] (by as_aux_lemma => kernel_rfl) (by simp) ?_
            have H9 := hide (show (RpB (Z0 w R) w bp bg br #[.slice N nn cN, .int .i64 en, .int .i64 top] Aq nq cq mask ef qs Ak nk ck Aw nw cw Ab nb cb s1) ((((((Wa.setCell ⟨b9, 0, none⟩ (.slice Aq nq cq)).setCell ⟨b9, 1, none⟩ (.int .u64 mask)).setCell ⟨b9, 2, none⟩ (.int .i64 ef)).setCell ⟨b9, 3, none⟩ (.slice Ak1 nk1 ck1)).setCell ⟨b9, 4, none⟩ (.slice Aw1 nw1 cw1)).setCell ⟨b9, 5, none⟩ (.slice Ab1 nb1 cb1)) ∧ Blk ((((((Wa.setCell ⟨b9, 0, none⟩ (.slice Aq nq cq)).setCell ⟨b9, 1, none⟩ (.int .u64 mask)).setCell ⟨b9, 2, none⟩ (.int .i64 ef)).setCell ⟨b9, 3, none⟩ (.slice Ak1 nk1 ck1)).setCell ⟨b9, 4, none⟩ (.slice Aw1 nw1 cw1)).setCell ⟨b9, 5, none⟩ (.slice Ab1 nb1 cb1)) b9 61 #[.slice Aq nq cq, .int .u64 mask, .int .i64 ef, .slice Ak1 nk1 ck1, .slice Aw1 nw1 cw1, .slice Ab1 nb1 cb1] ∧ RpN (Z0 w R) bp br Ak1 nk1 ck1 Aw1 nw1 cw1 Ab1 nb1 cb1 (offKn s1.1 m, offWt s1.1 s1.2.1 ((distOf qs vs, id), (m : Int)), offBs (mostB ef) (hasB mask tg) s1.1 s1.2.2 ((distOf qs vs, id), (m : Int))) ((((((Wa.setCell ⟨b9, 0, none⟩ (.slice Aq nq cq)).setCell ⟨b9, 1, none⟩ (.int .u64 mask)).setCell ⟨b9, 2, none⟩ (.int .i64 ef)).setCell ⟨b9, 3, none⟩ (.slice Ak1 nk1 ck1)).setCell ⟨b9, 4, none⟩ (.slice Aw1 nw1 cw1)).setCell ⟨b9, 5, none⟩ (.slice Ab1 nb1 cb1)) ∧ RdR (Sh.int .i64) ((((((Wa.setCell ⟨b9, 0, none⟩ (.slice Aq nq cq)).setCell ⟨b9, 1, none⟩ (.int .u64 mask)).setCell ⟨b9, 2, none⟩ (.int .i64 ef)).setCell ⟨b9, 3, none⟩ (.slice Ak1 nk1 ck1)).setCell ⟨b9, 4, none⟩ (.slice Aw1 nw1 cw1)).setCell ⟨b9, 5, none⟩ (.slice Ab1 nb1 cb1)) (FrO (Z0 w R) bp br ((((((Wa.setCell ⟨b9, 0, none⟩ (.slice Aq nq cq)).setCell ⟨b9, 1, none⟩ (.int .u64 mask)).setCell ⟨b9, 2, none⟩ (.int .i64 ef)).setCell ⟨b9, 3, none⟩ (.slice Ak1 nk1 ck1)).setCell ⟨b9, 4, none⟩ (.slice Aw1 nw1 cw1)).setCell ⟨b9, 5, none⟩ (.slice Ab1 nb1 cb1))) (some al) l from RpB.far HX.out HN9.out HNw.out HLd.out Hb9.out)
            obtain ⟨r0, r1, r2, r3, r4, r5⟩ := HN9.out.six
            have f0 := HN9.out.frozen 0
            have f1 := HN9.out.frozen 1
            have f2 := HN9.out.frozen 2
            have f3 := HN9.out.frozen 3
            have f4 := HN9.out.frozen 4
            have f5 := HN9.out.frozen 5
            refine storeO 10 (.store 61 (.const (.pointer (some ⟨b9, 0, none⟩))) (.const (.agg #[.slice Aq nq cq, .int .u64 mask, .int .i64 ef, .slice Ak1 nk1 ck1, .slice Aw1 nw1 cw1, .slice Ab1 nb1 cb1]))) 0 ((((((Wa.setCell ⟨b9, 0, none⟩ (.slice Aq nq cq)).setCell ⟨b9, 1, none⟩ (.int .u64 mask)).setCell ⟨b9, 2, none⟩ (.int .i64 ef)).setCell ⟨b9, 3, none⟩ (.slice Ak1 nk1 ck1)).setCell ⟨b9, 4, none⟩ (.slice Aw1 nw1 cw1)).setCell ⟨b9, 5, none⟩ (.slice Ab1 nb1 cb1)) (by as_aux_lemma => kernel_rfl) (by as_aux_lemma => kernel_rfl) (by unfold cEv opC; go_simp) H9.out.1 (fun hHeld2 => ?_) AllReadyH.nil
            clear hHeld
            have hHeld := hHeld2
            clear hHeld2
            refine putsO [11] [11] [(10, .bool bo)] 1 rfl [10] (by as_aux_lemma => kernel_rfl) (by as_aux_lemma => kernel_rfl) rfl (fun _ _ _ _ _ h => h) hHeld ?_
            refine doneO [(9, .pointer (some ⟨b9, 0, none⟩)), (0, .bool bo), (9, .tuple #[.agg #[.slice Aq nq cq, .int .u64 mask, .int .i64 ef, .slice Ak1 nk1 ck1, .slice Aw1 nw1 cw1, .slice Ab1 nb1 cb1], .bool bo]), (0, .agg #[.slice Aq nq cq, .int .u64 mask, .int .i64 ef, .slice Ak nk ck, .slice Aw nw cw, .slice Ab nb cb]), (0, .int .i64 (m : Int)), (0, .agg #[.slice N nn cN, .int .i64 en, .int .i64 top]), (0, .int .i64 (m : Int)), (0, .agg #[.int .u64 id, .slice V4 vs.length c4, .int .u64 tg]), (0, .tuple #[.agg #[.slice Aq nq cq, .int .u64 mask, .int .i64 ef, .slice Ak1 nk1 ck1, .slice Aw1 nw1 cw1, .slice Ab1 nb1 cb1], .bool bo]), (0, .agg #[.slice Aq nq cq, .int .u64 mask, .int .i64 ef, .slice Ak1 nk1 ck1, .slice Aw1 nw1 cw1, .slice Ab1 nb1 cb1]), (0, .bool bo)] (by as_aux_lemma => kernel_rfl) (by as_aux_lemma => kernel_rfl) ?_
            simp only [fillG]
            clear r0 r1 r2 r3 r4 r5 f0 f1 f2 f3 f4 f5 hHeld HX HLd HNw HN9 HV
            generalize (((((Wa.setCell ⟨b9, 0, none⟩ (.slice Aq nq cq)).setCell ⟨b9, 1, none⟩ (.int .u64 mask)).setCell ⟨b9, 2, none⟩ (.int .i64 ef)).setCell ⟨b9, 3, none⟩ (.slice Ak1 nk1 ck1)).setCell ⟨b9, 4, none⟩ (.slice Aw1 nw1 cw1)).setCell ⟨b9, 5, none⟩ (.slice Ab1 nb1 cb1) = W9 at *
            obtain ⟨r0, r1, r2, r3, r4, r5⟩ := H9.out.2.1.six
            obtain ⟨p0, p1, p2, p3, p4, p5⟩ := H9.out.1.p.six
            have f0 := H9.out.1.p.frozen 0
            have f1 := H9.out.1.p.frozen 1
            have f2 := H9.out.1.p.frozen 2
            have f3 := H9.out.1.p.frozen 3
            have f4 := H9.out.1.p.frozen 4
            have f5 := H9.out.1.p.frozen 5
            have HPu := hide (show OffL (Z0 w R) w bp bg br #[.slice N nn cN, .int .i64 en, .int .i64 top] Aq nq cq mask ef qs (some al) l (offL ns qs mask (mostB ef) s (l.take (k + 1))) ((((((W9.setCell ⟨bp, 0, none⟩ (.slice Aq nq cq)).setCell ⟨bp, 1, none⟩ (.int .u64 mask)).setCell ⟨bp, 2, none⟩ (.int .i64 ef)).setCell ⟨bp, 3, none⟩ (.slice Ak1 nk1 ck1)).setCell ⟨bp, 4, none⟩ (.slice Aw1 nw1 cw1)).setCell ⟨bp, 5, none⟩ (.slice Ab1 nb1 cb1)) from by
              rw [HSn2.out]
              exact ⟨⟨_, _, _, _, _, _, _, _, _, H9.out.1.put H9.out.2.2.1⟩, (H9.out.2.2.2.keepBlocks fun d hd => six_far hd.2.1).more fun d hd => hd.step (by simp)⟩)
            clear H9
            go_wp2
            go_roundw
            case rel => exact ⟨k + 1, by omega, by go_num, HPu⟩
            case measure => simp [intOf]; omega
          have HLt := And.intro hHeld.p.lt (And.intro hHeld.r.lt hHeld.bel.size)
          refine memO 9 9 (.alloc 61) 0 (.pointer (some ⟨W4.heap.size, 0, none⟩)) (W4.alloc (.cells #[.slice none 0 0, .int .u64 0, .int .i64 0, .slice none 0 0, .slice none 0 0, .slice none 0 0] 61)) (by as_aux_lemma => kernel_rfl) (by as_aux_lemma => kernel_rfl) (by unfold cEv opC; go_simp) (hHeld.step (below1 _ _)) (fun hHeld2 => ?_) AllReadyH.nil
          clear hHeld
          have hHeld := hHeld2
          clear hHeld2
          replace HX := hide (HX.out.mapZ (Z' := fun d => Z0 w R d ∨ d = W4.heap.size) (Below.step HX.out.bel (below1 W4 (.cells #[.slice none 0 0, .int .u64 0, .int .i64 0, .slice none 0 0, .slice none 0 0, .slice none 0 0] 61))) ((below1 W4 (.cells #[.slice none 0 0, .int .u64 0, .int .i64 0, .slice none 0 0, .slice none 0 0, .slice none 0 0] 61)).block _ HX.out.p.lt) ((below1 W4 (.cells #[.slice none 0 0, .int .u64 0, .int .i64 0, .slice none 0 0, .slice none 0 0, .slice none 0 0] 61)).block _ HX.out.g.lt) ((below1 W4 (.cells #[.slice none 0 0, .int .u64 0, .int .i64 0, .slice none 0 0, .slice none 0 0, .slice none 0 0] 61)).block _ HX.out.r.lt) (fun d hd => (below1 W4 (.cells #[.slice none 0 0, .int .u64 0, .int .i64 0, .slice none 0 0, .slice none 0 0, .slice none 0 0] 61)).block d hd.1) (FrO.tight (below1 W4 (.cells #[.slice none 0 0, .int .u64 0, .int .i64 0, .slice none 0 0, .slice none 0 0, .slice none 0 0] 61)).size rfl))
          replace HLd := hide (show RdR (Sh.int .i64) (W4.alloc (.cells #[.slice none 0 0, .int .u64 0, .int .i64 0, .slice none 0 0, .slice none 0 0, .slice none 0 0] 61)) (FrO (fun d => Z0 w R d ∨ d = W4.heap.size) bp br (W4.alloc (.cells #[.slice none 0 0, .int .u64 0, .int .i64 0, .slice none 0 0, .slice none 0 0, .slice none 0 0] 61))) (some al) l from (HLd.out.keepBlocks (fun d hd => (below1 W4 (.cells #[.slice none 0 0, .int .u64 0, .int .i64 0, .slice none 0 0, .slice none 0 0, .slice none 0 0] 61)).block d hd.1)).more (FrO.tight (below1 W4 (.cells #[.slice none 0 0, .int .u64 0, .int .i64 0, .slice none 0 0, .slice none 0 0, .slice none 0 0] 61)).size rfl))
          replace HV := hide (show RdR (Sh.int .i32) (W4.alloc (.cells #[.slice none 0 0, .int .u64 0, .int .i64 0, .slice none 0 0, .slice none 0 0, .slice none 0 0] 61)) (FrO (fun d => Z0 w R d ∨ d = W4.heap.size) bp br (W4.alloc (.cells #[.slice none 0 0, .int .u64 0, .int .i64 0, .slice none 0 0, .slice none 0 0, .slice none 0 0] 61))) V4 vs from (HV.out.keepBlocks (fun d hd => (below1 W4 (.cells #[.slice none 0 0, .int .u64 0, .int .i64 0, .slice none 0 0, .slice none 0 0, .slice none 0 0] 61)).block d hd.1)).more (FrO.tight (below1 W4 (.cells #[.slice none 0 0, .int .u64 0, .int .i64 0, .slice none 0 0, .slice none 0 0, .slice none 0 0] 61)).size rfl))
          have HN9 := hide (Blk.new W4 61 #[.slice none 0 0, .int .u64 0, .int .i64 0, .slice none 0 0, .slice none 0 0, .slice none 0 0])
          generalize World.alloc W4 (.cells #[.slice none 0 0, .int .u64 0, .int .i64 0, .slice none 0 0, .slice none 0 0, .slice none 0 0] 61) = Wa at *
          obtain ⟨b9, hb9⟩ : ∃ b, W4.heap.size = b := ⟨_, rfl⟩
          rw [hb9] at HN9 HX HLd HV
          rw [hb9]
          have Hb9 := hide (show bp < b9 ∧ br < b9 ∧ w.heap.size ≤ b9 from hb9 ▸ HLt)
          clear hb9 HLt
          refine readyO [5] (by as_aux_lemma => kernel_rfl) (by simp) ?_
          refine callO 5 26 (.call { callee := .value (.func 61), args := #[.const (.agg #[.slice Aq nq cq, .int .u64 mask, .int .i64 ef, .slice Ak nk ck, .slice Aw nw cw, .slice Ab nb cb]), .const (.int .i64 (m : Int)), .const (.agg #[.int .u64 id, .slice V4 vs.length c4, .int .u64 tg])], argTypes := #[61, 3, 40] }) 111 61 #[.agg #[.slice Aq nq cq, .int .u64 mask, .int .i64 ef, .slice Ak nk ck, .slice Aw nw cw, .slice Ab nb cb], .int .i64 (m : Int), .agg #[.int .u64 id, .slice V4 vs.length c4, .int .u64 tg]] (by as_aux_lemma => kernel_rfl) (by as_aux_lemma => kernel_rfl) (by unfold cEv opC; go_simp) ?_ AllReadyH.nil
          refine (RpB.offer HX.out (fun d hd => hd.elim (fun e => Nat.lt_of_lt_of_le e.1 HX.out.bel.size) fun e => by have := HN9.out.lt; omega) HPl.out.lq HPl.out.c1 HPl.out.c2 HPl.out.qi HV.out hc4 hm4 HIi.out HMk.out HSm.out.1 HSm.out.2.1 HSm.out.2.2 (m : Int) id tg).mono ?_
          rintro e W5 ⟨Ak1, nk1, ck1, Aw1, nw1, cw1, Ab1, nb1, cb1, bo, rfl, hn5, hb5⟩
          replace HX := hide (HX.out.step hb5)
          replace HLd := hide (show RdR (Sh.int .i64) _ (FrO (fun d => Z0 w R d ∨ d = b9) bp br _) (some al) l from (HLd.out.keepBlocks fun d hd => hb5.block d hd.1).more fun d hd => hd.step hb5.size)
          replace HV := hide (show RdR (Sh.int .i32) _ (FrO (fun d => Z0 w R d ∨ d = b9) bp br _) V4 vs from (HV.out.keepBlocks fun d hd => hb5.block d hd.1).more fun d hd => hd.step hb5.size)
          replace HN9 := hide (HN9.out.below hb5 HN9.out.lt)
          have HNw := hide hn5
          refine ⟨_, rfl, (hHeld.step hb5), fun hHeld2 => ?_⟩
          clear hHeld
          have hHeld := hHeld2
          clear hHeld2
          refine putsO [6] [6] [(20, .tuple #[.agg #[.slice Aq nq cq, .int .u64 mask, .int .i64 ef, .slice Ak1 nk1 ck1, .slice Aw1 nw1 cw1, .slice Ab1 nb1 cb1], .bool bo])] 1 rfl [20] (by as_aux_lemma => kernel_rfl) (by as_aux_lemma => kernel_rfl) rfl (fun _ _ _ _ _ h => h) hHeld ?_
          refine takeO 7 27 (.extract (.const (.tuple #[.agg #[.slice Aq nq cq, .int .u64 mask, .int .i64 ef, .slice Ak1 nk1 ck1, .slice Aw1 nw1 cw1, .slice Ab1 nb1 cb1], .bool bo])) 0) 61 (.agg #[.slice Aq nq cq, .int .u64 mask, .int .i64 ef, .slice Ak1 nk1 ck1, .slice Aw1 nw1 cw1, .slice Ab1 nb1 cb1]) (by as_aux_lemma => kernel_rfl) (by as_aux_lemma => kernel_rfl) (by as_aux_lemma => kernel_rfl) (fun _ _ _ _ _ h => h) (fun W hS => by clear hS hHeld; unfold cEv opC; as_aux_lemma => first | (go_simp; done) | (go_simp <;> rfl)) hHeld ?_
          refine takeO 8 28 (.extract (.const (.tuple #[.agg #[.slice Aq nq cq, .int .u64 mask, .int .i64 ef, .slice Ak1 nk1 ck1, .slice Aw1 nw1 cw1, .slice Ab1 nb1 cb1], .bool bo])) 1) 4 (.bool bo) (by as_aux_lemma => kernel_rfl) (by as_aux_lemma => kernel_rfl) (by as_aux_lemma => kernel_rfl) (fun _ _ _ _ _ h => h) (fun W hS => by clear hS hHeld; unfold cEv opC; as_aux_lemma => first | (go_simp; done) | (go_simp <;> rfl)) hHeld ?_
          refine readyO [10] (by as_aux_lemma => kernel_rfl) (by simp) ?_
          have H9 := hide (show (RpB (Z0 w R) w bp bg br #[.slice N nn cN, .int .i64 en, .int .i64 top] Aq nq cq mask ef qs Ak nk ck Aw nw cw Ab nb cb s1) ((((((W5.setCell ⟨b9, 0, none⟩ (.slice Aq nq cq)).setCell ⟨b9, 1, none⟩ (.int .u64 mask)).setCell ⟨b9, 2, none⟩ (.int .i64 ef)).setCell ⟨b9, 3, none⟩ (.slice Ak1 nk1 ck1)).setCell ⟨b9, 4, none⟩ (.slice Aw1 nw1 cw1)).setCell ⟨b9, 5, none⟩ (.slice Ab1 nb1 cb1)) ∧ Blk ((((((W5.setCell ⟨b9, 0, none⟩ (.slice Aq nq cq)).setCell ⟨b9, 1, none⟩ (.int .u64 mask)).setCell ⟨b9, 2, none⟩ (.int .i64 ef)).setCell ⟨b9, 3, none⟩ (.slice Ak1 nk1 ck1)).setCell ⟨b9, 4, none⟩ (.slice Aw1 nw1 cw1)).setCell ⟨b9, 5, none⟩ (.slice Ab1 nb1 cb1)) b9 61 #[.slice Aq nq cq, .int .u64 mask, .int .i64 ef, .slice Ak1 nk1 ck1, .slice Aw1 nw1 cw1, .slice Ab1 nb1 cb1] ∧ RpN (Z0 w R) bp br Ak1 nk1 ck1 Aw1 nw1 cw1 Ab1 nb1 cb1 (offKn s1.1 m, offWt s1.1 s1.2.1 ((distOf qs vs, id), (m : Int)), offBs (mostB ef) (hasB mask tg) s1.1 s1.2.2 ((distOf qs vs, id), (m : Int))) ((((((W5.setCell ⟨b9, 0, none⟩ (.slice Aq nq cq)).setCell ⟨b9, 1, none⟩ (.int .u64 mask)).setCell ⟨b9, 2, none⟩ (.int .i64 ef)).setCell ⟨b9, 3, none⟩ (.slice Ak1 nk1 ck1)).setCell ⟨b9, 4, none⟩ (.slice Aw1 nw1 cw1)).setCell ⟨b9, 5, none⟩ (.slice Ab1 nb1 cb1)) ∧ RdR (Sh.int .i64) ((((((W5.setCell ⟨b9, 0, none⟩ (.slice Aq nq cq)).setCell ⟨b9, 1, none⟩ (.int .u64 mask)).setCell ⟨b9, 2, none⟩ (.int .i64 ef)).setCell ⟨b9, 3, none⟩ (.slice Ak1 nk1 ck1)).setCell ⟨b9, 4, none⟩ (.slice Aw1 nw1 cw1)).setCell ⟨b9, 5, none⟩ (.slice Ab1 nb1 cb1)) (FrO (Z0 w R) bp br ((((((W5.setCell ⟨b9, 0, none⟩ (.slice Aq nq cq)).setCell ⟨b9, 1, none⟩ (.int .u64 mask)).setCell ⟨b9, 2, none⟩ (.int .i64 ef)).setCell ⟨b9, 3, none⟩ (.slice Ak1 nk1 ck1)).setCell ⟨b9, 4, none⟩ (.slice Aw1 nw1 cw1)).setCell ⟨b9, 5, none⟩ (.slice Ab1 nb1 cb1))) (some al) l from RpB.far HX.out HN9.out HNw.out HLd.out Hb9.out)
          obtain ⟨r0, r1, r2, r3, r4, r5⟩ := HN9.out.six
          have f0 := HN9.out.frozen 0
          have f1 := HN9.out.frozen 1
          have f2 := HN9.out.frozen 2
          have f3 := HN9.out.frozen 3
          have f4 := HN9.out.frozen 4
          have f5 := HN9.out.frozen 5
          refine storeO 10 (.store 61 (.const (.pointer (some ⟨b9, 0, none⟩))) (.const (.agg #[.slice Aq nq cq, .int .u64 mask, .int .i64 ef, .slice Ak1 nk1 ck1, .slice Aw1 nw1 cw1, .slice Ab1 nb1 cb1]))) 0 ((((((W5.setCell ⟨b9, 0, none⟩ (.slice Aq nq cq)).setCell ⟨b9, 1, none⟩ (.int .u64 mask)).setCell ⟨b9, 2, none⟩ (.int .i64 ef)).setCell ⟨b9, 3, none⟩ (.slice Ak1 nk1 ck1)).setCell ⟨b9, 4, none⟩ (.slice Aw1 nw1 cw1)).setCell ⟨b9, 5, none⟩ (.slice Ab1 nb1 cb1)) (by as_aux_lemma => kernel_rfl) (by as_aux_lemma => kernel_rfl) (by unfold cEv opC; go_simp) H9.out.1 (fun hHeld2 => ?_) AllReadyH.nil
          clear hHeld
          have hHeld := hHeld2
          clear hHeld2
          refine putsO [11] [11] [(10, .bool bo)] 1 rfl [10] (by as_aux_lemma => kernel_rfl) (by as_aux_lemma => kernel_rfl) rfl (fun _ _ _ _ _ h => h) hHeld ?_
          refine doneO [(9, .pointer (some ⟨b9, 0, none⟩)), (0, .bool bo), (9, .tuple #[.agg #[.slice Aq nq cq, .int .u64 mask, .int .i64 ef, .slice Ak1 nk1 ck1, .slice Aw1 nw1 cw1, .slice Ab1 nb1 cb1], .bool bo]), (0, .agg #[.slice Aq nq cq, .int .u64 mask, .int .i64 ef, .slice Ak nk ck, .slice Aw nw cw, .slice Ab nb cb]), (0, .int .i64 (m : Int)), (0, .agg #[.slice N nn cN, .int .i64 en, .int .i64 top]), (0, .int .i64 (m : Int)), (0, .agg #[.int .u64 id, .slice V4 vs.length c4, .int .u64 tg]), (0, .tuple #[.agg #[.slice Aq nq cq, .int .u64 mask, .int .i64 ef, .slice Ak1 nk1 ck1, .slice Aw1 nw1 cw1, .slice Ab1 nb1 cb1], .bool bo]), (0, .agg #[.slice Aq nq cq, .int .u64 mask, .int .i64 ef, .slice Ak1 nk1 ck1, .slice Aw1 nw1 cw1, .slice Ab1 nb1 cb1]), (0, .bool bo)] (by as_aux_lemma => kernel_rfl) (by as_aux_lemma => kernel_rfl) ?_
          simp only [fillG]
          clear r0 r1 r2 r3 r4 r5 f0 f1 f2 f3 f4 f5 hHeld HX HLd HNw HN9 HV
          generalize (((((W5.setCell ⟨b9, 0, none⟩ (.slice Aq nq cq)).setCell ⟨b9, 1, none⟩ (.int .u64 mask)).setCell ⟨b9, 2, none⟩ (.int .i64 ef)).setCell ⟨b9, 3, none⟩ (.slice Ak1 nk1 ck1)).setCell ⟨b9, 4, none⟩ (.slice Aw1 nw1 cw1)).setCell ⟨b9, 5, none⟩ (.slice Ab1 nb1 cb1) = W9 at *
          obtain ⟨r0, r1, r2, r3, r4, r5⟩ := H9.out.2.1.six
          obtain ⟨p0, p1, p2, p3, p4, p5⟩ := H9.out.1.p.six
          have f0 := H9.out.1.p.frozen 0
          have f1 := H9.out.1.p.frozen 1
          have f2 := H9.out.1.p.frozen 2
          have f3 := H9.out.1.p.frozen 3
          have f4 := H9.out.1.p.frozen 4
          have f5 := H9.out.1.p.frozen 5
          have HPu := hide (show OffL (Z0 w R) w bp bg br #[.slice N nn cN, .int .i64 en, .int .i64 top] Aq nq cq mask ef qs (some al) l (offL ns qs mask (mostB ef) s (l.take (k + 1))) ((((((W9.setCell ⟨bp, 0, none⟩ (.slice Aq nq cq)).setCell ⟨bp, 1, none⟩ (.int .u64 mask)).setCell ⟨bp, 2, none⟩ (.int .i64 ef)).setCell ⟨bp, 3, none⟩ (.slice Ak1 nk1 ck1)).setCell ⟨bp, 4, none⟩ (.slice Aw1 nw1 cw1)).setCell ⟨bp, 5, none⟩ (.slice Ab1 nb1 cb1)) from by
            rw [HSn2.out]
            exact ⟨⟨_, _, _, _, _, _, _, _, _, H9.out.1.put H9.out.2.2.1⟩, (H9.out.2.2.2.keepBlocks fun d hd => six_far hd.2.1).more fun d hd => hd.step (by simp)⟩)
          clear H9
          go_wp2
          go_roundw
          case rel => exact ⟨k + 1, by omega, by go_num, HPu⟩
          case measure => simp [intOf]; omega
        have HLt := And.intro hHeld.p.lt (And.intro hHeld.r.lt hHeld.bel.size)
        refine memO 9 9 (.alloc 61) 0 (.pointer (some ⟨W0.heap.size, 0, none⟩)) (W0.alloc (.cells #[.slice none 0 0, .int .u64 0, .int .i64 0, .slice none 0 0, .slice none 0 0, .slice none 0 0] 61)) (by as_aux_lemma => kernel_rfl) (by as_aux_lemma => kernel_rfl) (by unfold cEv opC; go_simp) (hHeld.step (below1 _ _)) (fun hHeld2 => ?_) AllReadyH.nil
        clear hHeld
        have hHeld := hHeld2
        clear hHeld2
        replace HX := hide (HX.out.mapZ (Z' := fun d => Z0 w R d ∨ d = W0.heap.size) (Below.step HX.out.bel (below1 W0 (.cells #[.slice none 0 0, .int .u64 0, .int .i64 0, .slice none 0 0, .slice none 0 0, .slice none 0 0] 61))) ((below1 W0 (.cells #[.slice none 0 0, .int .u64 0, .int .i64 0, .slice none 0 0, .slice none 0 0, .slice none 0 0] 61)).block _ HX.out.p.lt) ((below1 W0 (.cells #[.slice none 0 0, .int .u64 0, .int .i64 0, .slice none 0 0, .slice none 0 0, .slice none 0 0] 61)).block _ HX.out.g.lt) ((below1 W0 (.cells #[.slice none 0 0, .int .u64 0, .int .i64 0, .slice none 0 0, .slice none 0 0, .slice none 0 0] 61)).block _ HX.out.r.lt) (fun d hd => (below1 W0 (.cells #[.slice none 0 0, .int .u64 0, .int .i64 0, .slice none 0 0, .slice none 0 0, .slice none 0 0] 61)).block d hd.1) (FrO.tight (below1 W0 (.cells #[.slice none 0 0, .int .u64 0, .int .i64 0, .slice none 0 0, .slice none 0 0, .slice none 0 0] 61)).size rfl))
        replace HLd := hide (show RdR (Sh.int .i64) (W0.alloc (.cells #[.slice none 0 0, .int .u64 0, .int .i64 0, .slice none 0 0, .slice none 0 0, .slice none 0 0] 61)) (FrO (fun d => Z0 w R d ∨ d = W0.heap.size) bp br (W0.alloc (.cells #[.slice none 0 0, .int .u64 0, .int .i64 0, .slice none 0 0, .slice none 0 0, .slice none 0 0] 61))) (some al) l from (HLd.out.keepBlocks (fun d hd => (below1 W0 (.cells #[.slice none 0 0, .int .u64 0, .int .i64 0, .slice none 0 0, .slice none 0 0, .slice none 0 0] 61)).block d hd.1)).more (FrO.tight (below1 W0 (.cells #[.slice none 0 0, .int .u64 0, .int .i64 0, .slice none 0 0, .slice none 0 0, .slice none 0 0] 61)).size rfl))
        have HN9 := hide (Blk.new W0 61 #[.slice none 0 0, .int .u64 0, .int .i64 0, .slice none 0 0, .slice none 0 0, .slice none 0 0])
        generalize World.alloc W0 (.cells #[.slice none 0 0, .int .u64 0, .int .i64 0, .slice none 0 0, .slice none 0 0, .slice none 0 0] 61) = Wa at *
        obtain ⟨b9, hb9⟩ : ∃ b, W0.heap.size = b := ⟨_, rfl⟩
        rw [hb9] at HN9 HX HLd
        rw [hb9]
        have Hb9 := hide (show bp < b9 ∧ br < b9 ∧ w.heap.size ≤ b9 from hb9 ▸ HLt)
        clear hb9 HLt
        refine readyO [4] (by as_aux_lemma => kernel_rfl) (by simp) ?_
        refine callO 4 25 (.call { callee := .value (.func 62), args := #[.const (.agg #[.slice N nn cN, .int .i64 en, .int .i64 top]), .const (.int .i64 (m : Int))], argTypes := #[24, 3] }) 40 62 #[.agg #[.slice N nn cN, .int .i64 en, .int .i64 top], .int .i64 (m : Int)] (by as_aux_lemma => kernel_rfl) (by as_aux_lemma => kernel_rfl) (by unfold cEv opC; go_simp) ?_ AllReadyH.nil
        refine (CI.out _ hHeld.bel).mono ?_
        rintro e W4 ⟨V4, c4, rfl, hc4, hm4, hv4, hb4⟩
        replace HX := hide (HX.out.step hb4)
        replace HLd := hide (show RdR (Sh.int .i64) _ (FrO (fun d => Z0 w R d ∨ d = b9) bp br _) (some al) l from (HLd.out.keepBlocks fun d hd => hb4.block d hd.1).more fun d hd => hd.step hb4.size)
        replace HN9 := hide (HN9.out.below hb4 HN9.out.lt)
        have HV := hide (show RdR (Sh.int .i32) W4 (FrO (fun d => Z0 w R d ∨ d = b9) bp br W4) V4 vs from (hv4.below hb4 fun d hd => Nat.lt_of_lt_of_le (HRR.out d hd) hHeld.bel.size).more fun d hd => ⟨Nat.lt_of_lt_of_le (HRR.out d hd) (hHeld.step hb4).bel.size, by have := hHeld.hp; have := HRR.out d hd; omega, by have := hHeld.hr; have := HRR.out d hd; omega, fun e => e.elim (fun e => e.2 hd) fun e => by have := Hb9.out.2.2; have := HRR.out d hd; omega⟩)
        refine ⟨_, rfl, (hHeld.step hb4), fun hHeld2 => ?_⟩
        clear hHeld
        have hHeld := hHeld2
        clear hHeld2
        refine readyO [5] (by as_aux_lemma => kernel_rfl) (by simp) ?_
        refine callO 5 26 (.call { callee := .value (.func 61), args := #[.const (.agg #[.slice Aq nq cq, .int .u64 mask, .int .i64 ef, .slice Ak nk ck, .slice Aw nw cw, .slice Ab nb cb]), .const (.int .i64 (m : Int)), .const (.agg #[.int .u64 id, .slice V4 vs.length c4, .int .u64 tg])], argTypes := #[61, 3, 40] }) 111 61 #[.agg #[.slice Aq nq cq, .int .u64 mask, .int .i64 ef, .slice Ak nk ck, .slice Aw nw cw, .slice Ab nb cb], .int .i64 (m : Int), .agg #[.int .u64 id, .slice V4 vs.length c4, .int .u64 tg]] (by as_aux_lemma => kernel_rfl) (by as_aux_lemma => kernel_rfl) (by unfold cEv opC; go_simp) ?_ AllReadyH.nil
        refine (RpB.offer HX.out (fun d hd => hd.elim (fun e => Nat.lt_of_lt_of_le e.1 HX.out.bel.size) fun e => by have := HN9.out.lt; omega) HPl.out.lq HPl.out.c1 HPl.out.c2 HPl.out.qi HV.out hc4 hm4 HIi.out HMk.out HSm.out.1 HSm.out.2.1 HSm.out.2.2 (m : Int) id tg).mono ?_
        rintro e W5 ⟨Ak1, nk1, ck1, Aw1, nw1, cw1, Ab1, nb1, cb1, bo, rfl, hn5, hb5⟩
        replace HX := hide (HX.out.step hb5)
        replace HLd := hide (show RdR (Sh.int .i64) _ (FrO (fun d => Z0 w R d ∨ d = b9) bp br _) (some al) l from (HLd.out.keepBlocks fun d hd => hb5.block d hd.1).more fun d hd => hd.step hb5.size)
        replace HV := hide (show RdR (Sh.int .i32) _ (FrO (fun d => Z0 w R d ∨ d = b9) bp br _) V4 vs from (HV.out.keepBlocks fun d hd => hb5.block d hd.1).more fun d hd => hd.step hb5.size)
        replace HN9 := hide (HN9.out.below hb5 HN9.out.lt)
        have HNw := hide hn5
        refine ⟨_, rfl, (hHeld.step hb5), fun hHeld2 => ?_⟩
        clear hHeld
        have hHeld := hHeld2
        clear hHeld2
        refine putsO [6] [6] [(20, .tuple #[.agg #[.slice Aq nq cq, .int .u64 mask, .int .i64 ef, .slice Ak1 nk1 ck1, .slice Aw1 nw1 cw1, .slice Ab1 nb1 cb1], .bool bo])] 1 rfl [20] (by as_aux_lemma => kernel_rfl) (by as_aux_lemma => kernel_rfl) rfl (fun _ _ _ _ _ h => h) hHeld ?_
        refine takeO 7 27 (.extract (.const (.tuple #[.agg #[.slice Aq nq cq, .int .u64 mask, .int .i64 ef, .slice Ak1 nk1 ck1, .slice Aw1 nw1 cw1, .slice Ab1 nb1 cb1], .bool bo])) 0) 61 (.agg #[.slice Aq nq cq, .int .u64 mask, .int .i64 ef, .slice Ak1 nk1 ck1, .slice Aw1 nw1 cw1, .slice Ab1 nb1 cb1]) (by as_aux_lemma => kernel_rfl) (by as_aux_lemma => kernel_rfl) (by as_aux_lemma => kernel_rfl) (fun _ _ _ _ _ h => h) (fun W hS => by clear hS hHeld; unfold cEv opC; as_aux_lemma => first | (go_simp; done) | (go_simp <;> rfl)) hHeld ?_
        refine takeO 8 28 (.extract (.const (.tuple #[.agg #[.slice Aq nq cq, .int .u64 mask, .int .i64 ef, .slice Ak1 nk1 ck1, .slice Aw1 nw1 cw1, .slice Ab1 nb1 cb1], .bool bo])) 1) 4 (.bool bo) (by as_aux_lemma => kernel_rfl) (by as_aux_lemma => kernel_rfl) (by as_aux_lemma => kernel_rfl) (fun _ _ _ _ _ h => h) (fun W hS => by clear hS hHeld; unfold cEv opC; as_aux_lemma => first | (go_simp; done) | (go_simp <;> rfl)) hHeld ?_
        refine readyO [10] (by as_aux_lemma => kernel_rfl) (by simp) ?_
        have H9 := hide (show (RpB (Z0 w R) w bp bg br #[.slice N nn cN, .int .i64 en, .int .i64 top] Aq nq cq mask ef qs Ak nk ck Aw nw cw Ab nb cb s1) ((((((W5.setCell ⟨b9, 0, none⟩ (.slice Aq nq cq)).setCell ⟨b9, 1, none⟩ (.int .u64 mask)).setCell ⟨b9, 2, none⟩ (.int .i64 ef)).setCell ⟨b9, 3, none⟩ (.slice Ak1 nk1 ck1)).setCell ⟨b9, 4, none⟩ (.slice Aw1 nw1 cw1)).setCell ⟨b9, 5, none⟩ (.slice Ab1 nb1 cb1)) ∧ Blk ((((((W5.setCell ⟨b9, 0, none⟩ (.slice Aq nq cq)).setCell ⟨b9, 1, none⟩ (.int .u64 mask)).setCell ⟨b9, 2, none⟩ (.int .i64 ef)).setCell ⟨b9, 3, none⟩ (.slice Ak1 nk1 ck1)).setCell ⟨b9, 4, none⟩ (.slice Aw1 nw1 cw1)).setCell ⟨b9, 5, none⟩ (.slice Ab1 nb1 cb1)) b9 61 #[.slice Aq nq cq, .int .u64 mask, .int .i64 ef, .slice Ak1 nk1 ck1, .slice Aw1 nw1 cw1, .slice Ab1 nb1 cb1] ∧ RpN (Z0 w R) bp br Ak1 nk1 ck1 Aw1 nw1 cw1 Ab1 nb1 cb1 (offKn s1.1 m, offWt s1.1 s1.2.1 ((distOf qs vs, id), (m : Int)), offBs (mostB ef) (hasB mask tg) s1.1 s1.2.2 ((distOf qs vs, id), (m : Int))) ((((((W5.setCell ⟨b9, 0, none⟩ (.slice Aq nq cq)).setCell ⟨b9, 1, none⟩ (.int .u64 mask)).setCell ⟨b9, 2, none⟩ (.int .i64 ef)).setCell ⟨b9, 3, none⟩ (.slice Ak1 nk1 ck1)).setCell ⟨b9, 4, none⟩ (.slice Aw1 nw1 cw1)).setCell ⟨b9, 5, none⟩ (.slice Ab1 nb1 cb1)) ∧ RdR (Sh.int .i64) ((((((W5.setCell ⟨b9, 0, none⟩ (.slice Aq nq cq)).setCell ⟨b9, 1, none⟩ (.int .u64 mask)).setCell ⟨b9, 2, none⟩ (.int .i64 ef)).setCell ⟨b9, 3, none⟩ (.slice Ak1 nk1 ck1)).setCell ⟨b9, 4, none⟩ (.slice Aw1 nw1 cw1)).setCell ⟨b9, 5, none⟩ (.slice Ab1 nb1 cb1)) (FrO (Z0 w R) bp br ((((((W5.setCell ⟨b9, 0, none⟩ (.slice Aq nq cq)).setCell ⟨b9, 1, none⟩ (.int .u64 mask)).setCell ⟨b9, 2, none⟩ (.int .i64 ef)).setCell ⟨b9, 3, none⟩ (.slice Ak1 nk1 ck1)).setCell ⟨b9, 4, none⟩ (.slice Aw1 nw1 cw1)).setCell ⟨b9, 5, none⟩ (.slice Ab1 nb1 cb1))) (some al) l from RpB.far HX.out HN9.out HNw.out HLd.out Hb9.out)
        obtain ⟨r0, r1, r2, r3, r4, r5⟩ := HN9.out.six
        have f0 := HN9.out.frozen 0
        have f1 := HN9.out.frozen 1
        have f2 := HN9.out.frozen 2
        have f3 := HN9.out.frozen 3
        have f4 := HN9.out.frozen 4
        have f5 := HN9.out.frozen 5
        refine storeO 10 (.store 61 (.const (.pointer (some ⟨b9, 0, none⟩))) (.const (.agg #[.slice Aq nq cq, .int .u64 mask, .int .i64 ef, .slice Ak1 nk1 ck1, .slice Aw1 nw1 cw1, .slice Ab1 nb1 cb1]))) 0 ((((((W5.setCell ⟨b9, 0, none⟩ (.slice Aq nq cq)).setCell ⟨b9, 1, none⟩ (.int .u64 mask)).setCell ⟨b9, 2, none⟩ (.int .i64 ef)).setCell ⟨b9, 3, none⟩ (.slice Ak1 nk1 ck1)).setCell ⟨b9, 4, none⟩ (.slice Aw1 nw1 cw1)).setCell ⟨b9, 5, none⟩ (.slice Ab1 nb1 cb1)) (by as_aux_lemma => kernel_rfl) (by as_aux_lemma => kernel_rfl) (by unfold cEv opC; go_simp) H9.out.1 (fun hHeld2 => ?_) AllReadyH.nil
        clear hHeld
        have hHeld := hHeld2
        clear hHeld2
        refine putsO [11] [11] [(10, .bool bo)] 1 rfl [10] (by as_aux_lemma => kernel_rfl) (by as_aux_lemma => kernel_rfl) rfl (fun _ _ _ _ _ h => h) hHeld ?_
        refine doneO [(9, .pointer (some ⟨b9, 0, none⟩)), (0, .bool bo), (9, .tuple #[.agg #[.slice Aq nq cq, .int .u64 mask, .int .i64 ef, .slice Ak1 nk1 ck1, .slice Aw1 nw1 cw1, .slice Ab1 nb1 cb1], .bool bo]), (0, .agg #[.slice Aq nq cq, .int .u64 mask, .int .i64 ef, .slice Ak nk ck, .slice Aw nw cw, .slice Ab nb cb]), (0, .int .i64 (m : Int)), (0, .agg #[.slice N nn cN, .int .i64 en, .int .i64 top]), (0, .int .i64 (m : Int)), (0, .agg #[.int .u64 id, .slice V4 vs.length c4, .int .u64 tg]), (0, .tuple #[.agg #[.slice Aq nq cq, .int .u64 mask, .int .i64 ef, .slice Ak1 nk1 ck1, .slice Aw1 nw1 cw1, .slice Ab1 nb1 cb1], .bool bo]), (0, .agg #[.slice Aq nq cq, .int .u64 mask, .int .i64 ef, .slice Ak1 nk1 ck1, .slice Aw1 nw1 cw1, .slice Ab1 nb1 cb1]), (0, .bool bo)] (by as_aux_lemma => kernel_rfl) (by as_aux_lemma => kernel_rfl) ?_
        simp only [fillG]
        clear r0 r1 r2 r3 r4 r5 f0 f1 f2 f3 f4 f5 hHeld HX HLd HNw HN9 HV
        generalize (((((W5.setCell ⟨b9, 0, none⟩ (.slice Aq nq cq)).setCell ⟨b9, 1, none⟩ (.int .u64 mask)).setCell ⟨b9, 2, none⟩ (.int .i64 ef)).setCell ⟨b9, 3, none⟩ (.slice Ak1 nk1 ck1)).setCell ⟨b9, 4, none⟩ (.slice Aw1 nw1 cw1)).setCell ⟨b9, 5, none⟩ (.slice Ab1 nb1 cb1) = W9 at *
        obtain ⟨r0, r1, r2, r3, r4, r5⟩ := H9.out.2.1.six
        obtain ⟨p0, p1, p2, p3, p4, p5⟩ := H9.out.1.p.six
        have f0 := H9.out.1.p.frozen 0
        have f1 := H9.out.1.p.frozen 1
        have f2 := H9.out.1.p.frozen 2
        have f3 := H9.out.1.p.frozen 3
        have f4 := H9.out.1.p.frozen 4
        have f5 := H9.out.1.p.frozen 5
        have HPu := hide (show OffL (Z0 w R) w bp bg br #[.slice N nn cN, .int .i64 en, .int .i64 top] Aq nq cq mask ef qs (some al) l (offL ns qs mask (mostB ef) s (l.take (k + 1))) ((((((W9.setCell ⟨bp, 0, none⟩ (.slice Aq nq cq)).setCell ⟨bp, 1, none⟩ (.int .u64 mask)).setCell ⟨bp, 2, none⟩ (.int .i64 ef)).setCell ⟨bp, 3, none⟩ (.slice Ak1 nk1 ck1)).setCell ⟨bp, 4, none⟩ (.slice Aw1 nw1 cw1)).setCell ⟨bp, 5, none⟩ (.slice Ab1 nb1 cb1)) from by
          rw [HSn2.out]
          exact ⟨⟨_, _, _, _, _, _, _, _, _, H9.out.1.put H9.out.2.2.1⟩, (H9.out.2.2.2.keepBlocks fun d hd => six_far hd.2.1).more fun d hd => hd.step (by simp)⟩)
        clear H9
        go_wp2
        go_roundw
        case rel => exact ⟨k + 1, by omega, by go_num, HPu⟩
        case measure => simp [intOf]; omega
    · obtain rfl : nl = k := by omega
      rw [List.take_of_length_le (by rw [HNl.out]; exact Nat.le_refl _)] at HB1
      obtain ⟨p0, p1, p2, p3, p4, p5⟩ := HB1.out.p.six
      obtain ⟨r0, r1, r2, r3, r4, r5⟩ := HB1.out.r.six
      have f0 := HB1.out.r.frozen 0
      have f1 := HB1.out.r.frozen 1
      have f2 := HB1.out.r.frozen 2
      have f3 := HB1.out.r.frozen 3
      have f4 := HB1.out.r.frozen 4
      have f5 := HB1.out.r.frozen 5
      have HRs := hide HB1.out.res
      clear HB1 HL1
      go_wp2
      obtain ⟨hb, hk3, hn3⟩ := HRs.out
      obtain ⟨q0, q1, q2, q3, q4, q5⟩ := hk3.six
      refine bodyPost_ret (v := .agg #[.slice Aq nq cq, .int .u64 mask, .int .i64 ef, .slice Ak nk ck, .slice Aw nw cw, .slice Ab nb cb]) (by simp [results, Tryz.results38, go_sem, q0, q1, q2, q3, q4, q5]) rfl ?_
      exact ⟨_, rfl, Ak, nk, ck, Aw, nw, cw, Ab, nb, cb, rfl, hn3.k, hn3.w, hn3.b, hn3.rk.more fun d hd => hd.grow, hn3.rw_.more fun d hd => hd.grow, hn3.rb.more fun d hd => hd.grow, hb⟩
end
end Go.Proofs.YtphbdffgeeicaabGreat

/-
  The document's beam: look. Conditions: the slices read as lists.
-/
namespace Go.Proofs.YtphbdffgeeicaabGreat
set_option linter.unusedSimpArgs false
set_option linter.unusedVariables false
open Go.RowKit

section
variable {Z : Nat → Prop} {w W W' : World} {bp bg br : Nat} {cs : Array Value} {Aq Ak Aw Ab : Option Addr} {nq cq nk ck nw cw nb cb : Nat} {mask ef : Int} {qs : List Int} {s : PrS} {Ak1 Aw1 Ab1 Al N : Option Addr} {nk1 ck1 nw1 cw1 nb1 cb1 nl cl nn cN : Nat} {s1 : PrS} {l : List Int} {ns : List NodeP} {en top : Int}
theorem grow_FrO (h : RpB Z w bp bg br cs Aq nq cq mask ef qs Ak nk ck Aw nw cw Ab nb cb s W) (hZ : ∀ d, Z d → d < W.heap.size) (hb : W.heap.size ≤ W'.heap.size) {d : Nat} (hd : Grow (FrO Z bp br W) W W' d) : FrO Z bp br W' d :=
  hd.elim (fun e => e.step hb) fun e => ⟨e.2, by have := h.p.lt; have := e.1; omega, by have := h.r.lt; have := e.1; omega, fun hz => by have := hZ d hz; have := e.1; omega⟩
theorem low_FrO (h : RpB Z w bp bg br cs Aq nq cq mask ef qs Ak nk ck Aw nw cw Ab nb cb s W) (hZ0 : ∀ d, d < w.heap.size → ¬ Z d) {d : Nat} (hd : d < w.heap.size) : FrO Z bp br W d :=
  ⟨Nat.lt_of_lt_of_le hd h.bel.size, by have := h.hp; omega, by have := h.hr; omega, hZ0 d hd⟩
/-- a list of slots is offered to a P that lies somewhere -/
theorem RpB.offers (h : RpB Z w bp bg br cs Aq nq cq mask ef qs Ak nk ck Aw nw cw Ab nb cb s W) (hn : RpN Z bp br Ak1 nk1 ck1 Aw1 nw1 cw1 Ab1 nb1 cb1 s1 W) (hZ : ∀ d, Z d → d < W.heap.size) (hZ0 : ∀ d, d < w.heap.size → ¬ Z d) (hpl : PlW w N nn ns Aq nq cq qs) (hmk : 0 ≤ mask ∧ mask ≤ 18446744073709551615) (hi : ∃ dn, BmI ns qs mask (mostB ef) s1 dn) (hl : RdR (Sh.int .i64) W (FrO Z bp br W) Al l) (hnl : l.length = nl) (hl6 : nl ≤ 1000) :
    Calls Tryz.prog 38 #[.agg #[.slice Aq nq cq, .int .u64 mask, .int .i64 ef, .slice Ak1 nk1 ck1, .slice Aw1 nw1 cw1, .slice Ab1 nb1 cb1], .agg #[.slice N nn cN, .int .i64 en, .int .i64 top], .slice Al nl cl] W fun e w' => ∃ Ak2 nk2 ck2 Aw2 nw2 cw2 Ab2 nb2 cb2, e = .returned (.agg #[.slice Aq nq cq, .int .u64 mask, .int .i64 ef, .slice Ak2 nk2 ck2, .slice Aw2 nw2 cw2, .slice Ab2 nb2 cb2]) ∧ RpN Z bp br Ak2 nk2 ck2 Aw2 nw2 cw2 Ab2 nb2 cb2 (offL ns qs mask (mostB ef) s1 l) w' ∧ Below W.heap.size W w' := by
  refine (rfOffer15_any (R := FrO Z bp br W) (fun d hd => hd.1) (hpl.at_ h.bel) ((RdR.keepBlocks hpl.nd fun d hd => h.bel.block d hd).more fun d hd => low_FrO h hZ0 hd) h.q hmk hi hn.k hn.w hn.b hn.rk hn.rw_ hn.rb hl hnl hl6).mono ?_
  rintro e w' ⟨v, rfl, Ak2, nk2, ck2, Aw2, nw2, cw2, Ab2, nb2, cb2, rfl, h1, h2, h3, h4, h5, h6, hb⟩
  exact ⟨Ak2, nk2, ck2, Aw2, nw2, cw2, Ab2, nb2, cb2, rfl, ⟨h1, h2, h3, h4.more fun d hd => grow_FrO h hZ hb.size hd, h5.more fun d hd => grow_FrO h hZ hb.size hd, h6.more fun d hd => grow_FrO h hZ hb.size hd⟩, hb⟩
/-- what a P wants -/
theorem RpB.want (h : RpB Z w bp bg br cs Aq nq cq mask ef qs Ak nk ck Aw nw cw Ab nb cb s W) (hZ : ∀ d, Z d → d < W.heap.size) :
    Calls Tryz.prog 39 #[.agg #[.slice Aq nq cq, .int .u64 mask, .int .i64 ef, .slice Ak nk ck, .slice Aw nw cw, .slice Ab nb cb]] W fun e w' => ∃ (b : Bool) (z : Int) (A1 : Option Addr) (n1 c1 : Nat), e = .returned (.tuple #[.agg #[.slice Aq nq cq, .int .u64 mask, .int .i64 ef, .slice Ak nk ck, .slice A1 n1 c1, .slice Ab nb cb], .int .i64 z, .bool b]) ∧ doneR (mostB ef) s.2.1 s.2.2 = !b ∧ (b = true → z = (fstS s.2.1).2 ∧ RpN Z bp br Ak nk ck A1 n1 c1 Ab nb cb (s.1, s.2.1.drop 1, s.2.2) w') ∧ Below W.heap.size W w' := by
  refine (refWantP_any (R := FrO Z bp br W) (fun d hd => hd.1) Aq nq cq mask ef Ak nk ck Aw nw cw s.2.1 Ab nb cb s.2.2 h.n.rw_ h.n.w.1 h.n.w.2.1 h.n.w.2.2 h.n.rb h.n.b.1 h.n.b.2.1 h.n.b.2.2).mono ?_
  rintro e w' ⟨hb, ⟨hd, rfl⟩ | ⟨hd, A', c', rfl, h1, h2, h3⟩⟩
  · exact ⟨false, 0, Aw, nw, cw, rfl, by rw [hd]; rfl, (fun e => by cases e), hb⟩
  · have h0 := h.n.step hb
    exact ⟨true, _, A', nw - 1, c', rfl, by rw [hd]; rfl, fun _ => ⟨rfl, h0.k, ⟨by rw [List.length_drop, h.n.w.1], h1, h2⟩, h0.b, h0.rk, h3.more fun d hd => grow_FrO h hZ hb.size hd, h0.rb⟩, hb⟩
end
/-- a P in its variable, whatever it is -/
def PvE (Z : Nat → Prop) (w : World) (bp bg br : Nat) (cs : Array Value) (Aq : Option Addr) (nq cq : Nat) (mask ef : Int) (qs : List Int) (s : PrS) (W : World) : Prop := ∃ (Ak : Option Addr) (nk ck : Nat) (Aw : Option Addr) (nw cw : Nat) (Ab : Option Addr) (nb cb : Nat), RpB Z w bp bg br cs Aq nq cq mask ef qs Ak nk ck Aw nw cw Ab nb cb s W
section
variable {w W : World} {N Aq Al Ak Aw Ab : Option Addr} {nn cN nq cq nl cl nk ck nw cw nb cb : Nat} {ns : List NodeP} {en top mask ef level : Int} {qs l : List Int} {s : PrS}
set_option maxHeartbeats 16000000 in
set_option maxRecDepth 100000 in
theorem rfLook15_any (h : PlW w N nn ns Aq nq cq qs) (hmk : 0 ≤ mask ∧ mask ≤ 18446744073709551615) (hl : Rd (Sh.int .i64) w w.heap.size Al l) (hnl : l.length = nl) (hl6 : nl ≤ 1000) :
    Calls Tryz.prog 22 #[.agg #[.slice Aq nq cq, .int .u64 mask, .int .i64 ef, .slice none 0 0, .slice none 0 0, .slice none 0 0], .agg #[.slice N nn cN, .int .i64 en, .int .i64 top], .slice Al nl cl, .int .i64 level] w fun e w' => ∃ v t c, e = .returned (.tuple #[v, .int .i64 ((c : Nat) : Int)]) ∧ LookR ns qs mask (mostB ef) level (offL ns qs mask (mostB ef) noS l) t c ∧ PIs w (fun d => d < w.heap.size) Aq nq cq mask ef t v w' := by
  have HPl := hide h
  have HMk := hide hmk
  have HNl := hide hnl
  have h20 := h.n20
  have H0 := hide (show RpB (Z0 w fun d => d < w.heap.size) w w.heap.size (w.heap.size + 1) (w.heap.size + 1 + 1) #[.slice N nn cN, .int .i64 en, .int .i64 top] Aq nq cq mask ef qs none 0 0 none 0 0 none 0 0 noS (((w.alloc (.cells #[.slice Aq nq cq, .int .u64 mask, .int .i64 ef, .slice none 0 0, .slice none 0 0, .slice none 0 0] 61)).alloc (.cells #[.slice N nn cN, .int .i64 en, .int .i64 top] 24)).alloc (.cells #[.slice none 0 0, .int .u64 0, .int .i64 0, .slice none 0 0, .slice none 0 0, .slice none 0 0] 61)) from RpB.start (fun d hd => hd) h.q ⟨rfl, by omega, by omega⟩ ⟨rfl, by omega, by omega⟩ ⟨rfl, by omega, by omega⟩ RdR.nil RdR.nil RdR.nil)
  have HL0 := hide (show RdR (Sh.int .i64) (((w.alloc (.cells #[.slice Aq nq cq, .int .u64 mask, .int .i64 ef, .slice none 0 0, .slice none 0 0, .slice none 0 0] 61)).alloc (.cells #[.slice N nn cN, .int .i64 en, .int .i64 top] 24)).alloc (.cells #[.slice none 0 0, .int .u64 0, .int .i64 0, .slice none 0 0, .slice none 0 0, .slice none 0 0] 61)) (FrO (Z0 w fun d => d < w.heap.size) w.heap.size (w.heap.size + 1 + 1) (((w.alloc (.cells #[.slice Aq nq cq, .int .u64 mask, .int .i64 ef, .slice none 0 0, .slice none 0 0, .slice none 0 0] 61)).alloc (.cells #[.slice N nn cN, .int .i64 en, .int .i64 top] 24)).alloc (.cells #[.slice none 0 0, .int .u64 0, .int .i64 0, .slice none 0 0, .slice none 0 0, .slice none 0 0] 61))) Al l from start_rd (fun d hd => hd) hl)
  obtain ⟨Z, hZ⟩ : ∃ Z, (Z0 w fun d => d < w.heap.size) = Z := ⟨_, rfl⟩
  have HZ := hide (show (∀ W : World, w.heap.size ≤ W.heap.size → ∀ d, Z d → d < W.heap.size) ∧ ∀ d, d < w.heap.size → ¬ Z d from by
    rw [← hZ]
    exact ⟨fun W hW d hd => Nat.lt_of_lt_of_le hd.1 hW, fun d hd hz => hz.2 hd⟩)
  rw [hZ] at H0 HL0
  clear h hmk hl hnl hZ
  go_enter Tryz.func22, Tryz.ntmps22
  go_upto_region 1 with fail
  generalize World.alloc (World.alloc (World.alloc w _) _) _ = w1 at *
  obtain ⟨br, hbr⟩ : ∃ b, w.heap.size + 1 + 1 = b := ⟨_, rfl⟩
  rw [hbr] at H0 HL0
  rw [hbr]
  clear hbr
  obtain ⟨bg, hbg⟩ : ∃ b, w.heap.size + 1 = b := ⟨_, rfl⟩
  rw [hbg] at H0
  rw [hbg]
  clear hbg
  obtain ⟨bp, hbp⟩ : ∃ b, w.heap.size = b := ⟨_, rfl⟩
  have H1 := hide (show RpB Z w bp bg br #[.slice N nn cN, .int .i64 en, .int .i64 top] Aq nq cq mask ef qs none 0 0 none 0 0 none 0 0 noS w1 from hbp ▸ H0.out)
  have HL1 := hide (show RdR (Sh.int .i64) w1 (FrO Z bp br w1) Al l from hbp ▸ HL0.out)
  rw [hbp]
  clear hbp H0 HL0
  obtain ⟨p0, p1, p2, p3, p4, p5⟩ := H1.out.p.six
  obtain ⟨g0, g1, g2⟩ := H1.out.g.tri
  have f0 := H1.out.p.frozen 0
  have f1 := H1.out.p.frozen 1
  have f2 := H1.out.p.frozen 2
  have f3 := H1.out.p.frozen 3
  have f4 := H1.out.p.frozen 4
  have f5 := H1.out.p.frozen 5
  go_upto_region 2 with (go_at_call 38; refine (RpB.offers (cl := cl) H1.out H1.out.n (HZ.out.1 _ H1.out.bel.size) HZ.out.2 HPl.out HMk.out ⟨[], BmI.nil⟩ HL1.out HNl.out hl6).mono ?_; rintro e w2 ⟨Ak2, nk2, ck2, Aw2, nw2, cw2, Ab2, nb2, cb2, rfl, hn2, hb2⟩; have H2 := hide ((H1.out.step hb2).put hn2); have hp2 := (H1.out.step hb2).p; obtain ⟨a0, a1, a2, a3, a4, a5⟩ := hp2.six; have e0 := hp2.frozen 0; have e1 := hp2.frozen 1; have e2 := hp2.frozen 2; have e3 := hp2.frozen 3; have e4 := hp2.frozen 4; have e5 := hp2.frozen 5; clear hn2 hb2 hp2)
  clear p0 p1 p2 p3 p4 p5 g0 g1 g2 f0 f1 f2 f3 f4 f5 a0 a1 a2 a3 a4 a5 e0 e1 e2 e3 e4 e5 H1 HL1
  generalize (((((w2.setCell ⟨bp, 0, none⟩ (.slice Aq nq cq)).setCell ⟨bp, 1, none⟩ (.int .u64 mask)).setCell ⟨bp, 2, none⟩ (.int .i64 ef)).setCell ⟨bp, 3, none⟩ (.slice Ak2 nk2 ck2)).setCell ⟨bp, 4, none⟩ (.slice Aw2 nw2 cw2)).setCell ⟨bp, 5, none⟩ (.slice Ab2 nb2 cb2) = w3 at *
  have HP0 := hide (show PvE Z w bp bg br #[.slice N nn cN, .int .i64 en, .int .i64 top] Aq nq cq mask ef qs (offL ns qs mask (mostB ef) noS l) w3 from ⟨_, _, _, _, _, _, _, _, _, H2.out⟩)
  have HI0 := hide (show BmI ns qs mask (mostB ef) (offL ns qs mask (mostB ef) noS l) [] from BmI.nil.offs l)
  clear H2
  obtain ⟨s0, hs0⟩ : ∃ x, offL ns qs mask (mostB ef) noS l = x := ⟨_, rfl⟩
  have HS0 := hide hs0
  rw [hs0] at HP0 HI0
  clear hs0
  go_wp2
  go_loopg [10] (lookM ns s0) (fun gk i wr => ∃ (c : Nat) (st : PrS), i = .int .i64 c ∧ gk = lookM ns st ∧ Hid (∃ dn, BmI ns qs mask (mostB ef) st dn ∧ dn.length = c) ∧ Hid (∀ t k, LookR ns qs mask (mostB ef) level st t k → LookR ns qs mask (mostB ef) level s0 t (k + c)) ∧ Hid (PvE Z w bp bg br #[.slice N nn cN, .int .i64 en, .int .i64 top] Aq nq cq mask ef qs st wr))
  case atStart => exact ⟨0, s0, rfl, rfl, hide ⟨[], HI0.out, rfl⟩, hide (fun t k h => h), HP0⟩
  case round =>
    obtain ⟨c, st, rfl, rfl, HI, HLk, HP⟩ := hrel
    clear HP0 HI0
    obtain ⟨Ak, nk, ck, Aw, nw, cw, Ab, nb, cb, hB⟩ := HP.out
    have HB := hide hB
    clear hB HP
    have hc20 : c ≤ 20 := by obtain ⟨dn, h1, h2⟩ := HI.out; have h3 := h1.pm.length_eq; have := h1.small; rw [List.length_append] at h3; have := HPl.out.len; omega
    obtain ⟨p0, p1, p2, p3, p4, p5⟩ := HB.out.p.six
    go_upto_region 5 with (go_at_call 39; refine (HB.out.want (HZ.out.1 _ HB.out.bel.size)).mono ?_; rintro e w5 ⟨b, z, A1, n1, c1, rfl, hd, hz, hb5⟩; have HD := hide hd; have HW := hide hz; have HB5 := hide (HB.out.step hb5); clear hd hz hb5)
    have HB6 := hide (HB5.out.step (below1 w5 (.cells #[.slice Aq nq cq, .int .u64 mask, .int .i64 ef, .slice Ak nk ck, .slice A1 n1 c1, .slice Ab nb cb] 61)))
    have HN6 := hide (Blk.new w5 61 #[.slice Aq nq cq, .int .u64 mask, .int .i64 ef, .slice Ak nk ck, .slice A1 n1 c1, .slice Ab nb cb])
    have HAl := hide (below1 w5 (.cells #[.slice Aq nq cq, .int .u64 mask, .int .i64 ef, .slice Ak nk ck, .slice A1 n1 c1, .slice Ab nb cb] 61))
    have HLt := hide (And.intro HB5.out.p.lt HB5.out.bel.size)
    clear p0 p1 p2 p3 p4 p5 HB HB5
    rcases b with _ | _
    · have HFin := hide (HLk.out st 0 (LookR.stop st HD.out))
      clear HN6 HAl HLt HW
      generalize World.alloc w5 _ = w6 at *
      generalize w5.heap.size = b11 at *
      obtain ⟨p0, p1, p2, p3, p4, p5⟩ := HB6.out.p.six
      obtain ⟨r0, r1, r2, r3, r4, r5⟩ := HB6.out.r.six
      have f0 := HB6.out.r.frozen 0
      have f1 := HB6.out.r.frozen 1
      have f2 := HB6.out.r.frozen 2
      have f3 := HB6.out.r.frozen 3
      have f4 := HB6.out.r.frozen 4
      have f5 := HB6.out.r.frozen 5
      have HRs := hide HB6.out.res
      have HZl := hide (HZ.out.1)
      clear HB6
      go_wp2
      obtain ⟨hb, hk3, hn3⟩ := HRs.out
      obtain ⟨q0, q1, q2, q3, q4, q5⟩ := hk3.six
      refine bodyPost_ret (v := .tuple #[.agg #[.slice Aq nq cq, .int .u64 mask, .int .i64 ef, .slice Ak nk ck, .slice Aw nw cw, .slice Ab nb cb], .int .i64 (c : Int)]) (by simp [results, Tryz.results22, go_sem, q0, q1, q2, q3, q4, q5]) rfl ?_
      refine ⟨_, st, c, rfl, by have h := HFin.out; rw [Nat.zero_add] at h; rw [HS0.out]; exact h, Ak, nk, ck, Aw, nw, cw, Ab, nb, cb, rfl, hn3.k, hn3.w, hn3.b, ?_, ?_, ?_, hb⟩
      · exact hn3.rk.more fun d hd => by by_cases e : d < w.heap.size; exact .inl e; exact .inr ⟨by omega, hd.1⟩
      · exact hn3.rw_.more fun d hd => by by_cases e : d < w.heap.size; exact .inl e; exact .inr ⟨by omega, hd.1⟩
      · exact hn3.rb.more fun d hd => by by_cases e : d < w.heap.size; exact .inl e; exact .inr ⟨by omega, hd.1⟩
    · obtain ⟨hz, hnq⟩ := HW.out rfl
      subst hz
      have HQ := hide (hnq.step HAl.out)
      clear hnq HW HAl
      generalize World.alloc w5 _ = w6 at *
      obtain ⟨b11, hb11⟩ : ∃ b, w5.heap.size = b := ⟨_, rfl⟩
      rw [hb11] at HN6 HLt
      rw [hb11]
      clear hb11
      obtain ⟨zs, hzs⟩ : ∃ y, (fstS st.2.1).2 = y := ⟨_, rfl⟩
      have HZs := hide hzs
      rw [hzs]
      clear hzs
      go_upto_region 7 with fail
      have HX := hide (HB6.out.step (Below.refl _ _).drew)
      have HN := hide (HN6.out.drew)
      replace HQ := hide (HQ.out.step (Below.refl _ _).drew)
      clear HB6 HN6
      refine startO (S := (fun W => (∃ st, PvE Z w bp bg br #[.slice N nn cN, .int .i64 en, .int .i64 top] Aq nq cq mask ef qs st W) ∧ Blk W b11 61 #[.slice Aq nq cq, .int .u64 mask, .int .i64 ef, .slice Ak nk ck, .slice A1 n1 c1, .slice Ab nb cb])) 8 (by as_aux_lemma => kernel_rfl) (by as_aux_lemma => kernel_rfl) ⟨⟨st, _, _, _, _, _, _, _, _, _, HX.out⟩, HN.out⟩ (fun hHeld => ?_)
      generalize World.drew _ = W0 at *
      refine putsO [3, 4] [4, 3] [(34, .int .i64 level), (33, .int .i64 zs)] 2 rfl [33, 34] (by as_aux_lemma => kernel_rfl) (by as_aux_lemma => kernel_rfl) rfl (fun _ _ _ _ _ h => h) hHeld ?_
      refine takeO 0 30 (.load 61 (.const (.pointer (some ⟨b11, 0, none⟩)))) 61 (.agg #[.slice Aq nq cq, .int .u64 mask, .int .i64 ef, .slice Ak nk ck, .slice A1 n1 c1, .slice Ab nb cb]) (by as_aux_lemma => kernel_rfl) (by as_aux_lemma => kernel_rfl) (by as_aux_lemma => kernel_rfl) (fun _ _ _ _ _ h => h) (fun W hS => by obtain ⟨z0, z1, z2, z3, z4, z5⟩ := hS.2.six; clear hS hHeld; unfold cEv opC; as_aux_lemma => first | (go_simp; done) | (go_simp <;> rfl)) hHeld ?_
      refine takeO 1 31 (.load 24 (.const (.pointer (some ⟨bg, 0, none⟩)))) 24 (.agg #[.slice N nn cN, .int .i64 en, .int .i64 top]) (by as_aux_lemma => kernel_rfl) (by as_aux_lemma => kernel_rfl) (by as_aux_lemma => kernel_rfl) (fun _ _ _ _ _ h => h) (fun W hS => by obtain ⟨_, _, _, _, _, _, _, _, _, _, h⟩ := hS.1; obtain ⟨z0, z1, z2⟩ := h.g.tri; clear h; clear hS hHeld; unfold cEv opC; as_aux_lemma => first | (go_simp; done) | (go_simp <;> rfl)) hHeld ?_
      refine takeO 2 32 (.load 24 (.const (.pointer (some ⟨bg, 0, none⟩)))) 24 (.agg #[.slice N nn cN, .int .i64 en, .int .i64 top]) (by as_aux_lemma => kernel_rfl) (by as_aux_lemma => kernel_rfl) (by as_aux_lemma => kernel_rfl) (fun _ _ _ _ _ h => h) (fun W hS => by obtain ⟨_, _, _, _, _, _, _, _, _, _, h⟩ := hS.1; obtain ⟨z0, z1, z2⟩ := h.g.tri; clear h; clear hS hHeld; unfold cEv opC; as_aux_lemma => first | (go_simp; done) | (go_simp <;> rfl)) hHeld ?_
      refine readyO [5] (by as_aux_lemma => kernel_rfl) (by simp) ?_
      refine callO 5 35 (.call { callee := .value (.func 40), args := #[.const (.agg #[.slice N nn cN, .int .i64 en, .int .i64 top]), .const (.int .i64 zs), .const (.int .i64 level)], argTypes := #[24, 3, 3] }) 27 40 #[.agg #[.slice N nn cN, .int .i64 en, .int .i64 top], .int .i64 zs, .int .i64 level] (by as_aux_lemma => kernel_rfl) (by as_aux_lemma => kernel_rfl) (by unfold cEv opC; go_simp) ?_ AllReadyH.nil
      refine (rfNear_any (cN := cN) (en := en) (top := top) (HPl.out.at_ HX.out.bel).nd HPl.out.len HPl.out.ok HPl.out.sm zs level).mono ?_
      rintro e W6 ⟨A6, n6, c6, rfl, k1, k2, k3, hr6, hb6⟩
      have Hk1 := hide k1
      have HR6 := hide (show RdR (Sh.int .i64) W6 (FrO Z bp br W6) A6 (nearF ns zs level) from hr6.more fun d hd => ⟨hd.2, by have := HX.out.p.lt; have := hd.1; omega, by have := HX.out.r.lt; have := hd.1; omega, fun hz => by have := HZ.out.1 _ HX.out.bel.size d hz; have := hd.1; omega⟩)
      replace HX := hide (HX.out.step hb6)
      replace HQ := hide (HQ.out.step hb6)
      replace HN := hide (HN.out.below hb6 HN.out.lt)
      clear k1 hr6 hb6
      refine ⟨_, rfl, ⟨⟨st, _, _, _, _, _, _, _, _, _, HX.out⟩, HN.out⟩, fun hHeld2 => ?_⟩
      clear hHeld
      have hHeld := hHeld2
      clear hHeld2
      refine readyO [6] (by as_aux_lemma => kernel_rfl) (by simp) ?_
      refine callO 6 36 (.call { callee := .value (.func 38), args := #[.const (.agg #[.slice Aq nq cq, .int .u64 mask, .int .i64 ef, .slice Ak nk ck, .slice A1 n1 c1, .slice Ab nb cb]), .const (.agg #[.slice N nn cN, .int .i64 en, .int .i64 top]), .const (.slice A6 n6 c6)], argTypes := #[61, 24, 27] }) 61 38 #[.agg #[.slice Aq nq cq, .int .u64 mask, .int .i64 ef, .slice Ak nk ck, .slice A1 n1 c1, .slice Ab nb cb], .agg #[.slice N nn cN, .int .i64 en, .int .i64 top], .slice A6 n6 c6] (by as_aux_lemma => kernel_rfl) (by as_aux_lemma => kernel_rfl) (by unfold cEv opC; go_simp) ?_ AllReadyH.nil
      refine (RpB.offers (cl := c6) HX.out HQ.out (HZ.out.1 _ HX.out.bel.size) HZ.out.2 HPl.out HMk.out (by obtain ⟨dn, h1, _⟩ := HI.out; exact ⟨_, h1.pop (not_done_len HD.out)⟩) HR6.out Hk1.out (by have := Hk1.out; have := near_len ns zs level; have := HPl.out.len; omega)).mono ?_
      rintro e W7 ⟨Ak2, nk2, ck2, Aw2, nw2, cw2, Ab2, nb2, cb2, rfl, hn7, hb7⟩
      have HNw := hide hn7
      replace HX := hide (HX.out.step hb7)
      replace HN := hide (HN.out.below hb7 HN.out.lt)
      clear hn7 hb7
      refine ⟨_, rfl, ⟨⟨st, _, _, _, _, _, _, _, _, _, HX.out⟩, HN.out⟩, fun hHeld2 => ?_⟩
      clear hHeld
      have hHeld := hHeld2
      clear hHeld2
      refine readyO [7] (by as_aux_lemma => kernel_rfl) (by simp) ?_
      have H9 := hide (show PvE Z w bp bg br #[.slice N nn cN, .int .i64 en, .int .i64 top] Aq nq cq mask ef qs (offL ns qs mask (mostB ef) (st.1, st.2.1.drop 1, st.2.2) (nearF ns zs level)) ((((((W7.setCell ⟨bp, 0, none⟩ (.slice Aq nq cq)).setCell ⟨bp, 1, none⟩ (.int .u64 mask)).setCell ⟨bp, 2, none⟩ (.int .i64 ef)).setCell ⟨bp, 3, none⟩ (.slice Ak2 nk2 ck2)).setCell ⟨bp, 4, none⟩ (.slice Aw2 nw2 cw2)).setCell ⟨bp, 5, none⟩ (.slice Ab2 nb2 cb2)) ∧ Blk ((((((W7.setCell ⟨bp, 0, none⟩ (.slice Aq nq cq)).setCell ⟨bp, 1, none⟩ (.int .u64 mask)).setCell ⟨bp, 2, none⟩ (.int .i64 ef)).setCell ⟨bp, 3, none⟩ (.slice Ak2 nk2 ck2)).setCell ⟨bp, 4, none⟩ (.slice Aw2 nw2 cw2)).setCell ⟨bp, 5, none⟩ (.slice Ab2 nb2 cb2)) b11 61 #[.slice Aq nq cq, .int .u64 mask, .int .i64 ef, .slice Ak nk ck, .slice A1 n1 c1, .slice Ab nb cb] from ⟨⟨_, _, _, _, _, _, _, _, _, HX.out.put HNw.out⟩, (six_far (by have := HLt.out.1; omega)).trans HN.out⟩)
      obtain ⟨r0, r1, r2, r3, r4, r5⟩ := HX.out.p.six
      have f0 := HX.out.p.frozen 0
      have f1 := HX.out.p.frozen 1
      have f2 := HX.out.p.frozen 2
      have f3 := HX.out.p.frozen 3
      have f4 := HX.out.p.frozen 4
      have f5 := HX.out.p.frozen 5
      refine storeO 7 (.store 61 (.const (.pointer (some ⟨bp, 0, none⟩))) (.const (.agg #[.slice Aq nq cq, .int .u64 mask, .int .i64 ef, .slice Ak2 nk2 ck2, .slice Aw2 nw2 cw2, .slice Ab2 nb2 cb2]))) 0 ((((((W7.setCell ⟨bp, 0, none⟩ (.slice Aq nq cq)).setCell ⟨bp, 1, none⟩ (.int .u64 mask)).setCell ⟨bp, 2, none⟩ (.int .i64 ef)).setCell ⟨bp, 3, none⟩ (.slice Ak2 nk2 ck2)).setCell ⟨bp, 4, none⟩ (.slice Aw2 nw2 cw2)).setCell ⟨bp, 5, none⟩ (.slice Ab2 nb2 cb2)) (by as_aux_lemma => kernel_rfl) (by as_aux_lemma => kernel_rfl) (by unfold cEv opC; go_simp) ⟨⟨_, H9.out.1⟩, H9.out.2⟩ (fun hHeld2 => ?_) AllReadyH.nil
      clear hHeld
      have hHeld := hHeld2
      clear hHeld2
      refine doneO [(30, .agg #[.slice Aq nq cq, .int .u64 mask, .int .i64 ef, .slice Ak nk ck, .slice A1 n1 c1, .slice Ab nb cb]), (0, .agg #[.slice N nn cN, .int .i64 en, .int .i64 top]), (0, .agg #[.slice N nn cN, .int .i64 en, .int .i64 top]), (0, .int .i64 zs), (0, .int .i64 level), (0, .slice A6 n6 c6), (0, .agg #[.slice Aq nq cq, .int .u64 mask, .int .i64 ef, .slice Ak2 nk2 ck2, .slice Aw2 nw2 cw2, .slice Ab2 nb2 cb2])] (by as_aux_lemma => kernel_rfl) (by as_aux_lemma => kernel_rfl) ?_
      simp only [fillG]
      clear r0 r1 r2 r3 r4 r5 f0 f1 f2 f3 f4 f5 hHeld HX HN HQ HNw HR6
      generalize (((((W7.setCell ⟨bp, 0, none⟩ (.slice Aq nq cq)).setCell ⟨bp, 1, none⟩ (.int .u64 mask)).setCell ⟨bp, 2, none⟩ (.int .i64 ef)).setCell ⟨bp, 3, none⟩ (.slice Ak2 nk2 ck2)).setCell ⟨bp, 4, none⟩ (.slice Aw2 nw2 cw2)).setCell ⟨bp, 5, none⟩ (.slice Ab2 nb2 cb2) = W9 at *
      have HLs := hide (show lookM ns (offL ns qs mask (mostB ef) (st.1, st.2.1.drop 1, st.2.2) (nearF ns zs level)) < lookM ns st from look_less HD.out _)
      have HI7 := hide (show ∃ dn, BmI ns qs mask (mostB ef) (offL ns qs mask (mostB ef) (st.1, st.2.1.drop 1, st.2.2) (nearF ns zs level)) dn ∧ dn.length = c + 1 from by
        obtain ⟨dn, h1, h2⟩ := HI.out
        exact ⟨_, (h1.pop (not_done_len HD.out)).offs _, by rw [List.length_append, h2]; rfl⟩)
      have HL7 := hide (show ∀ t k, LookR ns qs mask (mostB ef) level (offL ns qs mask (mostB ef) (st.1, st.2.1.drop 1, st.2.2) (nearF ns zs level)) t k → LookR ns qs mask (mostB ef) level s0 t (k + (c + 1)) from fun t k h => by
        have h2 := HLk.out t (k + 1) (LookR.more st t k HD.out (by rw [HZs.out]; exact h))
        rwa [show k + (c + 1) = k + 1 + c by omega])
      obtain ⟨s7, hs7⟩ : ∃ x, offL ns qs mask (mostB ef) (st.1, st.2.1.drop 1, st.2.2) (nearF ns zs level) = x := ⟨_, rfl⟩
      rw [hs7] at HLs HI7 HL7 H9
      clear hs7
      have hw1 : IntKind.i64.wrap ((c : Int) + 1) = (c : Int) + 1 := IntWalk.i64_in _ (by omega)
      go_wp2
      go_roundg (lookM ns s7)
      case rel => exact ⟨c + 1, s7, by go_num, rfl, HI7, HL7, hide H9.out.1⟩
      case measure => exact HLs.out
end
end Go.Proofs.YtphbdffgeeicaabGreat

/-
  The document's beam: Around, starts, Find, Cost, Search. Conditions: the slices read as lists.
-/
namespace Go.Proofs.YtphbdffgeeicaabGreat
set_option linter.unusedSimpArgs false
set_option linter.unusedVariables false
open Go.RowKit

/-- what a search gives: the best of a look from slots st -/
def GivesA (ns : List NodeP) (qs : List Int) (mask ef level : Int) (w : World) (st : List Int → Prop) (e : Ending) (w' : World) : Prop :=
  ∃ (l : List Int) (t : PrS) (k : Nat) (A : Option Addr) (n c : Nat), e = .returned (.slice A n c) ∧ st l ∧ LookR ns qs mask (mostB ef) level (offL ns qs mask (mostB ef) noS l) t k ∧ t.2.2.length = n ∧ n ≤ c ∧ c ≤ 9223372036854775807 ∧ Rd SP w' w'.heap.size A t.2.2 ∧ Below w.heap.size w w'
/-- where a search begins -/
def GivesS0 (ns : List NodeP) (qs : List Int) (en top : Int) (w : World) (e : Ending) (w' : World) : Prop :=
  ∃ (l : List Int) (A : Option Addr) (n c : Nat), e = .returned (.slice A n c) ∧ StartR ns qs en top l ∧ l.length = n ∧ n ≤ 21 ∧ n ≤ c ∧ c ≤ 9223372036854775807 ∧ Rd (Sh.int .i64) w' w'.heap.size A l ∧ Below w.heap.size w w'
section
variable {w W : World} {N Aq Al : Option Addr} {nn cN nq cq nl cl : Nat} {ns : List NodeP} {en top mask ef level : Int} {qs l : List Int}
set_option maxHeartbeats 8000000 in
theorem rfAround15_any (h : PlW w N nn ns Aq nq cq qs) (hmk : 0 ≤ mask ∧ mask ≤ 18446744073709551615) (hl : Rd (Sh.int .i64) w w.heap.size Al l) (hnl : l.length = nl) (hl6 : nl ≤ 1000) :
    Calls Tryz.prog 8 #[.agg #[.slice N nn cN, .int .i64 en, .int .i64 top], .slice Aq nq cq, .int .u64 mask, .int .i64 ef, .slice Al nl cl, .int .i64 level] w (GivesA ns qs mask ef level w (fun l' => l' = l)) := by
  have HP := hide (PlB.start w #[.slice N nn cN, .int .i64 en, .int .i64 top])
  have CL := hide (fun (W : World) (hb : Below w.heap.size w W) => rfLook15_any (cN := cN) (en := en) (top := top) (cl := cl) (ef := ef) (level := level) (h.at_ hb) hmk (hl.at_world hb) hnl hl6)
  clear h hmk hl hnl
  go_enter Tryz.func8, Tryz.ntmps8
  go_upto_region 1 with fail
  generalize World.alloc w _ = w1 at *
  obtain ⟨b6, hb6⟩ : ∃ b, w.heap.size = b := ⟨_, rfl⟩
  rw [hb6] at HP
  rw [hb6]
  clear hb6
  obtain ⟨p0, p1, p2⟩ := HP.out.cells
  go_upto_region 2 with (go_at_call 22; refine (CL.out _ HP.out.bel).mono ?_; rintro e w2 ⟨v, t, c, rfl, hlk, Ak, nk, ck, Aw, nw, cw, Ab, nb, cb, rfl, hk, hw, hb, rk, rw_, rb, hb2⟩; have HLk := hide hlk; have Hb := hide hb; have HR := hide (show Rd SP w2 w2.heap.size Ab t.2.2 from rb.more fun d hd => hd.elim (fun e => Nat.lt_of_lt_of_le e hb2.size) fun e => e.2); have HB2 := hide (Below.step HP.out.bel hb2); clear hlk hk hw hb rk rw_ rb hb2)
  have HN := hide (Blk.new w2 61 #[.slice Aq nq cq, .int .u64 mask, .int .i64 ef, .slice Ak nk ck, .slice Aw nw cw, .slice Ab nb cb])
  have HR3 := hide (HR.out.at_world (below1 w2 (.cells #[.slice Aq nq cq, .int .u64 mask, .int .i64 ef, .slice Ak nk ck, .slice Aw nw cw, .slice Ab nb cb] 61)))
  have HB3 := hide (Below.step HB2.out (below1 w2 (.cells #[.slice Aq nq cq, .int .u64 mask, .int .i64 ef, .slice Ak nk ck, .slice Aw nw cw, .slice Ab nb cb] 61)))
  clear p0 p1 p2 HP CL HR HB2
  generalize World.alloc w2 _ = w3 at *
  obtain ⟨b13, hb13⟩ : ∃ b, w2.heap.size = b := ⟨_, rfl⟩
  rw [hb13] at HN
  rw [hb13]
  clear hb13
  obtain ⟨q0, q1, q2, q3, q4, q5⟩ := HN.out.six
  go_wp2
  go_ret
  exact ⟨l, t, c, Ab, nb, cb, rfl, rfl, HLk.out, Hb.out.1, Hb.out.2.1, Hb.out.2.2, HR3.out, HB3.out⟩
set_option maxHeartbeats 8000000 in
theorem rfStarts15_any (h : PlW w N nn ns Aq nq cq qs) : Calls Tryz.prog 24 #[.agg #[.slice N nn cN, .int .i64 en, .int .i64 top], .slice Aq nq cq] w (GivesS0 ns qs en top w) := by
  have HP := hide (PlB.start w #[.slice N nn cN, .int .i64 en, .int .i64 top])
  have CD := hide (fun (W : World) (hb : Below w.heap.size w W) => rfDown_any (cN := cN) (en := en) (top := top) (h.at_ hb))
  have CN := hide (fun (W : World) (hb : Below w.heap.size w W) => rfNear_any (cN := cN) (en := en) (top := top) (h.at_ hb).nd h.len h.ok h.sm 0 0)
  have h20 : (nearF ns 0 0).length ≤ 20 := by have := near_len ns 0 0; have := h.len; have := h.n20; omega
  clear h
  go_enter Tryz.func24, Tryz.ntmps24
  go_upto_region 1 with fail
  generalize World.alloc w _ = w1 at *
  obtain ⟨b2, hb2⟩ : ∃ b, w.heap.size = b := ⟨_, rfl⟩
  rw [hb2] at HP
  rw [hb2]
  clear hb2
  obtain ⟨p0, p1, p2⟩ := HP.out.cells
  go_upto_region 3 with (go_at_call 42; refine (CD.out _ HP.out.bel).mono ?_; rintro e w2 ⟨d, rfl, hd, hb⟩; have HD := hide hd; have HP2 := hide (HP.out.step hb); clear hd hb)
  clear p0 p1 p2 HP
  obtain ⟨bt, hbt⟩ : ∃ b, thereF ns en = b := ⟨_, rfl⟩
  have Hbt := hide hbt
  rw [hbt]
  clear hbt
  rcases bt with _ | _
  · obtain ⟨p0, p1, p2⟩ := HP2.out.cells
    have HSt := hide (show StartR ns qs en top (nearF ns 0 0) from ⟨d, by rw [if_neg (by rw [Hbt.out]; simp)]⟩)
    go_wp2_with (first
      | (go_at_call 40; refine (CN.out _ HP2.out.bel).mono ?_; rintro e w3 ⟨A3, n3, c3, rfl, k1, k2, k3, hr3, hb3⟩; have HK1 := hide k1; have HR3 := hide (hr3.rd fun d hd => hd.2); have HB3 := hide (Below.step HP2.out.bel hb3); have HO3 := hide (show w3.ownsRow w.heap.size 3 1 (.slice none 0 0) 0 [] from World.ownsRow_nil _ _ _ _); have hn3 : n3 ≤ 20 := (by omega); clear k1 hr3 hb3)
      | (at_builtin; go_loud (refine wpList_append_ints rfl (.tmp 19) (.tmp 21) 27 rfl w.heap.size Tryz.underlying27 info_intE rfl (.slice none 0 0) 0 [] rfl HO3.out _ A3 n3 c3 (nearF ns 0 0) rfl HR3.out HK1.out (by simp only [maxLen]; omega) (by omega) HB3.out.size ?_; intro v9 w9 hown9 hgr9 hat9; obtain ⟨A9, c9, rfl, l1, l2⟩ := own_form hown9; have HF := hide (show GivesS0 ns qs en top w (.returned (.slice A9 n3 c9)) w9 from ⟨nearF ns 0 0, A9, n3, c9, rfl, HSt.out, HK1.out, by omega, by omega, l2, (flatI.own (l := nearF ns 0 0) (show w9.ownsRow w.heap.size 3 1 (.slice A9 n3 c9) n3 (fcs encI (nearF ns 0 0)) by rw [fcsI]; simpa using hown9)).rd fun d hd => hd.2, below_own HB3.out HO3.out HB3.out.size hgr9⟩); clear hown9 hgr9 hat9)))
    go_ret
    exact HF.out
  · have HSt := hide (show StartR ns qs en top (d :: nearF ns 0 0) from ⟨d, by rw [if_pos Hbt.out]; have h := HD.out; rw [if_pos Hbt.out] at h; exact ⟨h, rfl⟩⟩)
    have HO0 := hide (show w2.ownsRow w.heap.size 3 1 (.slice none 0 0) 0 [] from World.ownsRow_nil _ _ _ _)
    go_upto_region 5 with (at_builtin; go_loud (refine wpList_append_elem rfl (.tmp 15) (.tmp 17) 27 rfl w.heap.size Tryz.underlying27 info_intE rfl (by decide) (.slice none 0 0) 0 [] rfl HO0.out _ _ rfl rfl (by simp [Value.oneCell']) (by simp only [maxLen]; omega) (by omega) HP2.out.bel.size ?_; intro v9 w9 hown9 hgr9 hat9; obtain ⟨A9, c9, rfl, l1, l2⟩ := own_form hown9; have HO9 := hide hown9; have HP9 := hide (show PlB w b2 #[.slice N nn cN, .int .i64 en, .int .i64 top] w9 from ⟨below_own HP2.out.bel HO0.out HP2.out.bel.size hgr9, HP2.out.pl.grown hgr9 (by simp [Value.ownBlock])⟩); clear hown9 hgr9 hat9))
    clear HP2 HO0
    obtain ⟨p0, p1, p2⟩ := HP9.out.cells
    go_wp2_with (first
      | (go_at_call 40; refine (CN.out _ HP9.out.bel).mono ?_; rintro e w3 ⟨A3, n3, c3, rfl, k1, k2, k3, hr3, hb3⟩; have HK1 := hide k1; have HR3 := hide (hr3.rd fun d hd => hd.2); have HB3 := hide (Below.step HP9.out.bel hb3); have HO3 := hide (own_keep HO9.out fun g hg => hb3.block g (HO9.out.lt g hg).2); have hn3 : n3 ≤ 20 := (by omega); clear k1 hr3 hb3)
      | (at_builtin; go_loud (refine wpList_append_ints rfl (.tmp 19) (.tmp 21) 27 rfl w.heap.size Tryz.underlying27 info_intE rfl (.slice A9 (0 + 1) c9) (0 + 1) _ rfl HO3.out _ A3 n3 c3 (nearF ns 0 0) rfl HR3.out HK1.out (by simp only [maxLen]; omega) (by omega) HB3.out.size ?_; intro v9 w9 hown9 hgr9 hat9; obtain ⟨A8, c8, rfl, l1, l2⟩ := own_form hown9; have HF := hide (show GivesS0 ns qs en top w (.returned (.slice A8 (0 + 1 + n3) c8)) w9 from ⟨d :: nearF ns 0 0, A8, 0 + 1 + n3, c8, rfl, HSt.out, by rw [List.length_cons, HK1.out]; omega, by omega, by omega, l2, (flatI.own (l := d :: nearF ns 0 0) (show w9.ownsRow w.heap.size 3 1 (.slice A8 (0 + 1 + n3) c8) (0 + 1 + n3) (fcs encI (d :: nearF ns 0 0)) by rw [fcsI]; simpa using hown9)).rd fun d hd => hd.2, below_own HB3.out HO3.out HB3.out.size hgr9⟩); clear hown9 hgr9 hat9)))
    go_ret
    exact HF.out
set_option maxHeartbeats 8000000 in
theorem rfFind15_any (h : PlW w N nn ns Aq nq cq qs) (hmk : 0 ≤ mask ∧ mask ≤ 18446744073709551615) : Calls Tryz.prog 10 #[.agg #[.slice N nn cN, .int .i64 en, .int .i64 top], .slice Aq nq cq, .int .u64 mask, .int .i64 ef] w (GivesA ns qs mask ef 0 w (StartR ns qs en top)) := by
  have HP := hide (PlB.start w #[.slice N nn cN, .int .i64 en, .int .i64 top])
  have CS := hide (fun (W : World) (hb : Below w.heap.size w W) => rfStarts15_any (cN := cN) (en := en) (top := top) (h.at_ hb))
  have HPl := hide h
  have HMk := hide hmk
  clear h hmk
  go_enter Tryz.func10, Tryz.ntmps10
  go_upto_region 1 with fail
  generalize World.alloc w _ = w1 at *
  obtain ⟨b4, hb4⟩ : ∃ b, w.heap.size = b := ⟨_, rfl⟩
  rw [hb4] at HP
  rw [hb4]
  clear hb4
  have HPd := hide (HP.out.step (Below.refl _ _).drew)
  clear HP
  refine startO (S := (PlB w b4 #[.slice N nn cN, .int .i64 en, .int .i64 top])) 9 (by as_aux_lemma => kernel_rfl) (by as_aux_lemma => kernel_rfl) HPd.out (fun hHeld => ?_)
  generalize World.drew _ = W0 at *
  refine putsO [1, 2, 3, 5] [5, 3, 2, 1] [(14, .slice Aq nq cq), (12, .int .i64 ef), (11, .int .u64 mask), (10, .slice Aq nq cq)] 4 rfl [10, 11, 12, 14] (by as_aux_lemma => kernel_rfl) (by as_aux_lemma => kernel_rfl) rfl (fun _ _ _ _ _ h => h) hHeld ?_
  refine takeO 0 9 (.load 24 (.const (.pointer (some ⟨b4, 0, none⟩)))) 24 (.agg #[.slice N nn cN, .int .i64 en, .int .i64 top]) (by as_aux_lemma => kernel_rfl) (by as_aux_lemma => kernel_rfl) (by as_aux_lemma => kernel_rfl) (fun _ _ _ _ _ h => h) (fun W hS => by obtain ⟨z0, z1, z2⟩ := hS.cells; clear hS hHeld; unfold cEv opC; as_aux_lemma => first | (go_simp; done) | (go_simp <;> rfl)) hHeld ?_
  refine takeO 4 13 (.load 24 (.const (.pointer (some ⟨b4, 0, none⟩)))) 24 (.agg #[.slice N nn cN, .int .i64 en, .int .i64 top]) (by as_aux_lemma => kernel_rfl) (by as_aux_lemma => kernel_rfl) (by as_aux_lemma => kernel_rfl) (fun _ _ _ _ _ h => h) (fun W hS => by obtain ⟨z0, z1, z2⟩ := hS.cells; clear hS hHeld; unfold cEv opC; as_aux_lemma => first | (go_simp; done) | (go_simp <;> rfl)) hHeld ?_
  refine readyO [6] (by as_aux_lemma => kernel_rfl) (by simp) ?_
  refine callO 6 15 (.call { callee := .value (.func 24), args := #[.const (.agg #[.slice N nn cN, .int .i64 en, .int .i64 top]), .const (.slice Aq nq cq)], argTypes := #[24, 25] }) 27 24 #[.agg #[.slice N nn cN, .int .i64 en, .int .i64 top], .slice Aq nq cq] (by as_aux_lemma => kernel_rfl) (by as_aux_lemma => kernel_rfl) (by unfold cEv opC; go_simp) ?_ AllReadyH.nil
  refine (CS.out _ HPd.out.bel).mono ?_
  rintro e W3 ⟨l, A3, n3, c3, rfl, hst, hln, h21, hc3, hm3, hr, hb3⟩
  replace HPd := hide (HPd.out.step hb3)
  have HSt := hide hst
  have HLn := hide hln
  have HR := hide hr
  clear hst hln hr
  refine ⟨_, rfl, (hHeld.step hb3), fun hHeld2 => ?_⟩
  clear hHeld
  have hHeld := hHeld2
  clear hHeld2
  refine readyO [7] (by as_aux_lemma => kernel_rfl) (by simp) ?_
  refine callO 7 16 (.call { callee := .value (.func 8), args := #[.const (.agg #[.slice N nn cN, .int .i64 en, .int .i64 top]), .const (.slice Aq nq cq), .const (.int .u64 mask), .const (.int .i64 ef), .const (.slice A3 n3 c3), .const (.int .i64 0)], argTypes := #[24, 25, 26, 3, 27, 3] }) 31 8 #[.agg #[.slice N nn cN, .int .i64 en, .int .i64 top], .slice Aq nq cq, .int .u64 mask, .int .i64 ef, .slice A3 n3 c3, .int .i64 0] (by as_aux_lemma => kernel_rfl) (by as_aux_lemma => kernel_rfl) (by unfold cEv opC; go_simp) ?_ AllReadyH.nil
  refine (rfAround15_any (cN := cN) (en := en) (top := top) (cl := c3) (ef := ef) (level := 0) (HPl.out.at_ HPd.out.bel) HMk.out HR.out HLn.out (by omega)).mono ?_
  rintro e W5 ⟨l5, t, k5, A5, n5, c5, rfl, rfl, hlk, hln5, hc5, hm5, hr5, hb5⟩
  have HLk := hide hlk
  have HL5 := hide hln5
  have HR5 := hide hr5
  have HB5 := hide (Below.step HPd.out.bel hb5)
  clear hlk hln5 hr5
  refine ⟨_, rfl, (hHeld.step hb5), fun hHeld2 => ?_⟩
  clear hHeld
  have hHeld := hHeld2
  clear hHeld2
  refine putsO [8] [8] [(8, .slice A5 n5 c5)] 1 rfl [8] (by as_aux_lemma => kernel_rfl) (by as_aux_lemma => kernel_rfl) rfl (fun _ _ _ _ _ h => h) hHeld ?_
  refine doneO [(8, .slice A5 n5 c5), (0, .agg #[.slice N nn cN, .int .i64 en, .int .i64 top]), (0, .slice Aq nq cq), (0, .int .u64 mask), (0, .int .i64 ef), (0, .agg #[.slice N nn cN, .int .i64 en, .int .i64 top]), (0, .slice Aq nq cq), (0, .slice A3 n3 c3), (0, .slice A5 n5 c5)] (by as_aux_lemma => kernel_rfl) (by as_aux_lemma => kernel_rfl) ?_
  simp only [fillG]
  clear hHeld HPd
  go_wp2
  go_ret
  exact ⟨l5, t, k5, A5, n5, c5, rfl, HSt.out, HLk.out, HL5.out, hc5, hm5, HR5.out, HB5.out⟩
set_option maxHeartbeats 8000000 in
theorem rfCost15_any (h : PlW w N nn ns Aq nq cq qs) (hmk : 0 ≤ mask ∧ mask ≤ 18446744073709551615) : Calls Tryz.prog 15 #[.agg #[.slice N nn cN, .int .i64 en, .int .i64 top], .slice Aq nq cq, .int .u64 mask, .int .i64 ef] w fun e w' => ∃ (l : List Int) (t : PrS) (k : Nat), e = .returned (.int .i64 (k : Int)) ∧ StartR ns qs en top l ∧ LookR ns qs mask (mostB ef) 0 (offL ns qs mask (mostB ef) noS l) t k ∧ Below w.heap.size w w' := by
  have HP := hide (PlB.start w #[.slice N nn cN, .int .i64 en, .int .i64 top])
  have CS := hide (fun (W : World) (hb : Below w.heap.size w W) => rfStarts15_any (cN := cN) (en := en) (top := top) (h.at_ hb))
  have HPl := hide h
  have HMk := hide hmk
  clear h hmk
  go_enter Tryz.func15, Tryz.ntmps15
  go_upto_region 1 with fail
  generalize World.alloc w _ = w1 at *
  obtain ⟨b4, hb4⟩ : ∃ b, w.heap.size = b := ⟨_, rfl⟩
  rw [hb4] at HP
  rw [hb4]
  clear hb4
  have HPd := hide (HP.out.step (Below.refl _ _).drew)
  clear HP
  refine startO (S := (PlB w b4 #[.slice N nn cN, .int .i64 en, .int .i64 top])) 15 (by as_aux_lemma => kernel_rfl) (by as_aux_lemma => kernel_rfl) HPd.out (fun hHeld => ?_)
  generalize World.drew _ = W0 at *
  refine putsO [0, 1, 2, 6] [6, 2, 1, 0] [(18, .slice Aq nq cq), (14, .int .i64 ef), (13, .int .u64 mask), (12, .slice Aq nq cq)] 4 rfl [12, 13, 14, 18] (by as_aux_lemma => kernel_rfl) (by as_aux_lemma => kernel_rfl) rfl (fun _ _ _ _ _ h => h) hHeld ?_
  refine takeO 3 15 (.build 61 #[(0, .const (.slice Aq nq cq)), (1, .const (.int .u64 mask)), (2, .const (.int .i64 ef))]) 61 (.agg #[.slice Aq nq cq, .int .u64 mask, .int .i64 ef, .slice none 0 0, .slice none 0 0, .slice none 0 0]) (by as_aux_lemma => kernel_rfl) (by as_aux_lemma => kernel_rfl) (by as_aux_lemma => kernel_rfl) (fun _ _ _ _ _ h => h) (fun W hS => by clear hS hHeld; as_aux_lemma => first | kernel_rfl | (unfold cEv opC; go_simp; done)) hHeld ?_
  refine takeO 4 16 (.load 24 (.const (.pointer (some ⟨b4, 0, none⟩)))) 24 (.agg #[.slice N nn cN, .int .i64 en, .int .i64 top]) (by as_aux_lemma => kernel_rfl) (by as_aux_lemma => kernel_rfl) (by as_aux_lemma => kernel_rfl) (fun _ _ _ _ _ h => h) (fun W hS => by obtain ⟨z0, z1, z2⟩ := hS.cells; clear hS hHeld; unfold cEv opC; as_aux_lemma => first | (go_simp; done) | (go_simp <;> rfl)) hHeld ?_
  refine takeO 5 17 (.load 24 (.const (.pointer (some ⟨b4, 0, none⟩)))) 24 (.agg #[.slice N nn cN, .int .i64 en, .int .i64 top]) (by as_aux_lemma => kernel_rfl) (by as_aux_lemma => kernel_rfl) (by as_aux_lemma => kernel_rfl) (fun _ _ _ _ _ h => h) (fun W hS => by obtain ⟨z0, z1, z2⟩ := hS.cells; clear hS hHeld; unfold cEv opC; as_aux_lemma => first | (go_simp; done) | (go_simp <;> rfl)) hHeld ?_
  refine readyO [7, 12] (by as_aux_lemma => kernel_rfl) (by simp) ?_
  refine callO 7 19 (.call { callee := .value (.func 24), args := #[.const (.agg #[.slice N nn cN, .int .i64 en, .int .i64 top]), .const (.slice Aq nq cq)], argTypes := #[24, 25] }) 27 24 #[.agg #[.slice N nn cN, .int .i64 en, .int .i64 top], .slice Aq nq cq] (by as_aux_lemma => kernel_rfl) (by as_aux_lemma => kernel_rfl) (by unfold cEv opC; go_simp) ?_ ?_
  · skip
    refine (CS.out _ HPd.out.bel).mono ?_
    rintro e W3 ⟨l, A3, n3, c3, rfl, hst, hln, h21, hc3, hm3, hr, hb3⟩
    replace HPd := hide (HPd.out.step hb3)
    have HSt := hide hst
    have HLn := hide hln
    have HR := hide hr
    clear hst hln hr
    refine ⟨_, rfl, (hHeld.step hb3), fun hHeld2 => ?_⟩
    clear hHeld
    have hHeld := hHeld2
    clear hHeld2
    refine readyO [8, 12] (by as_aux_lemma => kernel_rfl) (by simp) ?_
    refine callO 8 20 (.call { callee := .value (.func 22), args := #[.const (.agg #[.slice Aq nq cq, .int .u64 mask, .int .i64 ef, .slice none 0 0, .slice none 0 0, .slice none 0 0]), .const (.agg #[.slice N nn cN, .int .i64 en, .int .i64 top]), .const (.slice A3 n3 c3), .const (.int .i64 0)], argTypes := #[61, 24, 27, 3] }) 62 22 #[.agg #[.slice Aq nq cq, .int .u64 mask, .int .i64 ef, .slice none 0 0, .slice none 0 0, .slice none 0 0], .agg #[.slice N nn cN, .int .i64 en, .int .i64 top], .slice A3 n3 c3, .int .i64 0] (by as_aux_lemma => kernel_rfl) (by as_aux_lemma => kernel_rfl) (by unfold cEv opC; go_simp) ?_ ?_
    · skip
      refine (rfLook15_any (cN := cN) (en := en) (top := top) (cl := c3) (ef := ef) (level := 0) (HPl.out.at_ HPd.out.bel) HMk.out HR.out HLn.out (by omega)).mono ?_
      rintro e W5 ⟨v, t, c5, rfl, hlk, Ak, nk, ck, Aw, nw, cw, Ab, nb, cb, rfl, hk, hw, hb, rk, rw_, rb, hb5⟩
      have HLk := hide hlk
      replace HPd := hide (HPd.out.step hb5)
      clear hlk hk hw hb rk rw_ rb
      refine ⟨_, rfl, (hHeld.step hb5), fun hHeld2 => ?_⟩
      clear hHeld
      have hHeld := hHeld2
      clear hHeld2
      refine putsO [9] [9] [(11, .tuple #[.agg #[.slice Aq nq cq, .int .u64 mask, .int .i64 ef, .slice Ak nk ck, .slice Aw nw cw, .slice Ab nb cb], .int .i64 (c5 : Int)])] 1 rfl [11] (by as_aux_lemma => kernel_rfl) (by as_aux_lemma => kernel_rfl) rfl (fun _ _ _ _ _ h => h) hHeld ?_
      refine takeO 10 21 (.extract (.const (.tuple #[.agg #[.slice Aq nq cq, .int .u64 mask, .int .i64 ef, .slice Ak nk ck, .slice Aw nw cw, .slice Ab nb cb], .int .i64 (c5 : Int)])) 0) 61 (.agg #[.slice Aq nq cq, .int .u64 mask, .int .i64 ef, .slice Ak nk ck, .slice Aw nw cw, .slice Ab nb cb]) (by as_aux_lemma => kernel_rfl) (by as_aux_lemma => kernel_rfl) (by as_aux_lemma => kernel_rfl) (fun _ _ _ _ _ h => h) (fun W hS => by clear hS hHeld; unfold cEv opC; as_aux_lemma => first | (go_simp; done) | (go_simp <;> rfl)) hHeld ?_
      refine takeO 11 22 (.extract (.const (.tuple #[.agg #[.slice Aq nq cq, .int .u64 mask, .int .i64 ef, .slice Ak nk ck, .slice Aw nw cw, .slice Ab nb cb], .int .i64 (c5 : Int)])) 1) 3 (.int .i64 (c5 : Int)) (by as_aux_lemma => kernel_rfl) (by as_aux_lemma => kernel_rfl) (by as_aux_lemma => kernel_rfl) (fun _ _ _ _ _ h => h) (fun W hS => by clear hS hHeld; unfold cEv opC; as_aux_lemma => first | (go_simp; done) | (go_simp <;> rfl)) hHeld ?_
      refine readyO [12] (by as_aux_lemma => kernel_rfl) (by simp) ?_
      have HLt := hHeld.bel.size
      refine memO 12 9 (.alloc 61) 0 (.pointer (some ⟨W5.heap.size, 0, none⟩)) (W5.alloc (.cells #[.slice none 0 0, .int .u64 0, .int .i64 0, .slice none 0 0, .slice none 0 0, .slice none 0 0] 61)) (by as_aux_lemma => kernel_rfl) (by as_aux_lemma => kernel_rfl) (by unfold cEv opC; go_simp) (hHeld.step (below1 _ _)) (fun hHeld2 => ?_) AllReadyH.nil
      clear hHeld
      have hHeld := hHeld2
      clear hHeld2
      replace HPd := hide (HPd.out.step (below1 W5 (.cells #[.slice none 0 0, .int .u64 0, .int .i64 0, .slice none 0 0, .slice none 0 0, .slice none 0 0] 61)))
      have HN9 := hide (Blk.new W5 61 #[.slice none 0 0, .int .u64 0, .int .i64 0, .slice none 0 0, .slice none 0 0, .slice none 0 0])
      generalize World.alloc W5 (.cells #[.slice none 0 0, .int .u64 0, .int .i64 0, .slice none 0 0, .slice none 0 0, .slice none 0 0] 61) = Wa at *
      obtain ⟨b9, hb9⟩ : ∃ b, W5.heap.size = b := ⟨_, rfl⟩
      rw [hb9] at HN9
      rw [hb9]
      have Hb9 := hide (show w.heap.size ≤ b9 from hb9 ▸ HLt)
      clear hb9 HLt
      refine readyO [13] (by as_aux_lemma => kernel_rfl) (by simp) ?_
      have H9 := hide (show PlB w b4 #[.slice N nn cN, .int .i64 en, .int .i64 top] ((((((Wa.setCell ⟨b9, 0, none⟩ (.slice Aq nq cq)).setCell ⟨b9, 1, none⟩ (.int .u64 mask)).setCell ⟨b9, 2, none⟩ (.int .i64 ef)).setCell ⟨b9, 3, none⟩ (.slice Ak nk ck)).setCell ⟨b9, 4, none⟩ (.slice Aw nw cw)).setCell ⟨b9, 5, none⟩ (.slice Ab nb cb)) from ⟨((((((HPd.out.bel.setCell Hb9.out _).setCell Hb9.out _).setCell Hb9.out _).setCell Hb9.out _).setCell Hb9.out _).setCell Hb9.out _), (six_far (HPd.out.pl.ne_ HN9.out (by decide))).trans HPd.out.pl⟩)
      obtain ⟨r0, r1, r2, r3, r4, r5⟩ := HN9.out.six
      have f0 := HN9.out.frozen 0
      have f1 := HN9.out.frozen 1
      have f2 := HN9.out.frozen 2
      have f3 := HN9.out.frozen 3
      have f4 := HN9.out.frozen 4
      have f5 := HN9.out.frozen 5
      refine storeO 13 (.store 61 (.const (.pointer (some ⟨b9, 0, none⟩))) (.const (.agg #[.slice Aq nq cq, .int .u64 mask, .int .i64 ef, .slice Ak nk ck, .slice Aw nw cw, .slice Ab nb cb]))) 0 ((((((Wa.setCell ⟨b9, 0, none⟩ (.slice Aq nq cq)).setCell ⟨b9, 1, none⟩ (.int .u64 mask)).setCell ⟨b9, 2, none⟩ (.int .i64 ef)).setCell ⟨b9, 3, none⟩ (.slice Ak nk ck)).setCell ⟨b9, 4, none⟩ (.slice Aw nw cw)).setCell ⟨b9, 5, none⟩ (.slice Ab nb cb)) (by as_aux_lemma => kernel_rfl) (by as_aux_lemma => kernel_rfl) (by unfold cEv opC; go_simp) H9.out (fun hHeld2 => ?_) AllReadyH.nil
      clear hHeld
      have hHeld := hHeld2
      clear hHeld2
      refine putsO [14] [14] [(10, .int .i64 (c5 : Int))] 1 rfl [10] (by as_aux_lemma => kernel_rfl) (by as_aux_lemma => kernel_rfl) rfl (fun _ _ _ _ _ h => h) hHeld ?_
      refine doneO [(9, .pointer (some ⟨b9, 0, none⟩)), (0, .int .i64 (c5 : Int)), (0, .tuple #[.agg #[.slice Aq nq cq, .int .u64 mask, .int .i64 ef, .slice Ak nk ck, .slice Aw nw cw, .slice Ab nb cb], .int .i64 (c5 : Int)]), (0, .slice Aq nq cq), (0, .int .u64 mask), (0, .int .i64 ef), (0, .agg #[.slice Aq nq cq, .int .u64 mask, .int .i64 ef, .slice none 0 0, .slice none 0 0, .slice none 0 0]), (0, .agg #[.slice N nn cN, .int .i64 en, .int .i64 top]), (0, .agg #[.slice N nn cN, .int .i64 en, .int .i64 top]), (0, .slice Aq nq cq), (0, .slice A3 n3 c3), (0, .tuple #[.agg #[.slice Aq nq cq, .int .u64 mask, .int .i64 ef, .slice Ak nk ck, .slice Aw nw cw, .slice Ab nb cb], .int .i64 (c5 : Int)]), (0, .agg #[.slice Aq nq cq, .int .u64 mask, .int .i64 ef, .slice Ak nk ck, .slice Aw nw cw, .slice Ab nb cb]), (0, .int .i64 (c5 : Int))] (by as_aux_lemma => kernel_rfl) (by as_aux_lemma => kernel_rfl) ?_
      simp only [fillG]
      clear r0 r1 r2 r3 r4 r5 f0 f1 f2 f3 f4 f5 hHeld HPd HN9
      generalize (((((Wa.setCell ⟨b9, 0, none⟩ (.slice Aq nq cq)).setCell ⟨b9, 1, none⟩ (.int .u64 mask)).setCell ⟨b9, 2, none⟩ (.int .i64 ef)).setCell ⟨b9, 3, none⟩ (.slice Ak nk ck)).setCell ⟨b9, 4, none⟩ (.slice Aw nw cw)).setCell ⟨b9, 5, none⟩ (.slice Ab nb cb) = W9 at *
      go_wp2
      go_ret
      exact ⟨l, t, c5, rfl, HSt.out, HLk.out, H9.out.bel⟩
    have HLt := hHeld.bel.size
    refine memO 12 9 (.alloc 61) 0 (.pointer (some ⟨W3.heap.size, 0, none⟩)) (W3.alloc (.cells #[.slice none 0 0, .int .u64 0, .int .i64 0, .slice none 0 0, .slice none 0 0, .slice none 0 0] 61)) (by as_aux_lemma => kernel_rfl) (by as_aux_lemma => kernel_rfl) (by unfold cEv opC; go_simp) (hHeld.step (below1 _ _)) (fun hHeld2 => ?_) AllReadyH.nil
    clear hHeld
    have hHeld := hHeld2
    clear hHeld2
    replace HPd := hide (HPd.out.step (below1 W3 (.cells #[.slice none 0 0, .int .u64 0, .int .i64 0, .slice none 0 0, .slice none 0 0, .slice none 0 0] 61)))
    have HN9 := hide (Blk.new W3 61 #[.slice none 0 0, .int .u64 0, .int .i64 0, .slice none 0 0, .slice none 0 0, .slice none 0 0])
    replace HR := hide (HR.out.at_world (below1 W3 (.cells #[.slice none 0 0, .int .u64 0, .int .i64 0, .slice none 0 0, .slice none 0 0, .slice none 0 0] 61)))
    generalize World.alloc W3 (.cells #[.slice none 0 0, .int .u64 0, .int .i64 0, .slice none 0 0, .slice none 0 0, .slice none 0 0] 61) = Wa at *
    obtain ⟨b9, hb9⟩ : ∃ b, W3.heap.size = b := ⟨_, rfl⟩
    rw [hb9] at HN9
    rw [hb9]
    have Hb9 := hide (show w.heap.size ≤ b9 from hb9 ▸ HLt)
    clear hb9 HLt
    refine readyO [8] (by as_aux_lemma => kernel_rfl) (by simp) ?_
    refine callO 8 20 (.call { callee := .value (.func 22), args := #[.const (.agg #[.slice Aq nq cq, .int .u64 mask, .int .i64 ef, .slice none 0 0, .slice none 0 0, .slice none 0 0]), .const (.agg #[.slice N nn cN, .int .i64 en, .int .i64 top]), .const (.slice A3 n3 c3), .const (.int .i64 0)], argTypes := #[61, 24, 27, 3] }) 62 22 #[.agg #[.slice Aq nq cq, .int .u64 mask, .int .i64 ef, .slice none 0 0, .slice none 0 0, .slice none 0 0], .agg #[.slice N nn cN, .int .i64 en, .int .i64 top], .slice A3 n3 c3, .int .i64 0] (by as_aux_lemma => kernel_rfl) (by as_aux_lemma => kernel_rfl) (by unfold cEv opC; go_simp) ?_ AllReadyH.nil
    refine (rfLook15_any (cN := cN) (en := en) (top := top) (cl := c3) (ef := ef) (level := 0) (HPl.out.at_ HPd.out.bel) HMk.out HR.out HLn.out (by omega)).mono ?_
    rintro e W5 ⟨v, t, c5, rfl, hlk, Ak, nk, ck, Aw, nw, cw, Ab, nb, cb, rfl, hk, hw, hb, rk, rw_, rb, hb5⟩
    have HLk := hide hlk
    replace HPd := hide (HPd.out.step hb5)
    replace HN9 := hide (HN9.out.below hb5 HN9.out.lt)
    clear hlk hk hw hb rk rw_ rb
    refine ⟨_, rfl, (hHeld.step hb5), fun hHeld2 => ?_⟩
    clear hHeld
    have hHeld := hHeld2
    clear hHeld2
    refine putsO [9] [9] [(11, .tuple #[.agg #[.slice Aq nq cq, .int .u64 mask, .int .i64 ef, .slice Ak nk ck, .slice Aw nw cw, .slice Ab nb cb], .int .i64 (c5 : Int)])] 1 rfl [11] (by as_aux_lemma => kernel_rfl) (by as_aux_lemma => kernel_rfl) rfl (fun _ _ _ _ _ h => h) hHeld ?_
    refine takeO 10 21 (.extract (.const (.tuple #[.agg #[.slice Aq nq cq, .int .u64 mask, .int .i64 ef, .slice Ak nk ck, .slice Aw nw cw, .slice Ab nb cb], .int .i64 (c5 : Int)])) 0) 61 (.agg #[.slice Aq nq cq, .int .u64 mask, .int .i64 ef, .slice Ak nk ck, .slice Aw nw cw, .slice Ab nb cb]) (by as_aux_lemma => kernel_rfl) (by as_aux_lemma => kernel_rfl) (by as_aux_lemma => kernel_rfl) (fun _ _ _ _ _ h => h) (fun W hS => by clear hS hHeld; unfold cEv opC; as_aux_lemma => first | (go_simp; done) | (go_simp <;> rfl)) hHeld ?_
    refine takeO 11 22 (.extract (.const (.tuple #[.agg #[.slice Aq nq cq, .int .u64 mask, .int .i64 ef, .slice Ak nk ck, .slice Aw nw cw, .slice Ab nb cb], .int .i64 (c5 : Int)])) 1) 3 (.int .i64 (c5 : Int)) (by as_aux_lemma => kernel_rfl) (by as_aux_lemma => kernel_rfl) (by as_aux_lemma => kernel_rfl) (fun _ _ _ _ _ h => h) (fun W hS => by clear hS hHeld; unfold cEv opC; as_aux_lemma => first | (go_simp; done) | (go_simp <;> rfl)) hHeld ?_
    refine readyO [13] (by as_aux_lemma => kernel_rfl) (by simp) ?_
    have H9 := hide (show PlB w b4 #[.slice N nn cN, .int .i64 en, .int .i64 top] ((((((W5.setCell ⟨b9, 0, none⟩ (.slice Aq nq cq)).setCell ⟨b9, 1, none⟩ (.int .u64 mask)).setCell ⟨b9, 2, none⟩ (.int .i64 ef)).setCell ⟨b9, 3, none⟩ (.slice Ak nk ck)).setCell ⟨b9, 4, none⟩ (.slice Aw nw cw)).setCell ⟨b9, 5, none⟩ (.slice Ab nb cb)) from ⟨((((((HPd.out.bel.setCell Hb9.out _).setCell Hb9.out _).setCell Hb9.out _).setCell Hb9.out _).setCell Hb9.out _).setCell Hb9.out _), (six_far (HPd.out.pl.ne_ HN9.out (by decide))).trans HPd.out.pl⟩)
    obtain ⟨r0, r1, r2, r3, r4, r5⟩ := HN9.out.six
    have f0 := HN9.out.frozen 0
    have f1 := HN9.out.frozen 1
    have f2 := HN9.out.frozen 2
    have f3 := HN9.out.frozen 3
    have f4 := HN9.out.frozen 4
    have f5 := HN9.out.frozen 5
    refine storeO 13 (.store 61 (.const (.pointer (some ⟨b9, 0, none⟩))) (.const (.agg #[.slice Aq nq cq, .int .u64 mask, .int .i64 ef, .slice Ak nk ck, .slice Aw nw cw, .slice Ab nb cb]))) 0 ((((((W5.setCell ⟨b9, 0, none⟩ (.slice Aq nq cq)).setCell ⟨b9, 1, none⟩ (.int .u64 mask)).setCell ⟨b9, 2, none⟩ (.int .i64 ef)).setCell ⟨b9, 3, none⟩ (.slice Ak nk ck)).setCell ⟨b9, 4, none⟩ (.slice Aw nw cw)).setCell ⟨b9, 5, none⟩ (.slice Ab nb cb)) (by as_aux_lemma => kernel_rfl) (by as_aux_lemma => kernel_rfl) (by unfold cEv opC; go_simp) H9.out (fun hHeld2 => ?_) AllReadyH.nil
    clear hHeld
    have hHeld := hHeld2
    clear hHeld2
    refine putsO [14] [14] [(10, .int .i64 (c5 : Int))] 1 rfl [10] (by as_aux_lemma => kernel_rfl) (by as_aux_lemma => kernel_rfl) rfl (fun _ _ _ _ _ h => h) hHeld ?_
    refine doneO [(9, .pointer (some ⟨b9, 0, none⟩)), (0, .int .i64 (c5 : Int)), (0, .tuple #[.agg #[.slice Aq nq cq, .int .u64 mask, .int .i64 ef, .slice Ak nk ck, .slice Aw nw cw, .slice Ab nb cb], .int .i64 (c5 : Int)]), (0, .slice Aq nq cq), (0, .int .u64 mask), (0, .int .i64 ef), (0, .agg #[.slice Aq nq cq, .int .u64 mask, .int .i64 ef, .slice none 0 0, .slice none 0 0, .slice none 0 0]), (0, .agg #[.slice N nn cN, .int .i64 en, .int .i64 top]), (0, .agg #[.slice N nn cN, .int .i64 en, .int .i64 top]), (0, .slice Aq nq cq), (0, .slice A3 n3 c3), (0, .tuple #[.agg #[.slice Aq nq cq, .int .u64 mask, .int .i64 ef, .slice Ak nk ck, .slice Aw nw cw, .slice Ab nb cb], .int .i64 (c5 : Int)]), (0, .agg #[.slice Aq nq cq, .int .u64 mask, .int .i64 ef, .slice Ak nk ck, .slice Aw nw cw, .slice Ab nb cb]), (0, .int .i64 (c5 : Int))] (by as_aux_lemma => kernel_rfl) (by as_aux_lemma => kernel_rfl) ?_
    simp only [fillG]
    clear r0 r1 r2 r3 r4 r5 f0 f1 f2 f3 f4 f5 hHeld HPd HN9
    generalize (((((W5.setCell ⟨b9, 0, none⟩ (.slice Aq nq cq)).setCell ⟨b9, 1, none⟩ (.int .u64 mask)).setCell ⟨b9, 2, none⟩ (.int .i64 ef)).setCell ⟨b9, 3, none⟩ (.slice Ak nk ck)).setCell ⟨b9, 4, none⟩ (.slice Aw nw cw)).setCell ⟨b9, 5, none⟩ (.slice Ab nb cb) = W9 at *
    go_wp2
    go_ret
    exact ⟨l, t, c5, rfl, HSt.out, HLk.out, H9.out.bel⟩
  have HLt := hHeld.bel.size
  refine memO 12 9 (.alloc 61) 0 (.pointer (some ⟨W0.heap.size, 0, none⟩)) (W0.alloc (.cells #[.slice none 0 0, .int .u64 0, .int .i64 0, .slice none 0 0, .slice none 0 0, .slice none 0 0] 61)) (by as_aux_lemma => kernel_rfl) (by as_aux_lemma => kernel_rfl) (by unfold cEv opC; go_simp) (hHeld.step (below1 _ _)) (fun hHeld2 => ?_) AllReadyH.nil
  clear hHeld
  have hHeld := hHeld2
  clear hHeld2
  replace HPd := hide (HPd.out.step (below1 W0 (.cells #[.slice none 0 0, .int .u64 0, .int .i64 0, .slice none 0 0, .slice none 0 0, .slice none 0 0] 61)))
  have HN9 := hide (Blk.new W0 61 #[.slice none 0 0, .int .u64 0, .int .i64 0, .slice none 0 0, .slice none 0 0, .slice none 0 0])
  generalize World.alloc W0 (.cells #[.slice none 0 0, .int .u64 0, .int .i64 0, .slice none 0 0, .slice none 0 0, .slice none 0 0] 61) = Wa at *
  obtain ⟨b9, hb9⟩ : ∃ b, W0.heap.size = b := ⟨_, rfl⟩
  rw [hb9] at HN9
  rw [hb9]
  have Hb9 := hide (show w.heap.size ≤ b9 from hb9 ▸ HLt)
  clear hb9 HLt
  refine readyO [7] (by as_aux_lemma => kernel_rfl) (by simp) ?_
  refine callO 7 19 (.call { callee := .value (.func 24), args := #[.const (.agg #[.slice N nn cN, .int .i64 en, .int .i64 top]), .const (.slice Aq nq cq)], argTypes := #[24, 25] }) 27 24 #[.agg #[.slice N nn cN, .int .i64 en, .int .i64 top], .slice Aq nq cq] (by as_aux_lemma => kernel_rfl) (by as_aux_lemma => kernel_rfl) (by unfold cEv opC; go_simp) ?_ AllReadyH.nil
  refine (CS.out _ HPd.out.bel).mono ?_
  rintro e W3 ⟨l, A3, n3, c3, rfl, hst, hln, h21, hc3, hm3, hr, hb3⟩
  replace HPd := hide (HPd.out.step hb3)
  have HSt := hide hst
  have HLn := hide hln
  have HR := hide hr
  replace HN9 := hide (HN9.out.below hb3 HN9.out.lt)
  clear hst hln hr
  refine ⟨_, rfl, (hHeld.step hb3), fun hHeld2 => ?_⟩
  clear hHeld
  have hHeld := hHeld2
  clear hHeld2
  refine readyO [8] (by as_aux_lemma => kernel_rfl) (by simp) ?_
  refine callO 8 20 (.call { callee := .value (.func 22), args := #[.const (.agg #[.slice Aq nq cq, .int .u64 mask, .int .i64 ef, .slice none 0 0, .slice none 0 0, .slice none 0 0]), .const (.agg #[.slice N nn cN, .int .i64 en, .int .i64 top]), .const (.slice A3 n3 c3), .const (.int .i64 0)], argTypes := #[61, 24, 27, 3] }) 62 22 #[.agg #[.slice Aq nq cq, .int .u64 mask, .int .i64 ef, .slice none 0 0, .slice none 0 0, .slice none 0 0], .agg #[.slice N nn cN, .int .i64 en, .int .i64 top], .slice A3 n3 c3, .int .i64 0] (by as_aux_lemma => kernel_rfl) (by as_aux_lemma => kernel_rfl) (by unfold cEv opC; go_simp) ?_ AllReadyH.nil
  refine (rfLook15_any (cN := cN) (en := en) (top := top) (cl := c3) (ef := ef) (level := 0) (HPl.out.at_ HPd.out.bel) HMk.out HR.out HLn.out (by omega)).mono ?_
  rintro e W5 ⟨v, t, c5, rfl, hlk, Ak, nk, ck, Aw, nw, cw, Ab, nb, cb, rfl, hk, hw, hb, rk, rw_, rb, hb5⟩
  have HLk := hide hlk
  replace HPd := hide (HPd.out.step hb5)
  replace HN9 := hide (HN9.out.below hb5 HN9.out.lt)
  clear hlk hk hw hb rk rw_ rb
  refine ⟨_, rfl, (hHeld.step hb5), fun hHeld2 => ?_⟩
  clear hHeld
  have hHeld := hHeld2
  clear hHeld2
  refine putsO [9] [9] [(11, .tuple #[.agg #[.slice Aq nq cq, .int .u64 mask, .int .i64 ef, .slice Ak nk ck, .slice Aw nw cw, .slice Ab nb cb], .int .i64 (c5 : Int)])] 1 rfl [11] (by as_aux_lemma => kernel_rfl) (by as_aux_lemma => kernel_rfl) rfl (fun _ _ _ _ _ h => h) hHeld ?_
  refine takeO 10 21 (.extract (.const (.tuple #[.agg #[.slice Aq nq cq, .int .u64 mask, .int .i64 ef, .slice Ak nk ck, .slice Aw nw cw, .slice Ab nb cb], .int .i64 (c5 : Int)])) 0) 61 (.agg #[.slice Aq nq cq, .int .u64 mask, .int .i64 ef, .slice Ak nk ck, .slice Aw nw cw, .slice Ab nb cb]) (by as_aux_lemma => kernel_rfl) (by as_aux_lemma => kernel_rfl) (by as_aux_lemma => kernel_rfl) (fun _ _ _ _ _ h => h) (fun W hS => by clear hS hHeld; unfold cEv opC; as_aux_lemma => first | (go_simp; done) | (go_simp <;> rfl)) hHeld ?_
  refine takeO 11 22 (.extract (.const (.tuple #[.agg #[.slice Aq nq cq, .int .u64 mask, .int .i64 ef, .slice Ak nk ck, .slice Aw nw cw, .slice Ab nb cb], .int .i64 (c5 : Int)])) 1) 3 (.int .i64 (c5 : Int)) (by as_aux_lemma => kernel_rfl) (by as_aux_lemma => kernel_rfl) (by as_aux_lemma => kernel_rfl) (fun _ _ _ _ _ h => h) (fun W hS => by clear hS hHeld; unfold cEv opC; as_aux_lemma => first | (go_simp; done) | (go_simp <;> rfl)) hHeld ?_
  refine readyO [13] (by as_aux_lemma => kernel_rfl) (by simp) ?_
  have H9 := hide (show PlB w b4 #[.slice N nn cN, .int .i64 en, .int .i64 top] ((((((W5.setCell ⟨b9, 0, none⟩ (.slice Aq nq cq)).setCell ⟨b9, 1, none⟩ (.int .u64 mask)).setCell ⟨b9, 2, none⟩ (.int .i64 ef)).setCell ⟨b9, 3, none⟩ (.slice Ak nk ck)).setCell ⟨b9, 4, none⟩ (.slice Aw nw cw)).setCell ⟨b9, 5, none⟩ (.slice Ab nb cb)) from ⟨((((((HPd.out.bel.setCell Hb9.out _).setCell Hb9.out _).setCell Hb9.out _).setCell Hb9.out _).setCell Hb9.out _).setCell Hb9.out _), (six_far (HPd.out.pl.ne_ HN9.out (by decide))).trans HPd.out.pl⟩)
  obtain ⟨r0, r1, r2, r3, r4, r5⟩ := HN9.out.six
  have f0 := HN9.out.frozen 0
  have f1 := HN9.out.frozen 1
  have f2 := HN9.out.frozen 2
  have f3 := HN9.out.frozen 3
  have f4 := HN9.out.frozen 4
  have f5 := HN9.out.frozen 5
  refine storeO 13 (.store 61 (.const (.pointer (some ⟨b9, 0, none⟩))) (.const (.agg #[.slice Aq nq cq, .int .u64 mask, .int .i64 ef, .slice Ak nk ck, .slice Aw nw cw, .slice Ab nb cb]))) 0 ((((((W5.setCell ⟨b9, 0, none⟩ (.slice Aq nq cq)).setCell ⟨b9, 1, none⟩ (.int .u64 mask)).setCell ⟨b9, 2, none⟩ (.int .i64 ef)).setCell ⟨b9, 3, none⟩ (.slice Ak nk ck)).setCell ⟨b9, 4, none⟩ (.slice Aw nw cw)).setCell ⟨b9, 5, none⟩ (.slice Ab nb cb)) (by as_aux_lemma => kernel_rfl) (by as_aux_lemma => kernel_rfl) (by unfold cEv opC; go_simp) H9.out (fun hHeld2 => ?_) AllReadyH.nil
  clear hHeld
  have hHeld := hHeld2
  clear hHeld2
  refine putsO [14] [14] [(10, .int .i64 (c5 : Int))] 1 rfl [10] (by as_aux_lemma => kernel_rfl) (by as_aux_lemma => kernel_rfl) rfl (fun _ _ _ _ _ h => h) hHeld ?_
  refine doneO [(9, .pointer (some ⟨b9, 0, none⟩)), (0, .int .i64 (c5 : Int)), (0, .tuple #[.agg #[.slice Aq nq cq, .int .u64 mask, .int .i64 ef, .slice Ak nk ck, .slice Aw nw cw, .slice Ab nb cb], .int .i64 (c5 : Int)]), (0, .slice Aq nq cq), (0, .int .u64 mask), (0, .int .i64 ef), (0, .agg #[.slice Aq nq cq, .int .u64 mask, .int .i64 ef, .slice none 0 0, .slice none 0 0, .slice none 0 0]), (0, .agg #[.slice N nn cN, .int .i64 en, .int .i64 top]), (0, .agg #[.slice N nn cN, .int .i64 en, .int .i64 top]), (0, .slice Aq nq cq), (0, .slice A3 n3 c3), (0, .tuple #[.agg #[.slice Aq nq cq, .int .u64 mask, .int .i64 ef, .slice Ak nk ck, .slice Aw nw cw, .slice Ab nb cb], .int .i64 (c5 : Int)]), (0, .agg #[.slice Aq nq cq, .int .u64 mask, .int .i64 ef, .slice Ak nk ck, .slice Aw nw cw, .slice Ab nb cb]), (0, .int .i64 (c5 : Int))] (by as_aux_lemma => kernel_rfl) (by as_aux_lemma => kernel_rfl) ?_
  simp only [fillG]
  clear r0 r1 r2 r3 r4 r5 f0 f1 f2 f3 f4 f5 hHeld HPd HN9
  generalize (((((W5.setCell ⟨b9, 0, none⟩ (.slice Aq nq cq)).setCell ⟨b9, 1, none⟩ (.int .u64 mask)).setCell ⟨b9, 2, none⟩ (.int .i64 ef)).setCell ⟨b9, 3, none⟩ (.slice Ak nk ck)).setCell ⟨b9, 4, none⟩ (.slice Aw nw cw)).setCell ⟨b9, 5, none⟩ (.slice Ab nb cb) = W9 at *
  go_wp2
  go_ret
  exact ⟨l, t, c5, rfl, HSt.out, HLk.out, H9.out.bel⟩
end
end Go.Proofs.YtphbdffgeeicaabGreat

/-
  The document's beam: Search. Conditions: the slices read as lists.
-/
namespace Go.Proofs.YtphbdffgeeicaabGreat
set_option linter.unusedSimpArgs false
set_option linter.unusedVariables false
open Go.RowKit

/-- what a search of hits gives -/
def GivesSr (ns : List NodeP) (qs : List Int) (mask ef kk en top : Int) (w : World) (e : Ending) (w' : World) : Prop :=
  ∃ (l : List Int) (t : PrS) (k : Nat) (A : Option Addr) (n c : Nat), e = .returned (.slice A n c) ∧ StartR ns qs en top l ∧ LookR ns qs mask (mostB (max kk ef)) 0 (offL ns qs mask (mostB (max kk ef)) noS l) t k ∧ ((t.2.2.take kk.toNat).map (·.1)).length = n ∧ n ≤ c ∧ c ≤ 9223372036854775807 ∧ Rd SH w' w'.heap.size A ((t.2.2.take kk.toNat).map (·.1)) ∧ Below w.heap.size w w'
theorem out_more {h : List Hit} {j K : Nat} {x : Hit} (hx : h[j]? = some x) (hj : j < K) : h.take (min (j + 1) K) = h.take (min j K) ++ [x] := by
  rw [Nat.min_eq_left (by omega), Nat.min_eq_left (by omega), List.take_add_one, hx]; rfl
theorem out_full {h : List Hit} {j K : Nat} (hj : K ≤ j) : h.take (min (j + 1) K) = h.take (min j K) := by
  rw [Nat.min_eq_right (by omega), Nat.min_eq_right (by omega)]
section
variable {w W : World} {N Aq : Option Addr} {nn cN nq cq : Nat} {ns : List NodeP} {en top mask ef kk : Int} {qs : List Int}
set_option maxHeartbeats 8000000 in
theorem rfSearch15_any (h : PlW w N nn ns Aq nq cq qs) (hmk : 0 ≤ mask ∧ mask ≤ 18446744073709551615) : Calls Tryz.prog 13 #[.agg #[.slice N nn cN, .int .i64 en, .int .i64 top], .slice Aq nq cq, .int .u64 mask, .int .i64 kk, .int .i64 ef] w (GivesSr ns qs mask ef kk en top w) := by
  have HP := hide (PlB.start w #[.slice N nn cN, .int .i64 en, .int .i64 top])
  have CF := hide (fun (W : World) (hb : Below w.heap.size w W) => rfFind15_any (cN := cN) (en := en) (top := top) (ef := max kk ef) (h.at_ hb) hmk)
  have hn20 := h.n20
  have Hln := hide h.len
  clear h hmk
  go_enter Tryz.func13, Tryz.ntmps13
  go_upto_region 1 with fail
  generalize World.alloc w _ = w1 at *
  obtain ⟨b5, hb5⟩ : ∃ b, w.heap.size = b := ⟨_, rfl⟩
  rw [hb5] at HP
  rw [hb5]
  clear hb5
  obtain ⟨p0, p1, p2⟩ := HP.out.cells
  obtain ⟨mx, hmx⟩ : ∃ z, max kk ef = z := ⟨_, rfl⟩
  have HMx := hide hmx
  rw [hmx] at CF
  go_wp2_with (go_at_call 10; refine (CF.out _ HP.out.bel).mono ?_; rintro e w5 ⟨l, t, k5, A5, n5, c5, rfl, hst, hlk, hln, hc5, hm5, hr5, hb5⟩; have HSt := hide hst; have HLk := hide hlk; have HLn := hide hln; have HR := hide hr5; have HB5 := hide (Below.step HP.out.bel hb5); clear hst hlk hln hr5 hb5)
  clear p0 p1 p2 HP CF hmx
  have hn5 : n5 ≤ 20 := by
    obtain ⟨dn, h1⟩ := HLk.out.ends (dn := []) (BmI.nil.offs l)
    have := h1.i.small
    have := HLn.out
    have := Hln.out
    omega
  obtain ⟨K2, hK2⟩ : ∃ z, kk.toNat = z := ⟨_, rfl⟩
  have HK2 := hide hK2
  obtain ⟨hs, hhs⟩ : ∃ x, t.2.2.map (·.1) = x := ⟨_, rfl⟩
  have HHs := hide hhs
  have hHl : hs.length = n5 := by rw [← hhs, List.length_map]; exact HLn.out
  have HHl := hide hHl
  clear hK2 hhs hHl
  go_loopw [11, 22] (fun v i wr => ∃ (j m : Nat) (A : Option Addr) (c : Nat), j ≤ n5 ∧ i = .int .i64 j ∧ v = .slice A m c ∧ m ≤ c ∧ c ≤ 9223372036854775807 ∧ Hid (m = min j K2) ∧ Hid (wr.ownsRow w5.heap.size 49 2 (.slice A m c) m (fcs encH (hs.take (min j K2)))) ∧ Hid (Below w5.heap.size w5 wr)) (fun _ i _ => n5 - (intOf i).toNat)
  case atStart => exact ⟨0, 0, none, 0, by omega, rfl, rfl, by omega, by omega, hide (by simp), hide (by rw [Nat.zero_min]; exact World.ownsRow_nil _ _ _ _), hide (Below.refl _ _)⟩
  case round =>
    obtain ⟨j, m, A, c, hj, rfl, rfl, hc1, hc2, HM, HO, HB⟩ := hrel
    have hm20 : m ≤ 20 := by have := HM.out; omega
    by_cases hlt : j < n5
    · have g0 : (0 : Int) ≤ j := by omega
      have g1 : (j : Int) < n5 := by omega
      obtain ⟨ad, ⟨⟨d, id⟩, sl⟩, rfl, _, hx, q0, q1, q2⟩ := RdR.scell (HR.out.at_world HB.out) (k := j) (by have := HLn.out; omega)
      simp only at q0 q1 q2
      have HX := hide (show hs[j]? = some (d, id) from by rw [← HHs.out, List.getElem?_map, hx]; rfl)
      have hb6 := below1 wr (.cells #[.int .u64 d, .int .u64 id, .int .i64 sl] 51)
      have HO6 := hide (own_keep (w' := wr.alloc (.cells #[.int .u64 d, .int .u64 id, .int .i64 sl] 51)) HO.out fun g hg => hb6.block g (HO.out.lt g hg).2)
      have HB6 := hide (Below.step HB.out hb6)
      have HN6 := hide (Blk.new wr 51 #[.int .u64 d, .int .u64 id, .int .i64 sl])
      clear hx hb6 HO HB
      by_cases hjK : j < K2
      · have hmk : (m : Int) < kk := by have := HM.out; have := HK2.out; omega
        have e1 : decide ((m : Int) < kk) = true := decide_eq_true hmk
        have HOm := hide (out_more HX.out hjK)
        have HM2 := hide (show m + 1 = min (j + 1) K2 from by have := HM.out; omega)
        clear hjK
        go_upto_region 5 with fail
        clear q0 q1 q2
        generalize World.alloc wr _ = w6 at *
        generalize wr.heap.size = b13 at *
        obtain ⟨r0, r1, r2⟩ := HN6.out.tri
        go_wp2_with (at_builtin; go_loud (refine wpList_append_elem rfl (.tmp 30) (.tmp 33) 35 rfl w5.heap.size Tryz.underlying35 info_hitB rfl (by decide) (.slice A m c) m _ rfl HO6.out _ _ rfl rfl (by simp [Value.oneCell']) (by simp only [maxLen]; omega) (by have := HM.out; omega) HB6.out.size ?_; intro v9 w9 hown9 hgr9 hat9; have HO9 := hide (show w9.ownsRow w5.heap.size 49 2 v9 (m + 1) (fcs encH (hs.take (min (j + 1) K2))) by rw [HOm.out, fcsH_snoc]; exact hown9); have HB9 := hide (below_own HB6.out HO6.out HB6.out.size hgr9); obtain ⟨A8, c8, rfl, l1, l2⟩ := own_form hown9; clear hown9 hgr9 hat9))
        go_roundw
        case rel => exact ⟨j + 1, m + 1, A8, c8, by omega, by go_num, rfl, l1, l2, HM2, HO9, HB9⟩
        case measure => simp [intOf]; omega
      · have hmk : ¬ ((m : Int) < kk) := by have := HM.out; have := HK2.out; omega
        have e1 : decide ((m : Int) < kk) = false := decide_eq_false hmk
        have HOm := hide (out_full (h := hs) (show K2 ≤ j by omega))
        have HM2 := hide (show m = min (j + 1) K2 from by have := HM.out; omega)
        clear hjK
        go_wp2
        go_roundw
        case rel => exact ⟨j + 1, m, A, c, by omega, by go_num, rfl, hc1, hc2, HM2, by rw [HOm.out]; exact HO6, HB6⟩
        case measure => simp [intOf]; omega
    · obtain rfl : n5 = j := by omega
      have HE := hide (show hs.take (min n5 K2) = (t.2.2.take kk.toNat).map (·.1) from by
        rw [HK2.out, List.map_take, HHs.out]
        rcases Nat.le_total n5 K2 with e | e
        · rw [Nat.min_eq_left e, List.take_of_length_le (by rw [HHl.out]; exact Nat.le_refl _), List.take_of_length_le (by rw [HHl.out]; exact e)]
        · rw [Nat.min_eq_right e])
      rw [HE.out] at HO
      have HLm := hide (show ((t.2.2.take kk.toNat).map (·.1)).length = m from by rw [← HE.out, List.length_take, HHl.out]; have := HM.out; omega)
      go_wp2
      go_ret
      exact ⟨l, t, k5, A, m, c, rfl, HSt.out, by rw [HMx.out]; exact HLk.out, HLm.out, hc1, hc2, (flatH.own HO.out).rd fun d hd => hd.2, Below.step HB5.out HB.out⟩
end
end Go.Proofs.YtphbdffgeeicaabGreat
