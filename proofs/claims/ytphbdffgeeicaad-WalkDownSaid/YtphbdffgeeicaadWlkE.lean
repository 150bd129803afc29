/-
  The package walk: Spot. Conditions: the slice of nodes reads as a list.
-/
import Derived.Test.YtphbdffgeeicaadWlkD
import Derived.Test.YtphbdffgeeicaadRnkC
import Derived.Test.YtphbdffgeeicaadTk2
namespace Go.Proofs.Ytphbdffgeeicaad
set_option linter.unusedSimpArgs false
set_option linter.unusedVariables false
open Go.RowKit

/-- the function's variables, its vectors -/
structure SpW (w : World) (gs gi : Nat) (ci : Array Value) (Aq : Option Addr) (qs : List Int) (V : Option Addr) (vs : List Int) (W : World) : Prop where
  bel : Below w.heap.size w W
  s : ∃ cs : Array Value, cs.size = 3 ∧ Blk W gs 37 cs
  i : Blk W gi 44 ci
  hs : w.heap.size ≤ gs
  hi : w.heap.size ≤ gi
  q0 : Rd (Sh.int .i32) W w.heap.size Aq qs
  v0 : Rd (Sh.int .i32) W w.heap.size V vs
theorem SpW.q {w W : World} {gs gi : Nat} {ci : Array Value} {Aq V : Option Addr} {qs vs : List Int} (h : SpW w gs gi ci Aq qs V vs W) : Rd (Sh.int .i32) W W.heap.size Aq qs ∧ Rd (Sh.int .i32) W W.heap.size V vs := ⟨h.q0.more h.bel.size, h.v0.more h.bel.size⟩
theorem SpW.step {w W W' : World} {gs gi : Nat} {ci : Array Value} {Aq V : Option Addr} {qs vs : List Int} (h : SpW w gs gi ci Aq qs V vs W) (hb : Below W.heap.size W W') : SpW w gs gi ci Aq qs V vs W' :=
  ⟨Below.step h.bel hb, h.s.elim fun cs k => ⟨cs, k.1, k.2.below hb k.2.lt⟩, h.i.below hb h.i.lt, h.hs, h.hi, h.q0.below hb h.bel.size, h.v0.below hb h.bel.size⟩
theorem SpW.item {w W : World} {gs gi : Nat} {Aq V : Option Addr} {qs vs : List Int} {a b c : Value} (h : SpW w gs gi #[.int .u64 0, .slice none 0 0, .int .u64 0] Aq qs V vs W) : SpW w gs gi #[a, b, c] Aq qs V vs (((W.setCell ⟨gi, 0, none⟩ a).setCell ⟨gi, 1, none⟩ b).setCell ⟨gi, 2, none⟩ c) := by
  obtain ⟨cs, hcs, hs⟩ := h.s
  have hne : gs ≠ gi := hs.ne_ h.i (by decide)
  exact ⟨((h.bel.setCell h.hi _).setCell h.hi _).setCell h.hi _, ⟨cs, hcs, ((hs.far hne _).far hne _).far hne _⟩, by have := ((h.i.set_ 0 a).set_ 1 b).set_ 2 c; simpa using this, h.hs, h.hi, ((h.q0.setCell h.hi _).setCell h.hi _).setCell h.hi _, ((h.v0.setCell h.hi _).setCell h.hi _).setCell h.hi _⟩
theorem spot_storedW {w0 w1 : World} {R : Nat} {cs : Array Value} (h : Blk w1 R 37 cs) (hc : cs.size = 3) (hb : Below w0.heap.size w0 w1) (hR : w0.heap.size ≤ R) (s : Spt) :
    Blk (((w1.setCell ⟨R, 0, none⟩ (.int .u64 s.1.1)).setCell ⟨R, 1, none⟩ (.int .u64 s.1.2)).setCell ⟨R, 2, none⟩ (.int .i64 s.2)) R 37 #[.int .u64 s.1.1, .int .u64 s.1.2, .int .i64 s.2] ∧
    Below w0.heap.size w0 (((w1.setCell ⟨R, 0, none⟩ (.int .u64 s.1.1)).setCell ⟨R, 1, none⟩ (.int .u64 s.1.2)).setCell ⟨R, 2, none⟩ (.int .i64 s.2)) := by
  refine ⟨?_, ((hb.setCell hR _).setCell hR _).setCell hR _⟩
  have k := ((h.set_ 0 (.int .u64 s.1.1)).set_ 1 (.int .u64 s.1.2)).set_ 2 (.int .i64 s.2)
  have e : ((cs.setIfInBounds 0 (.int .u64 s.1.1)).setIfInBounds 1 (.int .u64 s.1.2)).setIfInBounds 2 (.int .i64 s.2) = #[.int .u64 s.1.1, .int .u64 s.1.2, .int .i64 s.2] := by
    obtain ⟨l⟩ := cs
    rcases l with _ | ⟨a, _ | ⟨b, _ | ⟨c, _ | ⟨d, l⟩⟩⟩⟩ <;> simp at hc <;> rfl
  rwa [e] at k
theorem SpW.stored {w W : World} {gs gi : Nat} {ci : Array Value} {Aq V : Option Addr} {qs vs : List Int} (h : SpW w gs gi ci Aq qs V vs W) (s : Spt) : SpW w gs gi ci Aq qs V vs (((W.setCell ⟨gs, 0, none⟩ (.int .u64 s.1.1)).setCell ⟨gs, 1, none⟩ (.int .u64 s.1.2)).setCell ⟨gs, 2, none⟩ (.int .i64 s.2)) := by
  obtain ⟨cs, hcs, hs⟩ := h.s
  have hne : gi ≠ gs := h.i.ne_ hs (by decide)
  exact ⟨((h.bel.setCell h.hs _).setCell h.hs _).setCell h.hs _, ⟨_, by simpa using hcs, ((hs.set_ 0 _).set_ 1 _).set_ 2 _⟩, ((h.i.far hne _).far hne _).far hne _, h.hs, h.hi, ((h.q0.setCell h.hs _).setCell h.hs _).setCell h.hs _, ((h.v0.setCell h.hs _).setCell h.hs _).setCell h.hs _⟩
def aggW (s : Spt) : Value := .agg #[.int .u64 s.1.1, .int .u64 s.1.2, .int .i64 s.2]
section
variable {w : World} {N Aq : Option Addr} {nn cN nq cq : Nat} {ns : List NodeP} {en top : Int} {qs : List Int}
set_option maxHeartbeats 8000000 in
set_option maxRecDepth 100000 in
theorem wSpot_any (hx : Rd SNode w w.heap.size N ns) (hn : ns.length = nn) (hok : ∀ x ∈ ns, OkN x) (hq : Rd (Sh.int .i32) w w.heap.size Aq qs) (hnq : qs.length = nq) (hcq : nq ≤ cq) (hcq2 : cq ≤ 9223372036854775807) (hqi : I32 qs) (slot : Int) :
    Calls Try.prog 10 #[.agg #[.slice N nn cN, .int .i64 en, .int .i64 top], .slice Aq nq cq, .int .i64 slot] w fun e w' => e = .returned (aggW (spotF ns qs slot)) ∧ Below w.heap.size w w' := by
  have HNq := hide hnq
  have HQI := hide hqi
  unfold aggW
  by_cases hin : 0 ≤ slot ∧ slot < nn
  · obtain ⟨k, rfl⟩ : ∃ k : Nat, slot = k := ⟨slot.toNat, by omega⟩
    have hk0 : (0 : Int) ≤ k := by omega
    have hk1 : (k : Int) < nn := by omega
    have b0 : decide (0 ≤ (k : Int)) = true := decide_eq_true hk0
    have b1 : decide ((k : Int) < nn) = true := decide_eq_true hk1
    obtain ⟨ad, x, V, cV, L, cL, rfl, hbl, hkx, hc⟩ := hx.node (k := k) (by omega)
    have HIt := hide (show itemF ns k = x.1 by unfold itemF; rw [if_pos ⟨hk0, by omega⟩, show ((k : Int)).toNat = k by omega, hkx]; rfl)
    have HVI := hide (hok x (List.mem_of_getElem? hkx)).v
    obtain ⟨⟨id, vs, tg⟩, lv, ls, nx, pv⟩ := x
    obtain ⟨⟨d, i9, s9⟩, hd⟩ : ∃ y : Int × Int × Int, y = ((spotF ns qs k).1.1, (spotF ns qs k).1.2, (spotF ns qs k).2) := ⟨_, rfl⟩
    simp only [Prod.mk.injEq] at hd
    have HD := hide (show (spotF ns qs k) = ((distOf qs vs, id), (k : Int)) by unfold spotF; rw [HIt.out])
    rw [HD.out]
    have hbw : Below w.heap.size w (((w.alloc (.cells #[.slice (some ad) nn cN, .int .i64 en, .int .i64 top] 24)).alloc (.cells #[.int .u64 0, .int .u64 0, .int .i64 0] 37)).alloc (.cells #[.int .u64 0, .slice none 0 0, .int .u64 0] 44)) := (((Below.refl _ _).alloc (Nat.le_refl _) _).alloc (by simp) _).alloc (by simp; omega) _
    have H := hide (show SpW w (w.heap.size + 1) (w.heap.size + 1 + 1) #[.int .u64 0, .slice none 0 0, .int .u64 0] Aq qs V vs (((w.alloc (.cells #[.slice (some ad) nn cN, .int .i64 en, .int .i64 top] 24)).alloc (.cells #[.int .u64 0, .int .u64 0, .int .i64 0] 37)).alloc (.cells #[.int .u64 0, .slice none 0 0, .int .u64 0] 44)) from
      ⟨hbw, ⟨_, rfl, Blk.alloc (by have := Blk.new (w.alloc (.cells #[.slice (some ad) nn cN, .int .i64 en, .int .i64 top] 24)) 37 #[.int .u64 0, .int .u64 0, .int .i64 0]; simpa using this) _⟩, by have := Blk.new ((w.alloc (.cells #[.slice (some ad) nn cN, .int .i64 en, .int .i64 top] 24)).alloc (.cells #[.int .u64 0, .int .u64 0, .int .i64 0] 37)) 44 #[.int .u64 0, .slice none 0 0, .int .u64 0]; simpa using this, by omega, by omega, hq.below hbw (Nat.le_refl _), Rd.below hc.v hbw (Nat.le_refl _)⟩)
    have HZ0 := hide (show Blk (((w.alloc (.cells #[.slice (some ad) nn cN, .int .i64 en, .int .i64 top] 24)).alloc (.cells #[.int .u64 0, .int .u64 0, .int .i64 0] 37)).alloc (.cells #[.int .u64 0, .slice none 0 0, .int .u64 0] 44)) (w.heap.size + 1) 37 #[.int .u64 0, .int .u64 0, .int .i64 0] from Blk.alloc (by have := Blk.new (w.alloc (.cells #[.slice (some ad) nn cN, .int .i64 en, .int .i64 top] 24)) 37 #[.int .u64 0, .int .u64 0, .int .i64 0]; simpa using this) _)
    have HPl := hide (show Blk (((w.alloc (.cells #[.slice (some ad) nn cN, .int .i64 en, .int .i64 top] 24)).alloc (.cells #[.int .u64 0, .int .u64 0, .int .i64 0] 37)).alloc (.cells #[.int .u64 0, .slice none 0 0, .int .u64 0] 44)) w.heap.size 24 #[.slice (some ad) nn cN, .int .i64 en, .int .i64 top] from ((Blk.new w 24 #[.slice (some ad) nn cN, .int .i64 en, .int .i64 top]).alloc _).alloc _)
    have hba : (ad.add (k * 7)).block = ad.block := block_of_add _ _
    have hcell : ∀ p : Addr, p.block = ad.block → (((w.alloc (.cells #[.slice (some ad) nn cN, .int .i64 en, .int .i64 top] 24)).alloc (.cells #[.int .u64 0, .int .u64 0, .int .i64 0] 37)).alloc (.cells #[.int .u64 0, .slice none 0 0, .int .u64 0] 44)).cell? p = w.cell? p := fun p hp => hbw.cell (by rw [hp]; exact hbl)
    have c0 := (hcell _ hba).trans hc.c0
    have c1 := (hcell ⟨(ad.add (k * 7)).block, (ad.add (k * 7)).off + 1, none⟩ hba).trans hc.c1
    have c2 := (hcell ⟨(ad.add (k * 7)).block, (ad.add (k * 7)).off + 2, none⟩ hba).trans hc.c2
    simp only at c0 c1 c2
    have u1 : vs.length ≤ cV := hc.v1
    have u2 : cV ≤ 9223372036854775807 := hc.v2
    have p0 := HPl.out.cell 0
    have i0 := H.out.i.cell 0
    have i1 := H.out.i.cell 1
    have i2 := H.out.i.cell 2
    have f0 := H.out.i.frozen 0
    have f1 := H.out.i.frozen 1
    have f2 := H.out.i.frozen 2
    simp at p0 i0 i1 i2
    have hbi : Below w.heap.size w (((w.alloc (.cells #[.slice (some ad) nn cN, .int .i64 en, .int .i64 top] 24)).alloc (.cells #[.int .u64 0, .int .u64 0, .int .i64 0] 37)).alloc (.cells #[.int .u64 id, .slice V vs.length cV, .int .u64 tg] 44)) := (((Below.refl _ _).alloc (Nat.le_refl _) _).alloc (by simp) _).alloc (by simp; omega) _
    have HZI := hide (show Blk (((w.alloc (.cells #[.slice (some ad) nn cN, .int .i64 en, .int .i64 top] 24)).alloc (.cells #[.int .u64 0, .int .u64 0, .int .i64 0] 37)).alloc (.cells #[.int .u64 id, .slice V vs.length cV, .int .u64 tg] 44)) (w.heap.size + 1) 37 #[.int .u64 0, .int .u64 0, .int .i64 0] from Blk.alloc (by have := Blk.new (w.alloc (.cells #[.slice (some ad) nn cN, .int .i64 en, .int .i64 top] 24)) 37 #[.int .u64 0, .int .u64 0, .int .i64 0]; simpa using this) _)
    have HI2 := hide (show SpW w (w.heap.size + 1) (w.heap.size + 1 + 1) #[.int .u64 id, .slice V vs.length cV, .int .u64 tg] Aq qs V vs (((w.alloc (.cells #[.slice (some ad) nn cN, .int .i64 en, .int .i64 top] 24)).alloc (.cells #[.int .u64 0, .int .u64 0, .int .i64 0] 37)).alloc (.cells #[.int .u64 id, .slice V vs.length cV, .int .u64 tg] 44)) from ⟨hbi, ⟨_, rfl, HZI.out⟩, by have := Blk.new ((w.alloc (.cells #[.slice (some ad) nn cN, .int .i64 en, .int .i64 top] 24)).alloc (.cells #[.int .u64 0, .int .u64 0, .int .i64 0] 37)) 44 #[.int .u64 id, .slice V vs.length cV, .int .u64 tg]; simpa using this, by omega, by omega, hq.below hbi (Nat.le_refl _), Rd.below hc.v hbi (Nat.le_refl _)⟩)
    clear hbi hd hbw hcell hba hc hkx hbl hx hq hqi hnq hok hin
    go_enter Try.func10, Try.ntmps10
    go_upto_region 4 with fail
    have H2 := HI2
    have HZ := HZI
    clear c0 c1 c2 p0 i0 i1 i2 f0 f1 f2 H HPl HZ0
    clear HI2 HZI
    generalize World.alloc (World.alloc (World.alloc w _) _) _ = W2 at *
    generalize w.heap.size + 1 + 1 = gi at *
    generalize w.heap.size + 1 = gs at *
    have hvn := hide (Eq.refl vs.length)
    refine startO (S := (fun W => SpW w gs gi #[.int .u64 id, .slice V vs.length cV, .int .u64 tg] Aq qs V vs W)) 10 (by as_aux_lemma => kernel_rfl) (by as_aux_lemma => kernel_rfl) (H2.out.step (Below.refl _ _).drew) (fun hHeld => ?_)
    have HZ2 := hide HZ.out.drew
    clear H2 HZ
    generalize World.drew _ = Wd at *
    refine putsO [0, 7] [7, 0] [(30, .int .i64 k), (23, .slice Aq nq cq)] 2 rfl [23, 30] (by as_aux_lemma => kernel_rfl) (by as_aux_lemma => kernel_rfl) rfl (fun _ _ _ _ _ h => h) hHeld ?_
    refine takeO 1 24 (.fieldAddr 44 (.const (.pointer (some ⟨gi, 0, none⟩))) 1) 0 (.pointer (some ⟨gi, 1, none⟩)) (by as_aux_lemma => kernel_rfl) (by as_aux_lemma => kernel_rfl) (by as_aux_lemma => kernel_rfl) (fun _ _ _ _ _ h => h) (fun W hS => by clear hS hHeld; unfold cEv opC; as_aux_lemma => first | (go_simp; done) | (go_simp <;> rfl)) hHeld ?_
    refine takeO 4 27 (.fieldAddr 44 (.const (.pointer (some ⟨gi, 0, none⟩))) 0) 0 (.pointer (some ⟨gi, 0, none⟩)) (by as_aux_lemma => kernel_rfl) (by as_aux_lemma => kernel_rfl) (by as_aux_lemma => kernel_rfl) (fun _ _ _ _ _ h => h) (fun W hS => by clear hS hHeld; unfold cEv opC; as_aux_lemma => first | (go_simp; done) | (go_simp <;> rfl)) hHeld ?_
    refine takeO 2 25 (.load 25 (.const (.pointer (some ⟨gi, 1, none⟩)))) 25 (.slice V vs.length cV) (by as_aux_lemma => kernel_rfl) (by as_aux_lemma => kernel_rfl) (by as_aux_lemma => kernel_rfl) (fun _ _ _ _ _ h => h) (fun W hS => by have z0 := hS.i.cell 0; have z1 := hS.i.cell 1; simp at z0 z1; clear hS hHeld; unfold cEv opC; as_aux_lemma => first | (go_simp; done) | (go_simp <;> rfl)) hHeld ?_
    refine takeO 5 28 (.load 33 (.const (.pointer (some ⟨gi, 0, none⟩)))) 33 (.int .u64 id) (by as_aux_lemma => kernel_rfl) (by as_aux_lemma => kernel_rfl) (by as_aux_lemma => kernel_rfl) (fun _ _ _ _ _ h => h) (fun W hS => by have z0 := hS.i.cell 0; have z1 := hS.i.cell 1; simp at z0 z1; clear hS hHeld; unfold cEv opC; as_aux_lemma => first | (go_simp; done) | (go_simp <;> rfl)) hHeld ?_
    refine readyO [3] (by as_aux_lemma => kernel_rfl) (by simp) ?_
    refine callO 3 26 (.call { callee := .value (.func 20), args := #[.const (.slice Aq nq cq), .const (.slice V vs.length cV)], argTypes := #[25, 25] }) 33 20 #[.slice Aq nq cq, .slice V vs.length cV] (by as_aux_lemma => kernel_rfl) (by as_aux_lemma => kernel_rfl) (by unfold cEv opC; go_simp) ?_ AllReadyH.nil
    refine (dist_any Aq V nq cq vs.length cV qs vs _ hHeld.q.1 HNq.out HQI.out hcq hcq2 hHeld.q.2 rfl HVI.out u1 u2).mono ?_
    rintro e _ ⟨rfl, rfl⟩
    refine ⟨_, rfl, hHeld, fun hHeld2 => ?_⟩
    clear hHeld
    have hHeld := hHeld2
    clear hHeld2
    refine takeO 6 29 (.build 35 #[(0, .const (.int .u64 (distOf qs vs))), (1, .const (.int .u64 id))]) 35 (.agg #[.int .u64 (distOf qs vs), .int .u64 id]) (by as_aux_lemma => kernel_rfl) (by as_aux_lemma => kernel_rfl) (by as_aux_lemma => kernel_rfl) (fun _ _ _ _ _ h => h) (fun W hS => by clear hS hHeld; unfold cEv opC; as_aux_lemma => first | (go_simp; done) | (go_simp <;> rfl)) hHeld ?_
    refine takeO 8 31 (.build 37 #[(0, .const (.agg #[.int .u64 (distOf qs vs), .int .u64 id])), (1, .const (.int .i64 k))]) 37 (.agg #[.int .u64 (distOf qs vs), .int .u64 id, .int .i64 k]) (by as_aux_lemma => kernel_rfl) (by as_aux_lemma => kernel_rfl) (by as_aux_lemma => kernel_rfl) (fun _ _ _ _ _ h => h) (fun W hS => by clear hS hHeld; unfold cEv opC; as_aux_lemma => first | (go_simp; done) | (go_simp <;> rfl)) hHeld ?_
    refine readyO [9] (by as_aux_lemma => kernel_rfl) (by simp) ?_
    have hst := spot_storedW HZ2.out rfl hHeld.bel hHeld.hs ((distOf qs vs, id), (k : Int))
    simp only at hst
    have x0 := HZ2.out.cell 0
    have x1 := HZ2.out.cell 1
    have x2 := HZ2.out.cell 2
    have f0 := HZ2.out.frozen 0
    have f1 := HZ2.out.frozen 1
    have f2 := HZ2.out.frozen 2
    simp at x0 x1 x2
    refine storeO 9 (.store 37 (.const (.pointer (some ⟨gs, 0, none⟩))) (.const (.agg #[.int .u64 (distOf qs vs), .int .u64 id, .int .i64 k]))) 0 (((Wd.setCell ⟨gs, 0, none⟩ (.int .u64 (distOf qs vs))).setCell ⟨gs, 1, none⟩ (.int .u64 id)).setCell ⟨gs, 2, none⟩ (.int .i64 k)) (by as_aux_lemma => kernel_rfl) (by as_aux_lemma => kernel_rfl) (by unfold cEv opC; go_simp) (hHeld.stored ((distOf qs vs, id), (k : Int))) (fun hHeld2 => ?_) AllReadyH.nil
    clear hHeld
    have hHeld := hHeld2
    clear hHeld2
    refine doneO [(23, .slice Aq nq cq), (0, .pointer (some ⟨gi, 1, none⟩)), (0, .slice V vs.length cV), (0, .int .u64 (distOf qs vs)), (0, .pointer (some ⟨gi, 0, none⟩)), (0, .int .u64 id), (0, .agg #[.int .u64 (distOf qs vs), .int .u64 id]), (0, .int .i64 k), (0, .agg #[.int .u64 (distOf qs vs), .int .u64 id, .int .i64 k])] (by as_aux_lemma => kernel_rfl) (by as_aux_lemma => kernel_rfl) ?_
    simp only [fillG]
    go_wp2
    have q0 := hst.1.cell 0
    have q1 := hst.1.cell 1
    have q2 := hst.1.cell 2
    simp at q0 q1 q2
    exact bodyPost_ret (v := .agg #[.int .u64 (distOf qs vs), .int .u64 id, .int .i64 k]) (by simp [results, Try.results10, go_sem, q0, q1, q2]) rfl ⟨rfl, hst.2⟩
  · have HIt := hide (show itemF ns slot = (0, [], 0) by unfold itemF; rw [if_neg (by omega)])
    have HD := hide (show (spotF ns qs slot) = ((distOf qs [], 0), slot) by unfold spotF; rw [HIt.out])
    rw [HD.out]
    have hbw : Below w.heap.size w (((w.alloc (.cells #[.slice N nn cN, .int .i64 en, .int .i64 top] 24)).alloc (.cells #[.int .u64 0, .int .u64 0, .int .i64 0] 37)).alloc (.cells #[.int .u64 0, .slice none 0 0, .int .u64 0] 44)) := (((Below.refl _ _).alloc (Nat.le_refl _) _).alloc (by simp) _).alloc (by simp; omega) _
    have H2 := hide (show SpW w (w.heap.size + 1) (w.heap.size + 1 + 1) #[.int .u64 0, .slice none 0 0, .int .u64 0] Aq qs none [] (((w.alloc (.cells #[.slice N nn cN, .int .i64 en, .int .i64 top] 24)).alloc (.cells #[.int .u64 0, .int .u64 0, .int .i64 0] 37)).alloc (.cells #[.int .u64 0, .slice none 0 0, .int .u64 0] 44)) from
      ⟨hbw, ⟨_, rfl, Blk.alloc (by have := Blk.new (w.alloc (.cells #[.slice N nn cN, .int .i64 en, .int .i64 top] 24)) 37 #[.int .u64 0, .int .u64 0, .int .i64 0]; simpa using this) _⟩, by have := Blk.new ((w.alloc (.cells #[.slice N nn cN, .int .i64 en, .int .i64 top] 24)).alloc (.cells #[.int .u64 0, .int .u64 0, .int .i64 0] 37)) 44 #[.int .u64 0, .slice none 0 0, .int .u64 0]; simpa using this, by omega, by omega, hq.below hbw (Nat.le_refl _), RdR.nil⟩)
    have HZ := hide (show Blk (((w.alloc (.cells #[.slice N nn cN, .int .i64 en, .int .i64 top] 24)).alloc (.cells #[.int .u64 0, .int .u64 0, .int .i64 0] 37)).alloc (.cells #[.int .u64 0, .slice none 0 0, .int .u64 0] 44)) (w.heap.size + 1) 37 #[.int .u64 0, .int .u64 0, .int .i64 0] from Blk.alloc (by have := Blk.new (w.alloc (.cells #[.slice N nn cN, .int .i64 en, .int .i64 top] 24)) 37 #[.int .u64 0, .int .u64 0, .int .i64 0]; simpa using this) _)
    have HPl := hide (show Blk (((w.alloc (.cells #[.slice N nn cN, .int .i64 en, .int .i64 top] 24)).alloc (.cells #[.int .u64 0, .int .u64 0, .int .i64 0] 37)).alloc (.cells #[.int .u64 0, .slice none 0 0, .int .u64 0] 44)) w.heap.size 24 #[.slice N nn cN, .int .i64 en, .int .i64 top] from ((Blk.new w 24 #[.slice N nn cN, .int .i64 en, .int .i64 top]).alloc _).alloc _)
    have p0 := HPl.out.cell 0
    simp at p0
    clear hbw hx hq hqi hnq hok
    by_cases h0 : 0 ≤ slot
    · have b0 : decide (0 ≤ slot) = true := decide_eq_true h0
      have b1 : decide (slot < (nn : Int)) = false := decide_eq_false (by omega)
      go_enter Try.func10, Try.ntmps10
      go_upto_region 4 with fail
      clear p0 HPl
      generalize World.alloc (World.alloc (World.alloc w _) _) _ = W2 at *
      generalize w.heap.size + 1 + 1 = gi at *
      generalize w.heap.size + 1 = gs at *
      refine startO (S := (fun W => SpW w gs gi #[.int .u64 0, .slice none 0 0, .int .u64 0] Aq qs none [] W)) 10 (by as_aux_lemma => kernel_rfl) (by as_aux_lemma => kernel_rfl) (H2.out.step (Below.refl _ _).drew) (fun hHeld => ?_)
      have HZ2 := hide HZ.out.drew
      clear H2 HZ
      generalize World.drew _ = Wd at *
      refine putsO [0, 7] [7, 0] [(30, .int .i64 slot), (23, .slice Aq nq cq)] 2 rfl [23, 30] (by as_aux_lemma => kernel_rfl) (by as_aux_lemma => kernel_rfl) rfl (fun _ _ _ _ _ h => h) hHeld ?_
      refine takeO 1 24 (.fieldAddr 44 (.const (.pointer (some ⟨gi, 0, none⟩))) 1) 0 (.pointer (some ⟨gi, 1, none⟩)) (by as_aux_lemma => kernel_rfl) (by as_aux_lemma => kernel_rfl) (by as_aux_lemma => kernel_rfl) (fun _ _ _ _ _ h => h) (fun W hS => by clear hS hHeld; unfold cEv opC; as_aux_lemma => first | (go_simp; done) | (go_simp <;> rfl)) hHeld ?_
      refine takeO 4 27 (.fieldAddr 44 (.const (.pointer (some ⟨gi, 0, none⟩))) 0) 0 (.pointer (some ⟨gi, 0, none⟩)) (by as_aux_lemma => kernel_rfl) (by as_aux_lemma => kernel_rfl) (by as_aux_lemma => kernel_rfl) (fun _ _ _ _ _ h => h) (fun W hS => by clear hS hHeld; unfold cEv opC; as_aux_lemma => first | (go_simp; done) | (go_simp <;> rfl)) hHeld ?_
      refine takeO 2 25 (.load 25 (.const (.pointer (some ⟨gi, 1, none⟩)))) 25 (.slice none 0 0) (by as_aux_lemma => kernel_rfl) (by as_aux_lemma => kernel_rfl) (by as_aux_lemma => kernel_rfl) (fun _ _ _ _ _ h => h) (fun W hS => by have z0 := hS.i.cell 0; have z1 := hS.i.cell 1; simp at z0 z1; clear hS hHeld; unfold cEv opC; as_aux_lemma => first | (go_simp; done) | (go_simp <;> rfl)) hHeld ?_
      refine takeO 5 28 (.load 33 (.const (.pointer (some ⟨gi, 0, none⟩)))) 33 (.int .u64 0) (by as_aux_lemma => kernel_rfl) (by as_aux_lemma => kernel_rfl) (by as_aux_lemma => kernel_rfl) (fun _ _ _ _ _ h => h) (fun W hS => by have z0 := hS.i.cell 0; have z1 := hS.i.cell 1; simp at z0 z1; clear hS hHeld; unfold cEv opC; as_aux_lemma => first | (go_simp; done) | (go_simp <;> rfl)) hHeld ?_
      refine readyO [3] (by as_aux_lemma => kernel_rfl) (by simp) ?_
      refine callO 3 26 (.call { callee := .value (.func 20), args := #[.const (.slice Aq nq cq), .const (.slice none 0 0)], argTypes := #[25, 25] }) 33 20 #[.slice Aq nq cq, .slice none 0 0] (by as_aux_lemma => kernel_rfl) (by as_aux_lemma => kernel_rfl) (by unfold cEv opC; go_simp) ?_ AllReadyH.nil
      refine (dist_any Aq none nq cq 0 0 qs [] _ hHeld.q.1 HNq.out HQI.out hcq hcq2 hHeld.q.2 rfl (fun y hy => by simp at hy) (by omega) (by omega)).mono ?_
      rintro e _ ⟨rfl, rfl⟩
      refine ⟨_, rfl, hHeld, fun hHeld2 => ?_⟩
      clear hHeld
      have hHeld := hHeld2
      clear hHeld2
      refine takeO 6 29 (.build 35 #[(0, .const (.int .u64 (distOf qs []))), (1, .const (.int .u64 0))]) 35 (.agg #[.int .u64 (distOf qs []), .int .u64 0]) (by as_aux_lemma => kernel_rfl) (by as_aux_lemma => kernel_rfl) (by as_aux_lemma => kernel_rfl) (fun _ _ _ _ _ h => h) (fun W hS => by clear hS hHeld; unfold cEv opC; as_aux_lemma => first | (go_simp; done) | (go_simp <;> rfl)) hHeld ?_
      refine takeO 8 31 (.build 37 #[(0, .const (.agg #[.int .u64 (distOf qs []), .int .u64 0])), (1, .const (.int .i64 slot))]) 37 (.agg #[.int .u64 (distOf qs []), .int .u64 0, .int .i64 slot]) (by as_aux_lemma => kernel_rfl) (by as_aux_lemma => kernel_rfl) (by as_aux_lemma => kernel_rfl) (fun _ _ _ _ _ h => h) (fun W hS => by clear hS hHeld; unfold cEv opC; as_aux_lemma => first | (go_simp; done) | (go_simp <;> rfl)) hHeld ?_
      refine readyO [9] (by as_aux_lemma => kernel_rfl) (by simp) ?_
      have hst := spot_storedW HZ2.out rfl hHeld.bel hHeld.hs ((distOf qs [], 0), (slot : Int))
      simp only at hst
      have x0 := HZ2.out.cell 0
      have x1 := HZ2.out.cell 1
      have x2 := HZ2.out.cell 2
      have f0 := HZ2.out.frozen 0
      have f1 := HZ2.out.frozen 1
      have f2 := HZ2.out.frozen 2
      simp at x0 x1 x2
      refine storeO 9 (.store 37 (.const (.pointer (some ⟨gs, 0, none⟩))) (.const (.agg #[.int .u64 (distOf qs []), .int .u64 0, .int .i64 slot]))) 0 (((Wd.setCell ⟨gs, 0, none⟩ (.int .u64 (distOf qs []))).setCell ⟨gs, 1, none⟩ (.int .u64 0)).setCell ⟨gs, 2, none⟩ (.int .i64 slot)) (by as_aux_lemma => kernel_rfl) (by as_aux_lemma => kernel_rfl) (by unfold cEv opC; go_simp) (hHeld.stored ((distOf qs [], 0), (slot : Int))) (fun hHeld2 => ?_) AllReadyH.nil
      clear hHeld
      have hHeld := hHeld2
      clear hHeld2
      refine doneO [(23, .slice Aq nq cq), (0, .pointer (some ⟨gi, 1, none⟩)), (0, .slice none 0 0), (0, .int .u64 (distOf qs [])), (0, .pointer (some ⟨gi, 0, none⟩)), (0, .int .u64 0), (0, .agg #[.int .u64 (distOf qs []), .int .u64 0]), (0, .int .i64 slot), (0, .agg #[.int .u64 (distOf qs []), .int .u64 0, .int .i64 slot])] (by as_aux_lemma => kernel_rfl) (by as_aux_lemma => kernel_rfl) ?_
      simp only [fillG]
      go_wp2
      have q0 := hst.1.cell 0
      have q1 := hst.1.cell 1
      have q2 := hst.1.cell 2
      simp at q0 q1 q2
      exact bodyPost_ret (v := .agg #[.int .u64 (distOf qs []), .int .u64 0, .int .i64 slot]) (by simp [results, Try.results10, go_sem, q0, q1, q2]) rfl ⟨rfl, hst.2⟩
    · have b0 : decide (0 ≤ slot) = false := decide_eq_false h0
      go_enter Try.func10, Try.ntmps10
      go_upto_region 4 with fail
      clear p0 HPl
      generalize World.alloc (World.alloc (World.alloc w _) _) _ = W2 at *
      generalize w.heap.size + 1 + 1 = gi at *
      generalize w.heap.size + 1 = gs at *
      refine startO (S := (fun W => SpW w gs gi #[.int .u64 0, .slice none 0 0, .int .u64 0] Aq qs none [] W)) 10 (by as_aux_lemma => kernel_rfl) (by as_aux_lemma => kernel_rfl) (H2.out.step (Below.refl _ _).drew) (fun hHeld => ?_)
      have HZ2 := hide HZ.out.drew
      clear H2 HZ
      generalize World.drew _ = Wd at *
      refine putsO [0, 7] [7, 0] [(30, .int .i64 slot), (23, .slice Aq nq cq)] 2 rfl [23, 30] (by as_aux_lemma => kernel_rfl) (by as_aux_lemma => kernel_rfl) rfl (fun _ _ _ _ _ h => h) hHeld ?_
      refine takeO 1 24 (.fieldAddr 44 (.const (.pointer (some ⟨gi, 0, none⟩))) 1) 0 (.pointer (some ⟨gi, 1, none⟩)) (by as_aux_lemma => kernel_rfl) (by as_aux_lemma => kernel_rfl) (by as_aux_lemma => kernel_rfl) (fun _ _ _ _ _ h => h) (fun W hS => by clear hS hHeld; unfold cEv opC; as_aux_lemma => first | (go_simp; done) | (go_simp <;> rfl)) hHeld ?_
      refine takeO 4 27 (.fieldAddr 44 (.const (.pointer (some ⟨gi, 0, none⟩))) 0) 0 (.pointer (some ⟨gi, 0, none⟩)) (by as_aux_lemma => kernel_rfl) (by as_aux_lemma => kernel_rfl) (by as_aux_lemma => kernel_rfl) (fun _ _ _ _ _ h => h) (fun W hS => by clear hS hHeld; unfold cEv opC; as_aux_lemma => first | (go_simp; done) | (go_simp <;> rfl)) hHeld ?_
      refine takeO 2 25 (.load 25 (.const (.pointer (some ⟨gi, 1, none⟩)))) 25 (.slice none 0 0) (by as_aux_lemma => kernel_rfl) (by as_aux_lemma => kernel_rfl) (by as_aux_lemma => kernel_rfl) (fun _ _ _ _ _ h => h) (fun W hS => by have z0 := hS.i.cell 0; have z1 := hS.i.cell 1; simp at z0 z1; clear hS hHeld; unfold cEv opC; as_aux_lemma => first | (go_simp; done) | (go_simp <;> rfl)) hHeld ?_
      refine takeO 5 28 (.load 33 (.const (.pointer (some ⟨gi, 0, none⟩)))) 33 (.int .u64 0) (by as_aux_lemma => kernel_rfl) (by as_aux_lemma => kernel_rfl) (by as_aux_lemma => kernel_rfl) (fun _ _ _ _ _ h => h) (fun W hS => by have z0 := hS.i.cell 0; have z1 := hS.i.cell 1; simp at z0 z1; clear hS hHeld; unfold cEv opC; as_aux_lemma => first | (go_simp; done) | (go_simp <;> rfl)) hHeld ?_
      refine readyO [3] (by as_aux_lemma => kernel_rfl) (by simp) ?_
      refine callO 3 26 (.call { callee := .value (.func 20), args := #[.const (.slice Aq nq cq), .const (.slice none 0 0)], argTypes := #[25, 25] }) 33 20 #[.slice Aq nq cq, .slice none 0 0] (by as_aux_lemma => kernel_rfl) (by as_aux_lemma => kernel_rfl) (by unfold cEv opC; go_simp) ?_ AllReadyH.nil
      refine (dist_any Aq none nq cq 0 0 qs [] _ hHeld.q.1 HNq.out HQI.out hcq hcq2 hHeld.q.2 rfl (fun y hy => by simp at hy) (by omega) (by omega)).mono ?_
      rintro e _ ⟨rfl, rfl⟩
      refine ⟨_, rfl, hHeld, fun hHeld2 => ?_⟩
      clear hHeld
      have hHeld := hHeld2
      clear hHeld2
      refine takeO 6 29 (.build 35 #[(0, .const (.int .u64 (distOf qs []))), (1, .const (.int .u64 0))]) 35 (.agg #[.int .u64 (distOf qs []), .int .u64 0]) (by as_aux_lemma => kernel_rfl) (by as_aux_lemma => kernel_rfl) (by as_aux_lemma => kernel_rfl) (fun _ _ _ _ _ h => h) (fun W hS => by clear hS hHeld; unfold cEv opC; as_aux_lemma => first | (go_simp; done) | (go_simp <;> rfl)) hHeld ?_
      refine takeO 8 31 (.build 37 #[(0, .const (.agg #[.int .u64 (distOf qs []), .int .u64 0])), (1, .const (.int .i64 slot))]) 37 (.agg #[.int .u64 (distOf qs []), .int .u64 0, .int .i64 slot]) (by as_aux_lemma => kernel_rfl) (by as_aux_lemma => kernel_rfl) (by as_aux_lemma => kernel_rfl) (fun _ _ _ _ _ h => h) (fun W hS => by clear hS hHeld; unfold cEv opC; as_aux_lemma => first | (go_simp; done) | (go_simp <;> rfl)) hHeld ?_
      refine readyO [9] (by as_aux_lemma => kernel_rfl) (by simp) ?_
      have hst := spot_storedW HZ2.out rfl hHeld.bel hHeld.hs ((distOf qs [], 0), (slot : Int))
      simp only at hst
      have x0 := HZ2.out.cell 0
      have x1 := HZ2.out.cell 1
      have x2 := HZ2.out.cell 2
      have f0 := HZ2.out.frozen 0
      have f1 := HZ2.out.frozen 1
      have f2 := HZ2.out.frozen 2
      simp at x0 x1 x2
      refine storeO 9 (.store 37 (.const (.pointer (some ⟨gs, 0, none⟩))) (.const (.agg #[.int .u64 (distOf qs []), .int .u64 0, .int .i64 slot]))) 0 (((Wd.setCell ⟨gs, 0, none⟩ (.int .u64 (distOf qs []))).setCell ⟨gs, 1, none⟩ (.int .u64 0)).setCell ⟨gs, 2, none⟩ (.int .i64 slot)) (by as_aux_lemma => kernel_rfl) (by as_aux_lemma => kernel_rfl) (by unfold cEv opC; go_simp) (hHeld.stored ((distOf qs [], 0), (slot : Int))) (fun hHeld2 => ?_) AllReadyH.nil
      clear hHeld
      have hHeld := hHeld2
      clear hHeld2
      refine doneO [(23, .slice Aq nq cq), (0, .pointer (some ⟨gi, 1, none⟩)), (0, .slice none 0 0), (0, .int .u64 (distOf qs [])), (0, .pointer (some ⟨gi, 0, none⟩)), (0, .int .u64 0), (0, .agg #[.int .u64 (distOf qs []), .int .u64 0]), (0, .int .i64 slot), (0, .agg #[.int .u64 (distOf qs []), .int .u64 0, .int .i64 slot])] (by as_aux_lemma => kernel_rfl) (by as_aux_lemma => kernel_rfl) ?_
      simp only [fillG]
      go_wp2
      have q0 := hst.1.cell 0
      have q1 := hst.1.cell 1
      have q2 := hst.1.cell 2
      simp at q0 q1 q2
      exact bodyPost_ret (v := .agg #[.int .u64 (distOf qs []), .int .u64 0, .int .i64 slot]) (by simp [results, Try.results10, go_sem, q0, q1, q2]) rfl ⟨rfl, hst.2⟩
end
end Go.Proofs.Ytphbdffgeeicaad
