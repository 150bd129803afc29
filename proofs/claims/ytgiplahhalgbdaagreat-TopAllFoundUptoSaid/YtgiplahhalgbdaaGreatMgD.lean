/-
  Texts of one part, put together. No condition.
-/
import Derived.Test.YtgiplahhalgbdaaGreatMgE
import Derived.Test.YtgiplahhalgbdaaGreatMgI
import Derived.Test.YtgiplahhalgbdaaGreatMgJ
import Derived.Test.YtgiplahhalgbdaaGreatMgX
/-
  The package walk: Spot. Conditions: the slice of nodes reads as a list.
-/
namespace Go.Proofs.YtgiplahhalgbdaaGreat
set_option linter.unusedSimpArgs false
set_option linter.unusedVariables false
open Go.RowKit

/-- the function's variables, its vectors -/
structure SpW (w : World) (gs gi : Nat) (ci : Array Value) (Aq : Option Addr) (qs : List Int) (V : Option Addr) (vs : List Int) (W : World) : Prop where
  bel : Below w.heap.size w W
  s : ∃ cs : Array Value, cs.size = 3 ∧ Blk W gs 60 cs
  i : Blk W gi 50 ci
  hs : w.heap.size ≤ gs
  hi : w.heap.size ≤ gi
  q0 : Rd (Sh.int .i32) W w.heap.size Aq qs
  v0 : Rd (Sh.int .i32) W w.heap.size V vs
theorem SpW.q {w W : World} {gs gi : Nat} {ci : Array Value} {Aq V : Option Addr} {qs vs : List Int} (h : SpW w gs gi ci Aq qs V vs W) : Rd (Sh.int .i32) W W.heap.size Aq qs ∧ Rd (Sh.int .i32) W W.heap.size V vs := ⟨h.q0.more h.bel.size, h.v0.more h.bel.size⟩
theorem SpW.step {w W W' : World} {gs gi : Nat} {ci : Array Value} {Aq V : Option Addr} {qs vs : List Int} (h : SpW w gs gi ci Aq qs V vs W) (hb : Below W.heap.size W W') : SpW w gs gi ci Aq qs V vs W' :=
  ⟨Below.step h.bel hb, h.s.elim fun cs k => ⟨cs, k.1, k.2.below hb k.2.lt⟩, h.i.below hb h.i.lt, h.hs, h.hi, h.q0.below hb h.bel.size, h.v0.below hb h.bel.size⟩
theorem SpW.item {w W : World} {gs gi : Nat} {Aq V : Option Addr} {qs vs : List Int} {a b c : Value} (h : SpW w gs gi #[.int .u64 0, .slice none 0 0, .int .u64 0] Aq qs V vs W) : SpW w gs gi #[a, b, c] Aq qs V vs (((W.setCell ⟨gi, 0, none⟩ a).setCell ⟨gi, 1, none⟩ b).setCell ⟨gi, 2, none⟩ c) := by
  obtain ⟨cs, hcs, hs⟩ := h.s
  have hne : gs ≠ gi := hs.ne_ h.i (by decide)
  exact ⟨((h.bel.setCell h.hi _).setCell h.hi _).setCell h.hi _, ⟨cs, hcs, ((hs.far hne _).far hne _).far hne _⟩, by have := ((h.i.set_ 0 a).set_ 1 b).set_ 2 c; simpa using this, h.hs, h.hi, ((h.q0.setCell h.hi _).setCell h.hi _).setCell h.hi _, ((h.v0.setCell h.hi _).setCell h.hi _).setCell h.hi _⟩
theorem spot_storedW {w0 w1 : World} {R : Nat} {cs : Array Value} (h : Blk w1 R 60 cs) (hc : cs.size = 3) (hb : Below w0.heap.size w0 w1) (hR : w0.heap.size ≤ R) (s : Spt) :
    Blk (((w1.setCell ⟨R, 0, none⟩ (.int .u64 s.1.1)).setCell ⟨R, 1, none⟩ (.int .u64 s.1.2)).setCell ⟨R, 2, none⟩ (.int .i64 s.2)) R 60 #[.int .u64 s.1.1, .int .u64 s.1.2, .int .i64 s.2] ∧
    Below w0.heap.size w0 (((w1.setCell ⟨R, 0, none⟩ (.int .u64 s.1.1)).setCell ⟨R, 1, none⟩ (.int .u64 s.1.2)).setCell ⟨R, 2, none⟩ (.int .i64 s.2)) := by
  refine ⟨?_, ((hb.setCell hR _).setCell hR _).setCell hR _⟩
  have k := ((h.set_ 0 (.int .u64 s.1.1)).set_ 1 (.int .u64 s.1.2)).set_ 2 (.int .i64 s.2)
  have e : ((cs.setIfInBounds 0 (.int .u64 s.1.1)).setIfInBounds 1 (.int .u64 s.1.2)).setIfInBounds 2 (.int .i64 s.2) = #[.int .u64 s.1.1, .int .u64 s.1.2, .int .i64 s.2] := by
    obtain ⟨l⟩ := cs
    rcases l with _ | ⟨a, _ | ⟨b, _ | ⟨c, _ | ⟨d, l⟩⟩⟩⟩ <;> simp at hc <;> rfl
  rwa [e] at k
theorem SpW.stored {w W : World} {gs gi : Nat} {ci : Array Value} {Aq V : Option Addr} {qs vs : List Int} (h : SpW w gs gi ci Aq qs V vs W) (s : Spt) : SpW w gs gi ci Aq qs V vs (((W.setCell ⟨gs, 0, none⟩ (.int .u64 s.1.1)).setCell ⟨gs, 1, none⟩ (.int .u64 s.1.2)).setCell ⟨gs, 2, none⟩ (.int .i64 s.2)) := by
  obtain ⟨cs, hcs, hs⟩ := h.s
  have hne : gi ≠ gs := h.i.ne_ hs (by decide)
  exact ⟨((h.bel.setCell h.hs _).setCell h.hs _).setCell h.hs _, ⟨_, by simpa using hcs, ((hs.set_ 0 _).set_ 1 _).set_ 2 _⟩, ((h.i.far hne _).far hne _).far hne _, h.hs, h.hi, ((h.q0.setCell h.hs _).setCell h.hs _).setCell h.hs _, ((h.v0.setCell h.hs _).setCell h.hs _).setCell h.hs _⟩
def aggW (s : Spt) : Value := .agg #[.int .u64 s.1.1, .int .u64 s.1.2, .int .i64 s.2]
section
variable {w : World} {N Aq : Option Addr} {nn cN nq cq : Nat} {ns : List NodeP} {en top : Int} {qs : List Int}
set_option maxHeartbeats 8000000 in
set_option maxRecDepth 100000 in
theorem wSpot_any (hx : Rd SNode w w.heap.size N ns) (hn : ns.length = nn) (hok : ∀ x ∈ ns, OkN x) (hq : Rd (Sh.int .i32) w w.heap.size Aq qs) (hnq : qs.length = nq) (hcq : nq ≤ cq) (hcq2 : cq ≤ 9223372036854775807) (hqi : I32 qs) (slot : Int) :
    Calls Tryz.prog 104 #[.agg #[.slice N nn cN, .int .i64 en, .int .i64 top], .slice Aq nq cq, .int .i64 slot] w fun e w' => e = .returned (aggW (spotF ns qs slot)) ∧ Below w.heap.size w w' := by
  have HNq := hide hnq
  have HQI := hide hqi
  unfold aggW
  by_cases hin : 0 ≤ slot ∧ slot < nn
  · obtain ⟨k, rfl⟩ : ∃ k : Nat, slot = k := ⟨slot.toNat, by omega⟩
    have hk0 : (0 : Int) ≤ k := by omega
    have hk1 : (k : Int) < nn := by omega
    have b0 : decide (0 ≤ (k : Int)) = true := decide_eq_true hk0
    have b1 : decide ((k : Int) < nn) = true := decide_eq_true hk1
    obtain ⟨ad, x, V, cV, L, cL, rfl, hbl, hkx, hc⟩ := hx.node (k := k) (by omega)
    have HIt := hide (show itemF ns k = x.1 by unfold itemF; rw [if_pos ⟨hk0, by omega⟩, show ((k : Int)).toNat = k by omega, hkx]; rfl)
    have HVI := hide (hok x (List.mem_of_getElem? hkx)).v
    obtain ⟨⟨id, vs, tg⟩, lv, ls, nx, pv⟩ := x
    obtain ⟨⟨d, i9, s9⟩, hd⟩ : ∃ y : Int × Int × Int, y = ((spotF ns qs k).1.1, (spotF ns qs k).1.2, (spotF ns qs k).2) := ⟨_, rfl⟩
    simp only [Prod.mk.injEq] at hd
    have HD := hide (show (spotF ns qs k) = ((distOf qs vs, id), (k : Int)) by unfold spotF; rw [HIt.out])
    rw [HD.out]
    have hbw : Below w.heap.size w (((w.alloc (.cells #[.slice (some ad) nn cN, .int .i64 en, .int .i64 top] 24)).alloc (.cells #[.int .u64 0, .int .u64 0, .int .i64 0] 60)).alloc (.cells #[.int .u64 0, .slice none 0 0, .int .u64 0] 50)) := (((Below.refl _ _).alloc (Nat.le_refl _) _).alloc (by simp) _).alloc (by simp; omega) _
    have H := hide (show SpW w (w.heap.size + 1) (w.heap.size + 1 + 1) #[.int .u64 0, .slice none 0 0, .int .u64 0] Aq qs V vs (((w.alloc (.cells #[.slice (some ad) nn cN, .int .i64 en, .int .i64 top] 24)).alloc (.cells #[.int .u64 0, .int .u64 0, .int .i64 0] 60)).alloc (.cells #[.int .u64 0, .slice none 0 0, .int .u64 0] 50)) from
      ⟨hbw, ⟨_, rfl, Blk.alloc (by have := Blk.new (w.alloc (.cells #[.slice (some ad) nn cN, .int .i64 en, .int .i64 top] 24)) 60 #[.int .u64 0, .int .u64 0, .int .i64 0]; simpa using this) _⟩, by have := Blk.new ((w.alloc (.cells #[.slice (some ad) nn cN, .int .i64 en, .int .i64 top] 24)).alloc (.cells #[.int .u64 0, .int .u64 0, .int .i64 0] 60)) 50 #[.int .u64 0, .slice none 0 0, .int .u64 0]; simpa using this, by omega, by omega, hq.below hbw (Nat.le_refl _), Rd.below hc.v hbw (Nat.le_refl _)⟩)
    have HZ0 := hide (show Blk (((w.alloc (.cells #[.slice (some ad) nn cN, .int .i64 en, .int .i64 top] 24)).alloc (.cells #[.int .u64 0, .int .u64 0, .int .i64 0] 60)).alloc (.cells #[.int .u64 0, .slice none 0 0, .int .u64 0] 50)) (w.heap.size + 1) 60 #[.int .u64 0, .int .u64 0, .int .i64 0] from Blk.alloc (by have := Blk.new (w.alloc (.cells #[.slice (some ad) nn cN, .int .i64 en, .int .i64 top] 24)) 60 #[.int .u64 0, .int .u64 0, .int .i64 0]; simpa using this) _)
    have HPl := hide (show Blk (((w.alloc (.cells #[.slice (some ad) nn cN, .int .i64 en, .int .i64 top] 24)).alloc (.cells #[.int .u64 0, .int .u64 0, .int .i64 0] 60)).alloc (.cells #[.int .u64 0, .slice none 0 0, .int .u64 0] 50)) w.heap.size 24 #[.slice (some ad) nn cN, .int .i64 en, .int .i64 top] from ((Blk.new w 24 #[.slice (some ad) nn cN, .int .i64 en, .int .i64 top]).alloc _).alloc _)
    have hba : (ad.add (k * 7)).block = ad.block := block_of_add _ _
    have hcell : ∀ p : Addr, p.block = ad.block → (((w.alloc (.cells #[.slice (some ad) nn cN, .int .i64 en, .int .i64 top] 24)).alloc (.cells #[.int .u64 0, .int .u64 0, .int .i64 0] 60)).alloc (.cells #[.int .u64 0, .slice none 0 0, .int .u64 0] 50)).cell? p = w.cell? p := fun p hp => hbw.cell (by rw [hp]; exact hbl)
    have c0 := (hcell _ hba).trans hc.c0
    have c1 := (hcell ⟨(ad.add (k * 7)).block, (ad.add (k * 7)).off + 1, none⟩ hba).trans hc.c1
    have c2 := (hcell ⟨(ad.add (k * 7)).block, (ad.add (k * 7)).off + 2, none⟩ hba).trans hc.c2
    simp only at c0 c1 c2
    have u1 : vs.length ≤ cV := hc.v1
    have u2 : cV ≤ 9223372036854775807 := hc.v2
    have p0 := HPl.out.cell 0
    have i0 := H.out.i.cell 0
    have i1 := H.out.i.cell 1
    have i2 := H.out.i.cell 2
    have f0 := H.out.i.frozen 0
    have f1 := H.out.i.frozen 1
    have f2 := H.out.i.frozen 2
    simp at p0 i0 i1 i2
    have hbi : Below w.heap.size w (((w.alloc (.cells #[.slice (some ad) nn cN, .int .i64 en, .int .i64 top] 24)).alloc (.cells #[.int .u64 0, .int .u64 0, .int .i64 0] 60)).alloc (.cells #[.int .u64 id, .slice V vs.length cV, .int .u64 tg] 50)) := (((Below.refl _ _).alloc (Nat.le_refl _) _).alloc (by simp) _).alloc (by simp; omega) _
    have HZI := hide (show Blk (((w.alloc (.cells #[.slice (some ad) nn cN, .int .i64 en, .int .i64 top] 24)).alloc (.cells #[.int .u64 0, .int .u64 0, .int .i64 0] 60)).alloc (.cells #[.int .u64 id, .slice V vs.length cV, .int .u64 tg] 50)) (w.heap.size + 1) 60 #[.int .u64 0, .int .u64 0, .int .i64 0] from Blk.alloc (by have := Blk.new (w.alloc (.cells #[.slice (some ad) nn cN, .int .i64 en, .int .i64 top] 24)) 60 #[.int .u64 0, .int .u64 0, .int .i64 0]; simpa using this) _)
    have HI2 := hide (show SpW w (w.heap.size + 1) (w.heap.size + 1 + 1) #[.int .u64 id, .slice V vs.length cV, .int .u64 tg] Aq qs V vs (((w.alloc (.cells #[.slice (some ad) nn cN, .int .i64 en, .int .i64 top] 24)).alloc (.cells #[.int .u64 0, .int .u64 0, .int .i64 0] 60)).alloc (.cells #[.int .u64 id, .slice V vs.length cV, .int .u64 tg] 50)) from ⟨hbi, ⟨_, rfl, HZI.out⟩, by have := Blk.new ((w.alloc (.cells #[.slice (some ad) nn cN, .int .i64 en, .int .i64 top] 24)).alloc (.cells #[.int .u64 0, .int .u64 0, .int .i64 0] 60)) 50 #[.int .u64 id, .slice V vs.length cV, .int .u64 tg]; simpa using this, by omega, by omega, hq.below hbi (Nat.le_refl _), Rd.below hc.v hbi (Nat.le_refl _)⟩)
    clear hbi hd hbw hcell hba hc hkx hbl hx hq hqi hnq hok hin
    go_enter Tryz.func104, Tryz.ntmps104
    go_upto_region 4 with fail
    have H2 := HI2
    have HZ := HZI
    clear c0 c1 c2 p0 i0 i1 i2 f0 f1 f2 H HPl HZ0
    clear HI2 HZI
    generalize World.alloc (World.alloc (World.alloc w _) _) _ = W2 at *
    generalize w.heap.size + 1 + 1 = gi at *
    generalize w.heap.size + 1 = gs at *
    have hvn := hide (Eq.refl vs.length)
    refine startO (S := (fun W => SpW w gs gi #[.int .u64 id, .slice V vs.length cV, .int .u64 tg] Aq qs V vs W)) 10 (by as_aux_lemma => kernel_rfl) (by as_aux_lemma => kernel_rfl) (H2.out.step (Below.refl _ _).drew) (fun hHeld => ?_)
    have HZ2 := hide HZ.out.drew
    clear H2 HZ
    generalize World.drew _ = Wd at *
    refine putsO [0, 7] [7, 0] [(30, .int .i64 k), (23, .slice Aq nq cq)] 2 rfl [23, 30] (by as_aux_lemma => kernel_rfl) (by as_aux_lemma => kernel_rfl) rfl (fun _ _ _ _ _ h => h) hHeld ?_
    refine takeO 1 24 (.fieldAddr 50 (.const (.pointer (some ⟨gi, 0, none⟩))) 1) 0 (.pointer (some ⟨gi, 1, none⟩)) (by as_aux_lemma => kernel_rfl) (by as_aux_lemma => kernel_rfl) (by as_aux_lemma => kernel_rfl) (fun _ _ _ _ _ h => h) (fun W hS => by clear hS hHeld; unfold cEv opC; as_aux_lemma => first | (go_simp; done) | (go_simp <;> rfl)) hHeld ?_
    refine takeO 4 27 (.fieldAddr 50 (.const (.pointer (some ⟨gi, 0, none⟩))) 0) 0 (.pointer (some ⟨gi, 0, none⟩)) (by as_aux_lemma => kernel_rfl) (by as_aux_lemma => kernel_rfl) (by as_aux_lemma => kernel_rfl) (fun _ _ _ _ _ h => h) (fun W hS => by clear hS hHeld; unfold cEv opC; as_aux_lemma => first | (go_simp; done) | (go_simp <;> rfl)) hHeld ?_
    refine takeO 2 25 (.load 25 (.const (.pointer (some ⟨gi, 1, none⟩)))) 25 (.slice V vs.length cV) (by as_aux_lemma => kernel_rfl) (by as_aux_lemma => kernel_rfl) (by as_aux_lemma => kernel_rfl) (fun _ _ _ _ _ h => h) (fun W hS => by have z0 := hS.i.cell 0; have z1 := hS.i.cell 1; simp at z0 z1; clear hS hHeld; unfold cEv opC; as_aux_lemma => first | (go_simp; done) | (go_simp <;> rfl)) hHeld ?_
    refine takeO 5 28 (.load 26 (.const (.pointer (some ⟨gi, 0, none⟩)))) 26 (.int .u64 id) (by as_aux_lemma => kernel_rfl) (by as_aux_lemma => kernel_rfl) (by as_aux_lemma => kernel_rfl) (fun _ _ _ _ _ h => h) (fun W hS => by have z0 := hS.i.cell 0; have z1 := hS.i.cell 1; simp at z0 z1; clear hS hHeld; unfold cEv opC; as_aux_lemma => first | (go_simp; done) | (go_simp <;> rfl)) hHeld ?_
    refine readyO [3] (by as_aux_lemma => kernel_rfl) (by simp) ?_
    refine callO 3 26 (.call { callee := .value (.func 39), args := #[.const (.slice Aq nq cq), .const (.slice V vs.length cV)], argTypes := #[25, 25] }) 26 39 #[.slice Aq nq cq, .slice V vs.length cV] (by as_aux_lemma => kernel_rfl) (by as_aux_lemma => kernel_rfl) (by unfold cEv opC; go_simp) ?_ AllReadyH.nil
    refine (dist_any Aq V nq cq vs.length cV qs vs _ hHeld.q.1 HNq.out HQI.out hcq hcq2 hHeld.q.2 rfl HVI.out u1 u2).mono ?_
    rintro e _ ⟨rfl, rfl⟩
    refine ⟨_, rfl, hHeld, fun hHeld2 => ?_⟩
    clear hHeld
    have hHeld := hHeld2
    clear hHeld2
    refine takeO 6 29 (.build 42 #[(0, .const (.int .u64 (distOf qs vs))), (1, .const (.int .u64 id))]) 42 (.agg #[.int .u64 (distOf qs vs), .int .u64 id]) (by as_aux_lemma => kernel_rfl) (by as_aux_lemma => kernel_rfl) (by as_aux_lemma => kernel_rfl) (fun _ _ _ _ _ h => h) (fun W hS => by clear hS hHeld; unfold cEv opC; as_aux_lemma => first | (go_simp; done) | (go_simp <;> rfl)) hHeld ?_
    refine takeO 8 31 (.build 60 #[(0, .const (.agg #[.int .u64 (distOf qs vs), .int .u64 id])), (1, .const (.int .i64 k))]) 60 (.agg #[.int .u64 (distOf qs vs), .int .u64 id, .int .i64 k]) (by as_aux_lemma => kernel_rfl) (by as_aux_lemma => kernel_rfl) (by as_aux_lemma => kernel_rfl) (fun _ _ _ _ _ h => h) (fun W hS => by clear hS hHeld; unfold cEv opC; as_aux_lemma => first | (go_simp; done) | (go_simp <;> rfl)) hHeld ?_
    refine readyO [9] (by as_aux_lemma => kernel_rfl) (by simp) ?_
    have hst := spot_storedW HZ2.out rfl hHeld.bel hHeld.hs ((distOf qs vs, id), (k : Int))
    simp only at hst
    have x0 := HZ2.out.cell 0
    have x1 := HZ2.out.cell 1
    have x2 := HZ2.out.cell 2
    have f0 := HZ2.out.frozen 0
    have f1 := HZ2.out.frozen 1
    have f2 := HZ2.out.frozen 2
    simp at x0 x1 x2
    refine storeO 9 (.store 60 (.const (.pointer (some ⟨gs, 0, none⟩))) (.const (.agg #[.int .u64 (distOf qs vs), .int .u64 id, .int .i64 k]))) 0 (((Wd.setCell ⟨gs, 0, none⟩ (.int .u64 (distOf qs vs))).setCell ⟨gs, 1, none⟩ (.int .u64 id)).setCell ⟨gs, 2, none⟩ (.int .i64 k)) (by as_aux_lemma => kernel_rfl) (by as_aux_lemma => kernel_rfl) (by unfold cEv opC; go_simp) (hHeld.stored ((distOf qs vs, id), (k : Int))) (fun hHeld2 => ?_) AllReadyH.nil
    clear hHeld
    have hHeld := hHeld2
    clear hHeld2
    refine doneO [(23, .slice Aq nq cq), (0, .pointer (some ⟨gi, 1, none⟩)), (0, .slice V vs.length cV), (0, .int .u64 (distOf qs vs)), (0, .pointer (some ⟨gi, 0, none⟩)), (0, .int .u64 id), (0, .agg #[.int .u64 (distOf qs vs), .int .u64 id]), (0, .int .i64 k), (0, .agg #[.int .u64 (distOf qs vs), .int .u64 id, .int .i64 k])] (by as_aux_lemma => kernel_rfl) (by as_aux_lemma => kernel_rfl) ?_
    simp only [fillG]
    go_wp2
    have q0 := hst.1.cell 0
    have q1 := hst.1.cell 1
    have q2 := hst.1.cell 2
    simp at q0 q1 q2
    exact bodyPost_ret (v := .agg #[.int .u64 (distOf qs vs), .int .u64 id, .int .i64 k]) (by simp [results, Tryz.results104, go_sem, q0, q1, q2]) rfl ⟨rfl, hst.2⟩
  · have HIt := hide (show itemF ns slot = (0, [], 0) by unfold itemF; rw [if_neg (by omega)])
    have HD := hide (show (spotF ns qs slot) = ((distOf qs [], 0), slot) by unfold spotF; rw [HIt.out])
    rw [HD.out]
    have hbw : Below w.heap.size w (((w.alloc (.cells #[.slice N nn cN, .int .i64 en, .int .i64 top] 24)).alloc (.cells #[.int .u64 0, .int .u64 0, .int .i64 0] 60)).alloc (.cells #[.int .u64 0, .slice none 0 0, .int .u64 0] 50)) := (((Below.refl _ _).alloc (Nat.le_refl _) _).alloc (by simp) _).alloc (by simp; omega) _
    have H2 := hide (show SpW w (w.heap.size + 1) (w.heap.size + 1 + 1) #[.int .u64 0, .slice none 0 0, .int .u64 0] Aq qs none [] (((w.alloc (.cells #[.slice N nn cN, .int .i64 en, .int .i64 top] 24)).alloc (.cells #[.int .u64 0, .int .u64 0, .int .i64 0] 60)).alloc (.cells #[.int .u64 0, .slice none 0 0, .int .u64 0] 50)) from
      ⟨hbw, ⟨_, rfl, Blk.alloc (by have := Blk.new (w.alloc (.cells #[.slice N nn cN, .int .i64 en, .int .i64 top] 24)) 60 #[.int .u64 0, .int .u64 0, .int .i64 0]; simpa using this) _⟩, by have := Blk.new ((w.alloc (.cells #[.slice N nn cN, .int .i64 en, .int .i64 top] 24)).alloc (.cells #[.int .u64 0, .int .u64 0, .int .i64 0] 60)) 50 #[.int .u64 0, .slice none 0 0, .int .u64 0]; simpa using this, by omega, by omega, hq.below hbw (Nat.le_refl _), RdR.nil⟩)
    have HZ := hide (show Blk (((w.alloc (.cells #[.slice N nn cN, .int .i64 en, .int .i64 top] 24)).alloc (.cells #[.int .u64 0, .int .u64 0, .int .i64 0] 60)).alloc (.cells #[.int .u64 0, .slice none 0 0, .int .u64 0] 50)) (w.heap.size + 1) 60 #[.int .u64 0, .int .u64 0, .int .i64 0] from Blk.alloc (by have := Blk.new (w.alloc (.cells #[.slice N nn cN, .int .i64 en, .int .i64 top] 24)) 60 #[.int .u64 0, .int .u64 0, .int .i64 0]; simpa using this) _)
    have HPl := hide (show Blk (((w.alloc (.cells #[.slice N nn cN, .int .i64 en, .int .i64 top] 24)).alloc (.cells #[.int .u64 0, .int .u64 0, .int .i64 0] 60)).alloc (.cells #[.int .u64 0, .slice none 0 0, .int .u64 0] 50)) w.heap.size 24 #[.slice N nn cN, .int .i64 en, .int .i64 top] from ((Blk.new w 24 #[.slice N nn cN, .int .i64 en, .int .i64 top]).alloc _).alloc _)
    have p0 := HPl.out.cell 0
    simp at p0
    clear hbw hx hq hqi hnq hok
    by_cases h0 : 0 ≤ slot
    · have b0 : decide (0 ≤ slot) = true := decide_eq_true h0
      have b1 : decide (slot < (nn : Int)) = false := decide_eq_false (by omega)
      go_enter Tryz.func104, Tryz.ntmps104
      go_upto_region 4 with fail
      clear p0 HPl
      generalize World.alloc (World.alloc (World.alloc w _) _) _ = W2 at *
      generalize w.heap.size + 1 + 1 = gi at *
      generalize w.heap.size + 1 = gs at *
      refine startO (S := (fun W => SpW w gs gi #[.int .u64 0, .slice none 0 0, .int .u64 0] Aq qs none [] W)) 10 (by as_aux_lemma => kernel_rfl) (by as_aux_lemma => kernel_rfl) (H2.out.step (Below.refl _ _).drew) (fun hHeld => ?_)
      have HZ2 := hide HZ.out.drew
      clear H2 HZ
      generalize World.drew _ = Wd at *
      refine putsO [0, 7] [7, 0] [(30, .int .i64 slot), (23, .slice Aq nq cq)] 2 rfl [23, 30] (by as_aux_lemma => kernel_rfl) (by as_aux_lemma => kernel_rfl) rfl (fun _ _ _ _ _ h => h) hHeld ?_
      refine takeO 1 24 (.fieldAddr 50 (.const (.pointer (some ⟨gi, 0, none⟩))) 1) 0 (.pointer (some ⟨gi, 1, none⟩)) (by as_aux_lemma => kernel_rfl) (by as_aux_lemma => kernel_rfl) (by as_aux_lemma => kernel_rfl) (fun _ _ _ _ _ h => h) (fun W hS => by clear hS hHeld; unfold cEv opC; as_aux_lemma => first | (go_simp; done) | (go_simp <;> rfl)) hHeld ?_
      refine takeO 4 27 (.fieldAddr 50 (.const (.pointer (some ⟨gi, 0, none⟩))) 0) 0 (.pointer (some ⟨gi, 0, none⟩)) (by as_aux_lemma => kernel_rfl) (by as_aux_lemma => kernel_rfl) (by as_aux_lemma => kernel_rfl) (fun _ _ _ _ _ h => h) (fun W hS => by clear hS hHeld; unfold cEv opC; as_aux_lemma => first | (go_simp; done) | (go_simp <;> rfl)) hHeld ?_
      refine takeO 2 25 (.load 25 (.const (.pointer (some ⟨gi, 1, none⟩)))) 25 (.slice none 0 0) (by as_aux_lemma => kernel_rfl) (by as_aux_lemma => kernel_rfl) (by as_aux_lemma => kernel_rfl) (fun _ _ _ _ _ h => h) (fun W hS => by have z0 := hS.i.cell 0; have z1 := hS.i.cell 1; simp at z0 z1; clear hS hHeld; unfold cEv opC; as_aux_lemma => first | (go_simp; done) | (go_simp <;> rfl)) hHeld ?_
      refine takeO 5 28 (.load 26 (.const (.pointer (some ⟨gi, 0, none⟩)))) 26 (.int .u64 0) (by as_aux_lemma => kernel_rfl) (by as_aux_lemma => kernel_rfl) (by as_aux_lemma => kernel_rfl) (fun _ _ _ _ _ h => h) (fun W hS => by have z0 := hS.i.cell 0; have z1 := hS.i.cell 1; simp at z0 z1; clear hS hHeld; unfold cEv opC; as_aux_lemma => first | (go_simp; done) | (go_simp <;> rfl)) hHeld ?_
      refine readyO [3] (by as_aux_lemma => kernel_rfl) (by simp) ?_
      refine callO 3 26 (.call { callee := .value (.func 39), args := #[.const (.slice Aq nq cq), .const (.slice none 0 0)], argTypes := #[25, 25] }) 26 39 #[.slice Aq nq cq, .slice none 0 0] (by as_aux_lemma => kernel_rfl) (by as_aux_lemma => kernel_rfl) (by unfold cEv opC; go_simp) ?_ AllReadyH.nil
      refine (dist_any Aq none nq cq 0 0 qs [] _ hHeld.q.1 HNq.out HQI.out hcq hcq2 hHeld.q.2 rfl (fun y hy => by simp at hy) (by omega) (by omega)).mono ?_
      rintro e _ ⟨rfl, rfl⟩
      refine ⟨_, rfl, hHeld, fun hHeld2 => ?_⟩
      clear hHeld
      have hHeld := hHeld2
      clear hHeld2
      refine takeO 6 29 (.build 42 #[(0, .const (.int .u64 (distOf qs []))), (1, .const (.int .u64 0))]) 42 (.agg #[.int .u64 (distOf qs []), .int .u64 0]) (by as_aux_lemma => kernel_rfl) (by as_aux_lemma => kernel_rfl) (by as_aux_lemma => kernel_rfl) (fun _ _ _ _ _ h => h) (fun W hS => by clear hS hHeld; unfold cEv opC; as_aux_lemma => first | (go_simp; done) | (go_simp <;> rfl)) hHeld ?_
      refine takeO 8 31 (.build 60 #[(0, .const (.agg #[.int .u64 (distOf qs []), .int .u64 0])), (1, .const (.int .i64 slot))]) 60 (.agg #[.int .u64 (distOf qs []), .int .u64 0, .int .i64 slot]) (by as_aux_lemma => kernel_rfl) (by as_aux_lemma => kernel_rfl) (by as_aux_lemma => kernel_rfl) (fun _ _ _ _ _ h => h) (fun W hS => by clear hS hHeld; unfold cEv opC; as_aux_lemma => first | (go_simp; done) | (go_simp <;> rfl)) hHeld ?_
      refine readyO [9] (by as_aux_lemma => kernel_rfl) (by simp) ?_
      have hst := spot_storedW HZ2.out rfl hHeld.bel hHeld.hs ((distOf qs [], 0), (slot : Int))
      simp only at hst
      have x0 := HZ2.out.cell 0
      have x1 := HZ2.out.cell 1
      have x2 := HZ2.out.cell 2
      have f0 := HZ2.out.frozen 0
      have f1 := HZ2.out.frozen 1
      have f2 := HZ2.out.frozen 2
      simp at x0 x1 x2
      refine storeO 9 (.store 60 (.const (.pointer (some ⟨gs, 0, none⟩))) (.const (.agg #[.int .u64 (distOf qs []), .int .u64 0, .int .i64 slot]))) 0 (((Wd.setCell ⟨gs, 0, none⟩ (.int .u64 (distOf qs []))).setCell ⟨gs, 1, none⟩ (.int .u64 0)).setCell ⟨gs, 2, none⟩ (.int .i64 slot)) (by as_aux_lemma => kernel_rfl) (by as_aux_lemma => kernel_rfl) (by unfold cEv opC; go_simp) (hHeld.stored ((distOf qs [], 0), (slot : Int))) (fun hHeld2 => ?_) AllReadyH.nil
      clear hHeld
      have hHeld := hHeld2
      clear hHeld2
      refine doneO [(23, .slice Aq nq cq), (0, .pointer (some ⟨gi, 1, none⟩)), (0, .slice none 0 0), (0, .int .u64 (distOf qs [])), (0, .pointer (some ⟨gi, 0, none⟩)), (0, .int .u64 0), (0, .agg #[.int .u64 (distOf qs []), .int .u64 0]), (0, .int .i64 slot), (0, .agg #[.int .u64 (distOf qs []), .int .u64 0, .int .i64 slot])] (by as_aux_lemma => kernel_rfl) (by as_aux_lemma => kernel_rfl) ?_
      simp only [fillG]
      go_wp2
      have q0 := hst.1.cell 0
      have q1 := hst.1.cell 1
      have q2 := hst.1.cell 2
      simp at q0 q1 q2
      exact bodyPost_ret (v := .agg #[.int .u64 (distOf qs []), .int .u64 0, .int .i64 slot]) (by simp [results, Tryz.results104, go_sem, q0, q1, q2]) rfl ⟨rfl, hst.2⟩
    · have b0 : decide (0 ≤ slot) = false := decide_eq_false h0
      go_enter Tryz.func104, Tryz.ntmps104
      go_upto_region 4 with fail
      clear p0 HPl
      generalize World.alloc (World.alloc (World.alloc w _) _) _ = W2 at *
      generalize w.heap.size + 1 + 1 = gi at *
      generalize w.heap.size + 1 = gs at *
      refine startO (S := (fun W => SpW w gs gi #[.int .u64 0, .slice none 0 0, .int .u64 0] Aq qs none [] W)) 10 (by as_aux_lemma => kernel_rfl) (by as_aux_lemma => kernel_rfl) (H2.out.step (Below.refl _ _).drew) (fun hHeld => ?_)
      have HZ2 := hide HZ.out.drew
      clear H2 HZ
      generalize World.drew _ = Wd at *
      refine putsO [0, 7] [7, 0] [(30, .int .i64 slot), (23, .slice Aq nq cq)] 2 rfl [23, 30] (by as_aux_lemma => kernel_rfl) (by as_aux_lemma => kernel_rfl) rfl (fun _ _ _ _ _ h => h) hHeld ?_
      refine takeO 1 24 (.fieldAddr 50 (.const (.pointer (some ⟨gi, 0, none⟩))) 1) 0 (.pointer (some ⟨gi, 1, none⟩)) (by as_aux_lemma => kernel_rfl) (by as_aux_lemma => kernel_rfl) (by as_aux_lemma => kernel_rfl) (fun _ _ _ _ _ h => h) (fun W hS => by clear hS hHeld; unfold cEv opC; as_aux_lemma => first | (go_simp; done) | (go_simp <;> rfl)) hHeld ?_
      refine takeO 4 27 (.fieldAddr 50 (.const (.pointer (some ⟨gi, 0, none⟩))) 0) 0 (.pointer (some ⟨gi, 0, none⟩)) (by as_aux_lemma => kernel_rfl) (by as_aux_lemma => kernel_rfl) (by as_aux_lemma => kernel_rfl) (fun _ _ _ _ _ h => h) (fun W hS => by clear hS hHeld; unfold cEv opC; as_aux_lemma => first | (go_simp; done) | (go_simp <;> rfl)) hHeld ?_
      refine takeO 2 25 (.load 25 (.const (.pointer (some ⟨gi, 1, none⟩)))) 25 (.slice none 0 0) (by as_aux_lemma => kernel_rfl) (by as_aux_lemma => kernel_rfl) (by as_aux_lemma => kernel_rfl) (fun _ _ _ _ _ h => h) (fun W hS => by have z0 := hS.i.cell 0; have z1 := hS.i.cell 1; simp at z0 z1; clear hS hHeld; unfold cEv opC; as_aux_lemma => first | (go_simp; done) | (go_simp <;> rfl)) hHeld ?_
      refine takeO 5 28 (.load 26 (.const (.pointer (some ⟨gi, 0, none⟩)))) 26 (.int .u64 0) (by as_aux_lemma => kernel_rfl) (by as_aux_lemma => kernel_rfl) (by as_aux_lemma => kernel_rfl) (fun _ _ _ _ _ h => h) (fun W hS => by have z0 := hS.i.cell 0; have z1 := hS.i.cell 1; simp at z0 z1; clear hS hHeld; unfold cEv opC; as_aux_lemma => first | (go_simp; done) | (go_simp <;> rfl)) hHeld ?_
      refine readyO [3] (by as_aux_lemma => kernel_rfl) (by simp) ?_
      refine callO 3 26 (.call { callee := .value (.func 39), args := #[.const (.slice Aq nq cq), .const (.slice none 0 0)], argTypes := #[25, 25] }) 26 39 #[.slice Aq nq cq, .slice none 0 0] (by as_aux_lemma => kernel_rfl) (by as_aux_lemma => kernel_rfl) (by unfold cEv opC; go_simp) ?_ AllReadyH.nil
      refine (dist_any Aq none nq cq 0 0 qs [] _ hHeld.q.1 HNq.out HQI.out hcq hcq2 hHeld.q.2 rfl (fun y hy => by simp at hy) (by omega) (by omega)).mono ?_
      rintro e _ ⟨rfl, rfl⟩
      refine ⟨_, rfl, hHeld, fun hHeld2 => ?_⟩
      clear hHeld
      have hHeld := hHeld2
      clear hHeld2
      refine takeO 6 29 (.build 42 #[(0, .const (.int .u64 (distOf qs []))), (1, .const (.int .u64 0))]) 42 (.agg #[.int .u64 (distOf qs []), .int .u64 0]) (by as_aux_lemma => kernel_rfl) (by as_aux_lemma => kernel_rfl) (by as_aux_lemma => kernel_rfl) (fun _ _ _ _ _ h => h) (fun W hS => by clear hS hHeld; unfold cEv opC; as_aux_lemma => first | (go_simp; done) | (go_simp <;> rfl)) hHeld ?_
      refine takeO 8 31 (.build 60 #[(0, .const (.agg #[.int .u64 (distOf qs []), .int .u64 0])), (1, .const (.int .i64 slot))]) 60 (.agg #[.int .u64 (distOf qs []), .int .u64 0, .int .i64 slot]) (by as_aux_lemma => kernel_rfl) (by as_aux_lemma => kernel_rfl) (by as_aux_lemma => kernel_rfl) (fun _ _ _ _ _ h => h) (fun W hS => by clear hS hHeld; unfold cEv opC; as_aux_lemma => first | (go_simp; done) | (go_simp <;> rfl)) hHeld ?_
      refine readyO [9] (by as_aux_lemma => kernel_rfl) (by simp) ?_
      have hst := spot_storedW HZ2.out rfl hHeld.bel hHeld.hs ((distOf qs [], 0), (slot : Int))
      simp only at hst
      have x0 := HZ2.out.cell 0
      have x1 := HZ2.out.cell 1
      have x2 := HZ2.out.cell 2
      have f0 := HZ2.out.frozen 0
      have f1 := HZ2.out.frozen 1
      have f2 := HZ2.out.frozen 2
      simp at x0 x1 x2
      refine storeO 9 (.store 60 (.const (.pointer (some ⟨gs, 0, none⟩))) (.const (.agg #[.int .u64 (distOf qs []), .int .u64 0, .int .i64 slot]))) 0 (((Wd.setCell ⟨gs, 0, none⟩ (.int .u64 (distOf qs []))).setCell ⟨gs, 1, none⟩ (.int .u64 0)).setCell ⟨gs, 2, none⟩ (.int .i64 slot)) (by as_aux_lemma => kernel_rfl) (by as_aux_lemma => kernel_rfl) (by unfold cEv opC; go_simp) (hHeld.stored ((distOf qs [], 0), (slot : Int))) (fun hHeld2 => ?_) AllReadyH.nil
      clear hHeld
      have hHeld := hHeld2
      clear hHeld2
      refine doneO [(23, .slice Aq nq cq), (0, .pointer (some ⟨gi, 1, none⟩)), (0, .slice none 0 0), (0, .int .u64 (distOf qs [])), (0, .pointer (some ⟨gi, 0, none⟩)), (0, .int .u64 0), (0, .agg #[.int .u64 (distOf qs []), .int .u64 0]), (0, .int .i64 slot), (0, .agg #[.int .u64 (distOf qs []), .int .u64 0, .int .i64 slot])] (by as_aux_lemma => kernel_rfl) (by as_aux_lemma => kernel_rfl) ?_
      simp only [fillG]
      go_wp2
      have q0 := hst.1.cell 0
      have q1 := hst.1.cell 1
      have q2 := hst.1.cell 2
      simp at q0 q1 q2
      exact bodyPost_ret (v := .agg #[.int .u64 (distOf qs []), .int .u64 0, .int .i64 slot]) (by simp [results, Tryz.results104, go_sem, q0, q1, q2]) rfl ⟨rfl, hst.2⟩
end
end Go.Proofs.YtgiplahhalgbdaaGreat

/-
  The package walk: Step. Conditions: the slice of nodes reads as a list, its numbers are small.
-/
namespace Go.Proofs.YtgiplahhalgbdaaGreat
set_option linter.unusedSimpArgs false
set_option linter.unusedVariables false
open Go.RowKit

theorem fcs_snocW (l : List Spt) (s : Spt) : fcs encS (l ++ [s]) = fcs encS l ++ [.int .u64 s.1.1, .int .u64 s.1.2, .int .i64 s.2] := by
  unfold fcs
  rw [List.flatMap_append]
  simp [encS]
section
variable {ns : List NodeP}
theorem kept_sub {l : List Int} {x : Int} : ∀ {k : Nat}, x ∈ kept ns l k → x ∈ l.take k
  | 0, h => by simp [kept] at h
  | k + 1, h => by
    unfold kept at h
    rw [List.take_add_one]
    rcases List.mem_append.1 h with h | h
    · exact List.mem_append_left _ (kept_sub h)
    · split at h
      · rename_i y hy
        split at h
        · rw [hy]; exact List.mem_append_right _ (by simpa using h)
        · simp at h
      · simp at h
theorem kept_nodup {l : List Int} : ∀ (k : Nat), (kept ns l k).Nodup
  | 0 => by simp [kept]
  | k + 1 => by
    unfold kept
    refine List.nodup_append.2 ⟨kept_nodup k, ?_, ?_⟩
    · split
      · split <;> simp
      · simp
    · intro a ha b hb e
      subst e
      split at hb
      · rename_i y hy
        split at hb
        · rename_i hs
          rw [List.mem_singleton.1 hb] at ha
          unfold stayF at hs
          rw [Bool.and_eq_true, decide_eq_true_eq] at hs
          exact hs.1 (kept_sub ha)
        · simp at hb
      · simp at hb
theorem there_len {l : List Int} (h : l.Nodup) (ht : ∀ x ∈ l, thereF ns x = true) : l.length ≤ ns.length := by
  have h1 := len_le_of_keys (l := l.map fun x => (x, ())) (m := (List.range ns.length).map fun (i : Nat) => ((i : Int), ())) (by rw [show (l.map fun x : Int => (x, ())).map (·.1) = l from by rw [List.map_map]; exact List.map_id l]; exact h) (fun p hp => by
    obtain ⟨x, hx, rfl⟩ := List.mem_map.1 hp
    obtain ⟨h1, h2⟩ := there_lt (ht x hx)
    exact List.mem_map.2 ⟨x.toNat, by rw [List.mem_range]; omega, by simp; omega⟩)
  simpa using h1
theorem near_len (ns : List NodeP) (slot level : Int) : (nearF ns slot level).length ≤ ns.length := by
  refine there_len ?_ fun x hx => near_there hx
  unfold nearF
  split
  · simp
  · split
    · exact kept_nodup _
    · simp
end
/-- a plane and a vector that came in -/
structure PlW (w : World) (N : Option Addr) (nn : Nat) (ns : List NodeP) (Aq : Option Addr) (nq cq : Nat) (qs : List Int) : Prop where
  nd : Rd SNode w w.heap.size N ns
  len : ns.length = nn
  ok : ∀ x ∈ ns, OkN x
  sm : ∀ x ∈ ns, SmN x
  n20 : nn ≤ 20
  q : Rd (Sh.int .i32) w w.heap.size Aq qs
  lq : qs.length = nq
  c1 : nq ≤ cq
  c2 : cq ≤ 9223372036854775807
  qi : I32 qs
section
variable {w W W' : World} {N Aq : Option Addr} {nn cN nq cq : Nat} {ns : List NodeP} {en top : Int} {qs : List Int}
theorem PlW.at_ (h : PlW w N nn ns Aq nq cq qs) (hb : Below w.heap.size w W) : PlW W N nn ns Aq nq cq qs := ⟨h.nd.at_world hb, h.len, h.ok, h.sm, h.n20, h.q.at_world hb, h.lq, h.c1, h.c2, h.qi⟩
theorem PlW.spot (h : PlW w N nn ns Aq nq cq qs) (slot : Int) : Calls Tryz.prog 104 #[.agg #[.slice N nn cN, .int .i64 en, .int .i64 top], .slice Aq nq cq, .int .i64 slot] w fun e w' => e = .returned (.agg #[.int .u64 (spotF ns qs slot).1.1, .int .u64 (spotF ns qs slot).1.2, .int .i64 slot]) ∧ Below w.heap.size w w' :=
  wSpot_any h.nd h.len h.ok h.q h.lq h.c1 h.c2 h.qi slot
theorem srt_take1 {l : List Spt} {b : Spt} (h : (srtS l)[0]? = some b) {n : Nat} (hn : l.length = n) : (srtS l).take (lstN 1 n) = [b] := by
  have hl : lstN 1 n = 1 := by
    have : (srtS l).length = n := by rw [srtS_len, hn]
    have h0 := (List.getElem?_eq_some_iff.1 h).1
    unfold lstN
    have e : (1 : Int).toNat = 1 := rfl
    rw [e]
    omega
  rw [hl]
  cases e : srtS l with
  | nil => rw [e] at h; simp at h
  | cons a t => rw [e] at h; simp at h; subst h; simp
set_option maxHeartbeats 8000000 in
theorem step_any (h : PlW w N nn ns Aq nq cq qs) (slot level : Int) : Calls Tryz.prog 93 #[.agg #[.slice N nn cN, .int .i64 en, .int .i64 top], .slice Aq nq cq, .int .i64 slot, .int .i64 level] w fun e w' => e = .returned (.tuple #[.int .i64 (stepF ns qs slot level), .bool (stepF ns qs slot level != slot)]) ∧ Below w.heap.size w w' := by
  have hb1 := below1 w (.cells #[.slice N nn cN, .int .i64 en, .int .i64 top] 24)
  have HB1 := hide hb1
  have HP1 := hide (Blk.new w 24 #[.slice N nn cN, .int .i64 en, .int .i64 top])
  have HPl := hide h
  have HLn := hide (show (nearF ns slot level).length ≤ 20 from Nat.le_trans (near_len ns slot level) (by rw [h.len]; exact h.n20))
  obtain ⟨b, hb0, hbs, _, _⟩ := step_spec ns qs slot level
  have HBs := hide hb0
  have HBe := hide (show b.2 = stepF ns qs slot level by rw [hbs]; rfl)
  clear h hb1 hb0 hbs
  go_enter Tryz.func93, Tryz.ntmps93
  go_upto_region 1 with fail
  generalize World.alloc w _ = w1 at *
  obtain ⟨b4, hb4⟩ : ∃ b, w.heap.size = b := ⟨_, rfl⟩
  rw [hb4] at HP1
  rw [hb4]
  have Hb4 := hide hb4
  clear hb4
  have p0 := HP1.out.cell 0
  have p1 := HP1.out.cell 1
  have p2 := HP1.out.cell 2
  simp at p0 p1 p2
  have CS := hide (fun (W : World) (hb : Below w.heap.size w W) (s : Int) => (HPl.out.at_ hb).spot (cN := cN) (en := en) (top := top) s)
  go_upto_region 2 with (go_at_call 104; refine (CS.out _ HB1.out slot).mono ?_; rintro e w2 ⟨rfl, hb2⟩; have HB2 := hide (Below.step HB1.out hb2); have HP2 := hide (HP1.out.below hb2 HP1.out.lt); clear hb2)
  clear HP1 HB1 p0 p1 p2
  have HO3 := hide (show (w2.alloc (.cells #[.int .u64 (spotF ns qs slot).1.1, .int .u64 (spotF ns qs slot).1.2, .int .i64 slot] 60)).ownsRow w.heap.size 60 3 (.slice (some ⟨w2.heap.size, 0, none⟩) 1 1) 1 (fcs encS [spotF ns qs slot]) from World.ownsRow_lit (base := w.heap.size) (e := 60) (size := 3) w2 #[.int .u64 (spotF ns qs slot).1.1, .int .u64 (spotF ns qs slot).1.2, .int .i64 slot] 1 HB2.out.size (by decide) rfl)
  have HB3 := hide (Below.step HB2.out (below1 w2 (.cells #[.int .u64 (spotF ns qs slot).1.1, .int .u64 (spotF ns qs slot).1.2, .int .i64 slot] 60)))
  have HP3 := hide (HP2.out.alloc (.cells #[.int .u64 (spotF ns qs slot).1.1, .int .u64 (spotF ns qs slot).1.2, .int .i64 slot] 60))
  have Hlt := hide (show w2.heap.size < (w2.alloc (.cells #[.int .u64 (spotF ns qs slot).1.1, .int .u64 (spotF ns qs slot).1.2, .int .i64 slot] 60)).heap.size by simp)
  clear HP2 HB2
  generalize World.alloc w2 _ = w3 at *
  generalize w2.heap.size = g3 at *
  have p0 := HP3.out.cell 0
  have p1 := HP3.out.cell 1
  have p2 := HP3.out.cell 2
  simp at p0 p1 p2
  go_wp2_with (go_at_call 59; refine (near_any (cN := cN) (en := en) (top := top) (HPl.out.at_ HB3.out).nd HPl.out.len HPl.out.ok HPl.out.sm slot level).mono ?_; rintro e w4 ⟨A4, n4, c4, rfl, k1, k2, k3, hr4, hb4⟩; have HK1 := hide k1; have HR4 := hide hr4; have HB4 := hide (Below.step HB3.out hb4); have HP4 := hide (HP3.out.below hb4 HP3.out.lt); have HO4 := hide (own_keep HO3.out fun d hd => hb4.block d (HO3.out.lt d hd).2); have Hlo := hide (Nat.le_refl w3.heap.size); have Hsz := hide hb4.size; clear k1 hr4 hb4)
  clear p0 p1 p2 HP3 HB3 HO3
  have hn4 : n4 ≤ 20 := by have := HK1.out; have := HLn.out; omega
  go_loopw [10, 12, 24] (fun s _ i wr => ∃ (k c : Nat) (A : Option Addr), k ≤ n4 ∧ i = .int .i64 k ∧ s = .slice A (k + 1) c ∧ k + 1 ≤ c ∧ c ≤ 9223372036854775807 ∧ Hid (wr.ownsRow w.heap.size 60 3 (.slice A (k + 1) c) (k + 1) (fcs encS (spotF ns qs slot :: ((nearF ns slot level).take k).map (spotF ns qs)))) ∧ Hid (∀ d, (Value.slice A (k + 1) c).ownBlock = some d → d < w3.heap.size ∨ w4.heap.size ≤ d) ∧ Hid (RdR (Sh.int .i64) wr (Btw w3.heap.size w4.heap.size) A4 (nearF ns slot level)) ∧ Hid (Below w.heap.size w wr) ∧ Hid (w4.heap.size ≤ wr.heap.size) ∧ Hid (Blk wr b4 24 #[.slice N nn cN, .int .i64 en, .int .i64 top])) (fun _ _ i _ => n4 - (intOf i).toNat)
  case atStart => exact ⟨0, 1, _, by omega, rfl, rfl, by omega, by omega, hide (by simpa using HO4.out), hide (fun d hd => .inl (by simp [Value.ownBlock] at hd; rw [← hd]; exact Hlt.out)), HR4, HB4, hide (Nat.le_refl _), HP4⟩
  case round =>
    obtain ⟨k, c, A, hk, rfl, rfl, hc1, hc2, HO, HAp, HR, HB, HSz, HP⟩ := hrel
    clear HO4 HR4 HB4 HP4
    by_cases hlt : k < n4
    · obtain ⟨ad, y, rfl, _, hv, q0⟩ := RdR.cell HR.out (k := k) (by have := HK1.out; omega)
      have g0 : (0 : Int) ≤ k := by omega
      have g1 : (k : Int) < n4 := by omega
      have HV := hide hv
      clear hv
      have p0 := HP.out.cell 0
      have p1 := HP.out.cell 1
      have p2 := HP.out.cell 2
      simp at p0 p1 p2
      go_wp2_with (first
        | (go_at_call 104; refine (CS.out _ HB.out y).mono ?_; rintro e w5 ⟨rfl, hb5⟩; have HO5 := hide (own_keep HO.out fun d hd => hb5.block d (HO.out.lt d hd).2); have HB5 := hide (Below.step HB.out hb5); have HP5 := hide (HP.out.below hb5 HP.out.lt); have HR5 := hide (HR.out.below hb5 fun d hd => Nat.lt_of_lt_of_le hd.2 HSz.out); have HS5 := hide (Nat.le_trans HSz.out hb5.size); clear hb5)
        | (at_builtin; refine wpList_append_elem rfl (.tmp 28) (.tmp 33) 57 rfl w.heap.size Tryz.underlying57 info_spot rfl (by decide) (.slice A (k + 1) c) (k + 1) _ rfl HO5.out _ _ rfl rfl (by simp [Value.oneCell']) (by simp only [maxLen]; omega) (by omega) HB5.out.size ?_; intro v9 w9 hown9 hgr9 hat9; have HO9 := hide (show w9.ownsRow w.heap.size 60 3 v9 (k + 1 + 1) (fcs encS (spotF ns qs slot :: ((nearF ns slot level).take (k + 1)).map (spotF ns qs))) by rw [take_snocW HV.out, List.map_append, ← List.cons_append]; exact (by rw [show [y].map (spotF ns qs) = [spotF ns qs y] from rfl, fcs_snocW]; exact hown9)); have HB9 := hide (below_own HB5.out HO5.out HB5.out.size hgr9); have HA9 := hide (show ∀ d, v9.ownBlock = some d → d < w3.heap.size ∨ w4.heap.size ≤ d from fun d hd => hat9.elim (fun e => HAp.out d (e ▸ hd)) fun e => .inr (by rw [e] at hd; injection hd with hd; have := HS5.out; omega)); have HR9 := hide (HR5.out.keepBlocks fun d hd => hgr9.block d (Nat.lt_of_lt_of_le hd.2 HS5.out) fun e => (HAp.out d e.symm).elim (fun h => by have := hd.1; omega) fun h => by have := hd.2; omega); have HS9 := hide (Nat.le_trans HS5.out hgr9.size); have HP9 := hide (HP5.out.grown hgr9 fun e => own_blk_ne HO5.out HP5.out (by decide) e.symm); obtain ⟨A9, c9, rfl, l1, l2⟩ := own_form hown9; clear hown9 hgr9 hat9))
      go_roundw
      case rel => exact ⟨k + 1, c9, A9, by omega, by go_num, rfl, l1, l2, HO9, HA9, HR9, HB9, HS9, HP9⟩
      case measure => simp [intOf]; omega
    · obtain rfl : n4 = k := by omega
      have HL := hide (show (spotF ns qs slot :: ((nearF ns slot level).take n4).map (spotF ns qs)) = seenF ns qs slot level by unfold seenF; rw [List.take_of_length_le (by have := HK1.out; omega)])
      have HO2 := hide (show Rd SP wr wr.heap.size A (seenF ns qs slot level) from ((flatS.own (l := seenF ns qs slot level) (by rw [← HL.out]; exact HO.out)).rd fun d hd => hd.2))
      have HLs := hide (show (seenF ns qs slot level).length = n4 + 1 by unfold seenF; simp [HK1.out])
      have HLe : Hid (Calls Tryz.prog 105 #[.slice A (n4 + 1) c, .int .i64 1] wr fun e w7 => ∃ ad7 c7, e = .returned (.slice (some ad7) 1 c7) ∧ w7.cell? ⟨ad7.block, ad7.off + 2, none⟩ = some (.int .i64 (stepF ns qs slot level)) ∧ Below wr.heap.size wr w7) := by
        refine hide ((least_any A (n4 + 1) c 1 (seenF ns qs slot level) _ HO2.out HLs.out hc1 hc2 (by omega)).mono ?_)
        rintro e w7 ⟨v7, rfl, A7, n7, c7, rfl, m1, m2, m3, m4, m5⟩
        rw [srt_take1 HBs.out HLs.out] at m1 m4
        obtain rfl : 1 = n7 := m1
        obtain ⟨ad7, y7, e7, _, hv7, t0, t1, t2⟩ := RdR.scell m4 (k := 0) (by simp)
        obtain rfl : b = y7 := by simpa using hv7
        obtain rfl : A7 = some ad7 := e7
        rw [Nat.zero_mul, add_zero', HBe.out] at t2
        exact ⟨ad7, c7, rfl, t2, m5⟩
      go_wp2_with (go_at_call 105; refine (HLe.out).mono ?_; rintro e w7 ⟨ad7, c7, rfl, t2, m5⟩; have HB7 := hide (Below.step HB.out m5); clear m5)
      go_ret2
      exact ⟨by simp, HB7.out⟩
end
end Go.Proofs.YtgiplahhalgbdaaGreat

/-
  The package walk: Level, Down. Conditions: a plane and a vector lie as said.
-/
namespace Go.Proofs.YtgiplahhalgbdaaGreat
set_option linter.unusedSimpArgs false
set_option linter.unusedVariables false
open Go.RowKit

/-- the slots that are come by: each where a step leads, the last leads on to none -/
structure WayS (ns : List NodeP) (q : List Int) (level slot : Int) (p : List Int) : Prop where
  p0 : p[0]? = some slot
  st : ∀ (i : Nat) (a b : Int), p[i]? = some a → p[i + 1]? = some b → b = stepF ns q a level ∧ b ≠ a
  en : ∀ a, p[p.length - 1]? = some a → stepF ns q a level = a
theorem WayS.way {ns : List NodeP} {q : List Int} {level slot : Int} {p : List Int} (h : WayS ns q level slot p) : Way ns q level p := fun i a b ha hb => by
  obtain ⟨rfl, h2⟩ := h.st i a b ha hb
  exact step_on h2
theorem WayS.same {ns : List NodeP} {q : List Int} {level slot : Int} {p r : List Int} (h : WayS ns q level slot p) (k : WayS ns q level slot r) : p = r := by
  have hx : ∀ {p r : List Int}, WayS ns q level slot p → WayS ns q level slot r → ∀ (i : Nat) (a : Int), p[i]? = some a → r[i]? = some a := by
    intro p r h k i
    induction i with
    | zero => intro a ha; rw [h.p0] at ha; injection ha with ha; subst ha; exact k.p0
    | succ i ih =>
      intro b hb
      have hi := (List.getElem?_eq_some_iff.1 hb).1
      obtain ⟨a, ha⟩ : ∃ a, p[i]? = some a := ⟨_, List.getElem?_eq_getElem (by omega)⟩
      obtain ⟨rfl, hne⟩ := h.st i a b ha hb
      have hr := ih a ha
      cases e : r[i + 1]? with
      | some c => rw [(k.st i a c hr e).1]
      | none =>
        have h1 := (List.getElem?_eq_some_iff.1 hr).1
        have h2 := List.getElem?_eq_none_iff.1 e
        exact absurd (k.en a (by rw [show r.length - 1 = i by omega]; exact hr)) hne
  refine List.ext_getElem? fun i => ?_
  cases e : p[i]? with
  | some a => exact (hx h k i a e).symm
  | none =>
    cases e2 : r[i]? with
    | none => rfl
    | some b => rw [hx k h i b e2] at e; cases e
/-- while Level goes: what was come by ends with a -/
structure LvW (ns : List NodeP) (q : List Int) (level slot : Int) (p : List Int) (a : Int) : Prop where
  p0 : p[0]? = some slot
  st : ∀ (i : Nat) (a b : Int), p[i]? = some a → p[i + 1]? = some b → b = stepF ns q a level ∧ b ≠ a
  en : p[p.length - 1]? = some a
  pos : 0 < p.length
  sz : p.length + aheadN ns q a ≤ 1 + ns.length
theorem LvW.start (ns : List NodeP) (q : List Int) (level slot : Int) : LvW ns q level slot [slot] slot :=
  ⟨rfl, fun i a b _ h => by simp at h, rfl, by simp, by have := ahead_le ns q slot; simp; omega⟩
theorem LvW.next {ns : List NodeP} {q : List Int} {level slot a : Int} {p : List Int} (h : LvW ns q level slot p a) (hs : stepF ns q a level ≠ a) : LvW ns q level slot (p ++ [stepF ns q a level]) (stepF ns q a level) := by
  obtain ⟨h1, h2⟩ := step_on hs
  have h3 := ahead_lt (near_there h1) h2
  have hp := h.pos
  refine ⟨by rw [List.getElem?_append_left hp]; exact h.p0, fun i x y hx hy => ?_, by simp, by simp, by have := h.sz; rw [List.length_append]; simp; omega⟩
  by_cases hi : i + 1 < p.length
  · rw [List.getElem?_append_left (by omega)] at hx
    rw [List.getElem?_append_left hi] at hy
    exact h.st i x y hx hy
  · have hl := (List.getElem?_eq_some_iff.1 hy).1
    rw [List.length_append] at hl
    simp only [List.length_cons, List.length_nil] at hl
    have e : i = p.length - 1 := by omega
    rw [List.getElem?_append_left (by omega), e, h.en] at hx
    rw [show i + 1 = p.length by omega] at hy
    simp at hx hy
    subst hx hy
    exact ⟨rfl, hs⟩
theorem LvW.done {ns : List NodeP} {q : List Int} {level slot a : Int} {p : List Int} (h : LvW ns q level slot p a) (hs : stepF ns q a level = a) : WayS ns q level slot p :=
  ⟨h.p0, h.st, fun b hb => by rw [h.en] at hb; injection hb with hb; subst hb; exact hs⟩
def isN (v : Value) : Nat := match v with | .bool true => 1 | _ => 0
/-- what Level gives -/
def GivesLv (ns : List NodeP) (q : List Int) (level slot : Int) (w : World) (e : Ending) (w' : World) : Prop := ∃ (p : List Int) (A : Option Addr) (n c : Nat), e = .returned (.slice A n c) ∧ WayS ns q level slot p ∧ p.length = n ∧ n ≤ 1 + ns.length ∧ n ≤ c ∧ c ≤ 9223372036854775807 ∧ RdR (Sh.int .i64) w' (Btw w.heap.size w'.heap.size) A p ∧ Below w.heap.size w w'
section
variable {w : World} {N Aq : Option Addr} {nn cN nq cq : Nat} {ns : List NodeP} {en top : Int} {qs : List Int}
set_option maxHeartbeats 8000000 in
theorem level_any (h : PlW w N nn ns Aq nq cq qs) (slot level : Int) : Calls Tryz.prog 73 #[.agg #[.slice N nn cN, .int .i64 en, .int .i64 top], .slice Aq nq cq, .int .i64 slot, .int .i64 level] w (GivesLv ns qs level slot w) := by
  have hb1 := below1 w (.cells #[.slice N nn cN, .int .i64 en, .int .i64 top] 24)
  have HB1 := hide (Below.step hb1 (below1 (w.alloc (.cells #[.slice N nn cN, .int .i64 en, .int .i64 top] 24)) (.cells #[.int .i64 slot] 3)))
  have HP1 := hide ((Blk.new w 24 #[.slice N nn cN, .int .i64 en, .int .i64 top]).alloc (.cells #[.int .i64 slot] 3))
  have HO1 := hide (show ((w.alloc (.cells #[.slice N nn cN, .int .i64 en, .int .i64 top] 24)).alloc (.cells #[.int .i64 slot] 3)).ownsRow w.heap.size 3 1 (.slice (some ⟨w.heap.size + 1, 0, none⟩) 1 1) 1 (fcs encI [slot]) by
    have := World.ownsRow_lit (base := w.heap.size) (e := 3) (size := 1) (w.alloc (.cells #[.slice N nn cN, .int .i64 en, .int .i64 top] 24)) #[.int .i64 slot] 1 hb1.size (by decide) rfl
    simpa [fcsI] using this)
  have HPl := hide h
  have h20 : nn ≤ 20 := h.n20
  have Hn := hide h.len
  clear h hb1
  go_enter Tryz.func73, Tryz.ntmps73
  go_upto_region 2 with fail
  generalize World.alloc (World.alloc w _) _ = w1 at *
  generalize w.heap.size + 1 = g1 at *
  obtain ⟨b4, hb4⟩ : ∃ b, w.heap.size = b := ⟨_, rfl⟩
  rw [hb4] at HP1
  rw [hb4]
  have Hb4 := hide hb4
  clear hb4
  have p0 := HP1.out.cell 0
  have p1 := HP1.out.cell 1
  have p2 := HP1.out.cell 2
  simp at p0 p1 p2
  have CS := hide (fun (W : World) (hb : Below w.heap.size w W) (s : Int) => step_any (HPl.out.at_ hb) (cN := cN) (en := en) (top := top) s level)
  go_wp2_with (go_at_call 93; refine (CS.out _ HB1.out slot).mono ?_; rintro e w2 ⟨rfl, hb2⟩; have HB2 := hide (Below.step HB1.out hb2); have HP2 := hide (HP1.out.below hb2 HP1.out.lt); have HO2 := hide (own_keep HO1.out fun d hd => hb2.block d (HO1.out.lt d hd).2); clear hb2)
  clear HP1 HB1 HO1 p0 p1 p2
  go_loopw [9, 10, 11] (fun o nx is wr => ∃ (p : List Int) (a : Int) (n c : Nat) (A : Option Addr), o = .slice A n c ∧ nx = .int .i64 (stepF ns qs a level) ∧ is = .bool (stepF ns qs a level != a) ∧ n ≤ c ∧ c ≤ 9223372036854775807 ∧ n ≤ 1 + nn ∧ Hid (p.length = n ∧ LvW ns qs level slot p a) ∧ Hid (wr.ownsRow w.heap.size 3 1 (.slice A n c) n (fcs encI p)) ∧ Hid (Below w.heap.size w wr) ∧ Hid (Blk wr b4 24 #[.slice N nn cN, .int .i64 en, .int .i64 top])) (fun _ nx is _ => aheadN ns qs (intOf nx) + isN is)
  case atStart => exact ⟨[slot], slot, 1, 1, _, rfl, rfl, rfl, by omega, by omega, by omega, hide ⟨rfl, LvW.start _ _ _ _⟩, HO2, HB2, HP2⟩
  case round =>
    obtain ⟨p, a, n, c, A, rfl, rfl, rfl, hc1, hc2, hn1, HLv, HO, HB, HP⟩ := hrel
    clear HO2 HB2 HP2
    by_cases hs : stepF ns qs a level = a
    · have e0 : (stepF ns qs a level != a) = false := by simp [hs]
      have HG := hide (show GivesLv ns qs level slot w (.returned (.slice A n c)) wr from ⟨p, A, n, c, rfl, HLv.out.2.done hs, HLv.out.1, by rw [Hn.out]; exact hn1, hc1, hc2, flatI.own HO.out, HB.out⟩)
      clear hs
      go_wp2
      go_ret
      exact HG.out
    · have e0 : (stepF ns qs a level != a) = true := by simp [hs]
      have HNx := hide (HLv.out.2.next hs)
      have HMs := hide (show aheadN ns qs (stepF ns qs (stepF ns qs a level) level) + isN (.bool (stepF ns qs (stepF ns qs a level) level != stepF ns qs a level)) < aheadN ns qs (stepF ns qs a level) + isN (.bool (stepF ns qs a level != a)) by
        rw [e0]
        by_cases h2 : stepF ns qs (stepF ns qs a level) level = stepF ns qs a level
        · rw [show (stepF ns qs (stepF ns qs a level) level != stepF ns qs a level) = false by simp [h2], h2]
          simp [isN]
        · have h3 := step_on h2
          have h4 := ahead_lt (near_there h3.1) h3.2
          rw [show (stepF ns qs (stepF ns qs a level) level != stepF ns qs a level) = true by simp [h2]]
          simp [isN]; omega)
      clear hs
      have p0 := HP.out.cell 0
      have p1 := HP.out.cell 1
      have p2 := HP.out.cell 2
      simp at p0 p1 p2
      go_wp2_with (first
        | (at_builtin; refine wpList_append_elem rfl (.tmp 31) (.tmp 33) 47 rfl w.heap.size Tryz.underlying47 info_intE rfl (by decide) (.slice A n c) n _ rfl HO.out _ _ rfl rfl (by simp [Value.oneCell']) (by simp only [maxLen]; omega) (by omega) HB.out.size ?_; intro v9 w9 hown9 hgr9 hat9; have HO9 := hide (show w9.ownsRow w.heap.size 3 1 v9 (n + 1) (fcs encI (p ++ [stepF ns qs a level])) by rw [fcsI]; simpa [fcsI] using hown9); have HB9 := hide (below_own HB.out HO.out HB.out.size hgr9); have HP9 := hide (HP.out.grown hgr9 fun e => own_blk_ne HO.out HP.out (by decide) e.symm); obtain ⟨A9, c9, rfl, l1, l2⟩ := own_form HO9.out; clear hown9 hgr9 hat9 p0 p1 p2; have p0 := HP9.out.cell 0; have p1 := HP9.out.cell 1; have p2 := HP9.out.cell 2; simp at p0 p1 p2)
        | (go_at_call 93; refine (CS.out _ HB9.out (stepF ns qs a level)).mono ?_; rintro e w5 ⟨rfl, hb5⟩; have HB5 := hide (Below.step HB9.out hb5); have HP5 := hide (HP9.out.below hb5 HP9.out.lt); have HO5 := hide (own_keep HO9.out fun d hd => hb5.block d (HO9.out.lt d hd).2); clear hb5))
      go_roundw
      case rel => exact ⟨p ++ [stepF ns qs a level], stepF ns qs a level, n + 1, c9, A9, rfl, rfl, rfl, l1, l2, by have h := HNx.out.sz; rw [List.length_append, HLv.out.1, Hn.out] at h; simp at h; omega, hide ⟨by rw [List.length_append, HLv.out.1]; rfl, HNx.out⟩, HO5, HB5, HP5⟩
      case measure => exact HMs.out
/-- where the levels end -/
def DownR (ns : List NodeP) (q : List Int) : Nat → Int → Int → Prop
  | 0, a, d => d = a
  | k + 1, a, d => ∃ p t, WayS ns q ((k + 1 : Nat) : Int) a p ∧ p[p.length - 1]? = some t ∧ DownR ns q k t d
theorem DownR.ahead {ns : List NodeP} {q : List Int} : ∀ {k : Nat} {a d : Int}, DownR ns q k a d → d = a ∨ sptLt (spotF ns q d) (spotF ns q a) = true
  | 0, a, d, h => .inl h
  | k + 1, a, d, h => by
    obtain ⟨p, t, h1, h2, h3⟩ := h
    have h4 := h1.way.last h1.p0 h2
    rcases h3.ahead with rfl | h5
    · exact h4
    · rcases h4 with rfl | h4
      · exact .inr h5
      · exact .inr (swoS.trans _ _ _ h5 h4)
/-- the levels that are gone down -/
def lvN (top : Int) : Nat := (min top 7).toNat
set_option maxHeartbeats 8000000 in
theorem wDown_any (h : PlW w N nn ns Aq nq cq qs) : Calls Tryz.prog 57 #[.agg #[.slice N nn cN, .int .i64 en, .int .i64 top], .slice Aq nq cq] w fun e w' => ∃ d, e = .returned (.tuple #[.int .i64 d, .bool (thereF ns en)]) ∧ (if thereF ns en = true then DownR ns qs (lvN top) en d else d = 0) ∧ Below w.heap.size w w' := by
  have hb1 := below1 w (.cells #[.slice N nn cN, .int .i64 en, .int .i64 top] 24)
  have HB1 := hide hb1
  have HP1 := hide (Blk.new w 24 #[.slice N nn cN, .int .i64 en, .int .i64 top])
  have HPl := hide h
  have Hn := hide h.len
  have h20 : nn ≤ 20 := h.n20
  clear h hb1
  rcases ht : thereF ns en with _ | _
  · have CT := hide (fun (W : World) (hb : Below w.heap.size w W) => ht ▸ there_any (nn := nn) (cN := cN) (en := en) (top := top) (HPl.out.at_ hb).nd HPl.out.len en)
    clear ht
    go_enter Tryz.func57, Tryz.ntmps57
    go_wp2_with (go_at_call 17; refine (CT.out _ HB1.out).mono ?_; rintro e w2 ⟨rfl, hb2⟩; have HB2 := hide (Below.step HB1.out hb2); clear hb2)
    go_ret2
    exact ⟨0, rfl, by simp, HB2.out⟩
  · have CT := hide (fun (W : World) (hb : Below w.heap.size w W) => ht ▸ there_any (nn := nn) (cN := cN) (en := en) (top := top) (HPl.out.at_ hb).nd HPl.out.len en)
    have CL := hide (fun (W : World) (hb : Below w.heap.size w W) (s l : Int) => level_any (HPl.out.at_ hb) (cN := cN) (en := en) (top := top) s l)
    clear ht
    go_enter Tryz.func57, Tryz.ntmps57
    go_upto_region 4 with (go_at_call 17; refine (CT.out _ HB1.out).mono ?_; rintro e w2 ⟨rfl, hb2⟩; have HB2 := hide (Below.step HB1.out hb2); have HP2 := hide (HP1.out.below hb2 HP1.out.lt); clear hb2)
    clear HB1 HP1
    obtain ⟨b2, hb2⟩ : ∃ b, w.heap.size = b := ⟨_, rfl⟩
    rw [hb2] at HP2
    rw [hb2]
    have Hb2 := hide hb2
    clear hb2
    have p0 := HP2.out.cell 0
    have p1 := HP2.out.cell 1
    have p2 := HP2.out.cell 2
    simp at p0 p1 p2
    go_wp2
    go_loopw [6, 7, 8] (fun at_ lv _ wr => ∃ (k : Nat) (l a : Int), at_ = .int .i64 a ∧ lv = .int .i64 l ∧ Hid (k = l.toNat ∧ k ≤ 7 ∧ (l ≤ 7)) ∧ Hid (∀ d, DownR ns qs k a d → DownR ns qs (lvN top) en d) ∧ Hid (Below w.heap.size w wr) ∧ Hid (Blk wr b2 24 #[.slice N nn cN, .int .i64 en, .int .i64 top])) (fun _ lv _ _ => (intOf lv).toNat)
    case atStart => exact ⟨lvN top, min top 7, en, rfl, rfl, hide ⟨rfl, by unfold lvN; omega, by omega⟩, hide (fun d h => h), HB2, HP2⟩
    case round =>
      obtain ⟨k, l, a, rfl, rfl, HK, HD, HB, HP⟩ := hrel
      clear HB2 HP2 p0 p1 p2
      by_cases hl : 0 < l
      · have b0 : decide (0 < l) = true := decide_eq_true hl
        obtain ⟨m, hm⟩ : ∃ m, k = m + 1 := ⟨k - 1, by have := HK.out.1; omega⟩
        subst hm
        have hl7 : l ≤ 7 := HK.out.2.2
        have hlm : ((m + 1 : Nat) : Int) = l := by have := HK.out.1; omega
        have HLm := hide hlm
        clear hlm
        have hwr : IntKind.i64.wrap (l - 1) = l - 1 := IntWalk.i64_in _ (by omega)
        have p0 := HP.out.cell 0
        have p1 := HP.out.cell 1
        have p2 := HP.out.cell 2
        simp at p0 p1 p2
        go_upto_region 8 with (go_at_call 73; refine (CL.out _ HB.out a l).mono ?_; rintro e w5 ⟨p, A5, n5, c5, rfl, m1, m2, m3, m4, m5, m6, hb5⟩; have HB5 := hide (Below.step HB.out hb5); have HP5 := hide (HP.out.below hb5 HP.out.lt); have HW := hide m1; have HLn := hide m2; have HN5 := hide m3; have HR := hide m6; clear hb5 m1 m2 m3 m6)
        have hpos : 0 < n5 := by have h := (List.getElem?_eq_some_iff.1 HW.out.p0).1; have := HLn.out; omega
        have hn21 : n5 ≤ 21 := by have h := HN5.out; rw [Hn.out] at h; omega
        obtain ⟨j, hj⟩ : ∃ j, n5 = j + 1 := ⟨n5 - 1, by omega⟩
        obtain ⟨ad5, t, rfl, _, hv, q0⟩ := RdR.cell HR.out (k := j) (by have := HLn.out; omega)
        have HV := hide (show p[p.length - 1]? = some t by rw [HLn.out, show n5 - 1 = j by omega]; exact hv)
        have j0 : (0 : Int) ≤ j := by omega
        have j1 : (j : Int) < n5 := by omega
        have hsub : (n5 : Int) - 1 = j := by omega
        have hwj : IntKind.i64.wrap ((n5 : Int) - 1) = j := by rw [IntWalk.i64_in _ (by omega)]; omega
        have hwj2 : IntKind.i64.wrap (j : Int) = j := IntWalk.i64_in _ (by omega)
        clear hv hj
        go_wp2
        go_roundw
        case rel => exact ⟨m, l - 1, t, rfl, rfl, hide ⟨by have := HLm.out; omega, by have := HK.out.2.1; omega, by omega⟩, hide (fun d hd => HD.out d ⟨p, t, by rw [HLm.out]; exact HW.out, HV.out, hd⟩), HB5, HP5⟩
        case measure => simp [intOf]; omega
      · have b0 : decide (0 < l) = false := decide_eq_false hl
        have HDn := hide (HD.out a (by have := HK.out.1; rw [show k = 0 by omega]; rfl))
        go_wp2
        go_ret2
        exact ⟨a, rfl, by first | exact HDn.out | (rw [if_pos rfl]; exact HDn.out), HB.out⟩
end
end Go.Proofs.YtgiplahhalgbdaaGreat
