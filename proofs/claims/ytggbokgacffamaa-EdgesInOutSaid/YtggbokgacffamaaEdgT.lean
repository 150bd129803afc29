/-
  The law's own probes (lives). No condition.
-/
import Derived.Test.YtggbokgacffamaaEdgS
namespace Go.Proofs.Ytggbokgacffamaa
open Go.RowKit

theorem stab_blk (g : Nat) (t : TypeId) (cs : Array Value) : Stab (fun W => Blk W g t cs) := fun _ _ h hb => h.below hb h.lt
theorem Flat.blkE {α : Type} {S : Sh α} {enc : α → List Value} (h : Flat S enc) {w : World} {g B : Nat} {t : TypeId} {cs : Array Value} {l : List α} (hb : Blk w g t cs) (e : cs.toList = fcs enc l) (hB : g < B) : Rd S w B (some ⟨g, 0, none⟩) l :=
  h.mk_ (R := fun b => b < B) (ad := ⟨g, 0, none⟩) hB fun j u hu => by rw [add_mk, Nat.zero_add, hb.cell j, ← Array.getElem?_toList, e]; exact hu
def lvI : List ItemP := [(1, [3], 0), (2, [-3], 0)]
theorem lit_items (w : World) (g a b : Nat) (h : Blk w g 44 #[.int .u64 1, .slice (some ⟨a, 0, none⟩) 1 1, .int .u64 0, .int .u64 2, .slice (some ⟨b, 0, none⟩) 1 1, .int .u64 0])
    (ha : Blk w a 21 #[.int .i32 3]) (hb : Blk w b 21 #[.int .i32 (-3)]) : Rd SItem w w.heap.size (some ⟨g, 0, none⟩) lvI := fun _ => by
  refine ⟨⟨g, 0, none⟩, rfl, h.lt, fun k x hx => ?_⟩
  have one : ∀ (p : Nat) (v : Int), Blk w p 21 #[.int .i32 v] → Rd (Sh.int .i32) w w.heap.size (some ⟨p, 0, none⟩) [v] := fun p v hp => (flatInt .i32).blkE hp rfl hp.lt
  have rdI : ∀ (p : Nat) (id v t : Int), Blk w p 21 #[.int .i32 v] → SItem.rd w (fun b => b < w.heap.size) (id, [v], t) [.int .u64 id, .slice (some ⟨p, 0, none⟩) 1 1, .int .u64 t] := fun p id v t hp =>
    ⟨[.int .u64 id], [.slice (some ⟨p, 0, none⟩) 1 1, .int .u64 t], rfl, rfl, [.slice (some ⟨p, 0, none⟩) 1 1], [.int .u64 t], rfl, ⟨some ⟨p, 0, none⟩, 1, rfl, Nat.le_refl _, by omega, one p v hp⟩, rfl⟩
  have cl : ∀ j, w.cell? (Addr.add ⟨g, 0, none⟩ j) = (#[.int .u64 1, .slice (some ⟨a, 0, none⟩) 1 1, .int .u64 0, .int .u64 2, .slice (some ⟨b, 0, none⟩) 1 1, .int .u64 0] : Array Value)[j]? := fun j => by rw [add_mk, Nat.zero_add]; exact h.cell j
  rcases k with _ | _ | k
  · obtain rfl : (1, [3], 0) = x := by simpa [lvI] using hx
    refine ⟨_, rdI a 1 3 0 ha, fun j u hu => ?_⟩
    rw [cl]
    rcases j with _ | _ | _ | j <;> simp at hu <;> subst hu <;> rfl
  · obtain rfl : (2, [-3], 0) = x := by simpa [lvI] using hx
    refine ⟨_, rdI b 2 (-3) 0 hb, fun j u hu => ?_⟩
    rw [cl]
    rcases j with _ | _ | _ | j <;> simp at hu <;> subst hu <;> rfl
  · simp [lvI] at hx
theorem lvI_I : ItsI lvI := by unfold ItsI I32 lvI; decide
theorem lv_far : svF (farF [0] [5, 7, 6] lvI) = .agg #[.int .u64 9, .int .u64 2, .int .i64 7] := by
  rw [show farF [0] [5, 7, 6] lvI = ((9, 2), 7) by decide]; rfl
set_option maxHeartbeats 4000000 in
set_option maxRecDepth 100000 in
theorem lives_any (w : World) : Calls Try.prog 5 #[] w fun e w' => e = .returned (.bool true) ∧ Below w.heap.size w w' := by
  have HK := hide (Below.refl w.heap.size w)
  go_enter Try.func5, Try.ntmps5
  go_wp2_with fail
  refine (Stab.call (K := (fun W => Below w.heap.size w W)) (stab_below w) HK.out ((((((Below.refl _ w).alloc (by first | exact Nat.le_refl _ | (simp; done) | (simp; omega)) (.cells #[.int .i32 0] 21)).alloc (by first | exact Nat.le_refl _ | (simp; done) | (simp; omega)) (.cells #[.int .i64 5, .int .i64 7, .int .i64 6] 3)).alloc (by first | exact Nat.le_refl _ | (simp; done) | (simp; omega)) (.cells #[.int .i32 3] 21)).alloc (by first | exact Nat.le_refl _ | (simp; done) | (simp; omega)) (.cells #[.int .i32 (-3)] 21)).alloc (by first | exact Nat.le_refl _ | (simp; done) | (simp; omega)) (.cells #[.int .u64 1, .slice (some ⟨w.heap.size + 1 + 1, 0, none⟩) 1 1, .int .u64 0, .int .u64 2, .slice (some ⟨w.heap.size + 1 + 1 + 1, 0, none⟩) 1 1, .int .u64 0] 44)) (.tuple #[.agg #[.int .u64 9, .int .u64 2, .int .i64 7], .bool true]) (eFar_any (some ⟨w.heap.size + 1, 0, none⟩) (some ⟨w.heap.size, 0, none⟩) (some ⟨w.heap.size + 1 + 1 + 1 + 1, 0, none⟩) 3 3 1 1 2 2 [5, 7, 6] [0] lvI (((((w.alloc (.cells #[.int .i32 0] 21)).alloc (.cells #[.int .i64 5, .int .i64 7, .int .i64 6] 3)).alloc (.cells #[.int .i32 3] 21)).alloc (.cells #[.int .i32 (-3)] 21)).alloc (.cells #[.int .u64 1, .slice (some ⟨w.heap.size + 1 + 1, 0, none⟩) 1 1, .int .u64 0, .int .u64 2, .slice (some ⟨w.heap.size + 1 + 1 + 1, 0, none⟩) 1 1, .int .u64 0] 44)) (lit_at [5, 7, 6] ((((Blk.new_at (w := (w.alloc (.cells #[.int .i32 0] 21))) (g := w.heap.size + 1) (by simp) 3 #[.int .i64 5, .int .i64 7, .int .i64 6]).alloc _).alloc _).alloc _) (by first | (simp; done) | (simp; omega))) rfl (by omega) (by omega) (lit_at [0] (((((Blk.new_at (w := w) (g := w.heap.size) (by simp) 21 #[.int .i32 0]).alloc _).alloc _).alloc _).alloc _) (by first | (simp; done) | (simp; omega))) rfl (by unfold I32; decide) (by omega) (by omega) (lit_items _ (w.heap.size + 1 + 1 + 1 + 1) (w.heap.size + 1 + 1) (w.heap.size + 1 + 1 + 1) (Blk.new_at (w := ((((w.alloc (.cells #[.int .i32 0] 21)).alloc (.cells #[.int .i64 5, .int .i64 7, .int .i64 6] 3)).alloc (.cells #[.int .i32 3] 21)).alloc (.cells #[.int .i32 (-3)] 21))) (g := w.heap.size + 1 + 1 + 1 + 1) (by simp) 44 #[.int .u64 1, .slice (some ⟨w.heap.size + 1 + 1, 0, none⟩) 1 1, .int .u64 0, .int .u64 2, .slice (some ⟨w.heap.size + 1 + 1 + 1, 0, none⟩) 1 1, .int .u64 0]) (((Blk.new_at (w := ((w.alloc (.cells #[.int .i32 0] 21)).alloc (.cells #[.int .i64 5, .int .i64 7, .int .i64 6] 3))) (g := w.heap.size + 1 + 1) (by simp) 21 #[.int .i32 3]).alloc _).alloc _) ((Blk.new_at (w := (((w.alloc (.cells #[.int .i32 0] 21)).alloc (.cells #[.int .i64 5, .int .i64 7, .int .i64 6] 3)).alloc (.cells #[.int .i32 3] 21))) (g := w.heap.size + 1 + 1 + 1) (by simp) 21 #[.int .i32 (-3)]).alloc _)) rfl lvI_I (by omega) (by omega) (by omega)) (by rw [lv_far]; rfl)).mono ?_
  rintro e w1 ⟨rfl, hK⟩
  have HK' := hide hK
  clear hK HK
  have HK := HK'
  clear HK'
  go_wp2_with fail
  refine (eFar_any none none none 0 0 0 0 0 0 [] [] [] (w1.alloc (.cells #[.int .u64 9, .int .u64 2, .int .i64 7] 30)) Rd.start rfl (by omega) (by omega) Rd.start rfl (by unfold I32; decide) (by omega) (by omega) Rd.start rfl (fun x hx => by simp at hx) (by omega) (by omega) (by omega)).mono ?_
  rintro e w2 ⟨rfl, hb⟩
  rw [show svF (farF [] [] []) = .agg #[.int .u64 0, .int .u64 0, .int .i64 0] from rfl, show decide (0 < 0) = false from rfl]
  have HN := Blk.below (Blk.new_at (w := w1) (g := w1.heap.size) (by simp) 30 #[.int .u64 9, .int .u64 2, .int .i64 7]) hb (by first | (simp; done) | (simp; omega))
  have hb2 := Below.step ((Below.refl _ w1).alloc (by first | exact Nat.le_refl _ | (simp; done) | (simp; omega)) (.cells #[.int .u64 9, .int .u64 2, .int .i64 7] 30)) hb
  clear hb
  have HK1 : Hid (Below w.heap.size w w2 ∧ Blk w2 w1.heap.size 30 #[.int .u64 9, .int .u64 2, .int .i64 7]) := hide (⟨((stab_below w) w1 w2 HK.out hb2), HN⟩)
  clear HK hb2
  have HK := HK1
  clear HK1
  clear HN
  go_wp2_with fail
  refine (Stab.call (K := (fun W => Below w.heap.size w W ∧ Blk W w1.heap.size 30 #[.int .u64 9, .int .u64 2, .int .i64 7])) (stab_and (stab_below w) (stab_blk w1.heap.size 30 #[.int .u64 9, .int .u64 2, .int .i64 7])) HK.out ((Below.refl _ w2).alloc (by first | exact Nat.le_refl _ | (simp; done) | (simp; omega)) (.cells #[.int .u64 0, .int .u64 0, .int .i64 0] 30)) (.int .i64 8) (calls_same (most_any 4 0 _)) (congrArg (Value.int .i64) (by decide))).mono ?_
  rintro e w3 ⟨rfl, hK⟩
  have HK' := hide hK
  clear hK HK
  have HK := HK'
  clear HK'
  go_wp2_with fail
  refine (Stab.call (K := (fun W => Below w.heap.size w W ∧ Blk W w1.heap.size 30 #[.int .u64 9, .int .u64 2, .int .i64 7])) (stab_and (stab_below w) (stab_blk w1.heap.size 30 #[.int .u64 9, .int .u64 2, .int .i64 7])) HK.out (Below.refl _ w3) (.int .i64 32) (calls_same (most_any 99 1 _)) (congrArg (Value.int .i64) (by decide))).mono ?_
  rintro e w4 ⟨rfl, hK⟩
  have HK' := hide hK
  clear hK HK
  have HK := HK'
  clear HK'
  go_wp2_with fail
  refine (Stab.call (K := (fun W => Below w.heap.size w W ∧ Blk W w1.heap.size 30 #[.int .u64 9, .int .u64 2, .int .i64 7])) (stab_and (stab_below w) (stab_blk w1.heap.size 30 #[.int .u64 9, .int .u64 2, .int .i64 7])) HK.out (Below.refl _ w4) (.int .i64 1) (calls_same (most_any (-1) 2 _)) (congrArg (Value.int .i64) (by decide))).mono ?_
  rintro e w5 ⟨rfl, hK⟩
  have HK' := hide hK
  clear hK HK
  have HK := HK'
  clear HK'
  go_wp2_with fail
  refine (eWith_any (some ⟨w5.heap.size, 0, none⟩) 1 1 [1] 2 (w5.alloc (.cells #[.int .i64 1] 3)) (lit_at [1] (Blk.new_at (w := w5) (g := w5.heap.size) (by simp) 3 #[.int .i64 1]) (by first | (simp; done) | (simp; omega))) rfl (by decide) (by decide) (by decide)).mono ?_
  rintro e w6 ⟨vA1, rfl, hN⟩
  obtain ⟨A1, nA1, cA1, rfl, hlA1, hcA1, hmA1, hR, hb⟩ := hN
  have HLA1 := hide hlA1
  have HR := hR.rd (B := w6.heap.size) fun b hb => hb.2
  have hb := Below.step ((Below.refl _ w5).alloc (by first | exact Nat.le_refl _ | (simp; done) | (simp; omega)) (.cells #[.int .i64 1] 3)) hb
  clear hR hlA1
  have HK1 : Hid (Below w.heap.size w w6 ∧ Blk w6 w1.heap.size 30 #[.int .u64 9, .int .u64 2, .int .i64 7] ∧ Rd (Sh.int .i64) w6 w6.heap.size A1 (withF [1] 2)) := hide (⟨((stab_below w) w5 w6 HK.out.1 hb), ((stab_blk w1.heap.size 30 #[.int .u64 9, .int .u64 2, .int .i64 7]) w5 w6 HK.out.2 hb), HR⟩)
  clear HK hb
  have HK := HK1
  clear HK1
  clear HR
  go_wp2_with fail
  refine (Stab.call (K := (fun W => Below w.heap.size w W ∧ Blk W w1.heap.size 30 #[.int .u64 9, .int .u64 2, .int .i64 7] ∧ Rd (Sh.int .i64) W W.heap.size A1 (withF [1] 2))) (stab_and (stab_below w) (stab_and (stab_blk w1.heap.size 30 #[.int .u64 9, .int .u64 2, .int .i64 7]) (stab_rd (Sh.int .i64) A1 (withF [1] 2)))) HK.out ((Below.refl _ w6).alloc (by first | exact Nat.le_refl _ | (simp; done) | (simp; omega)) (.cells #[.int .i64 1, .int .i64 2] 3)) (.bool true) (calls_drew (sameInts_any A1 (some ⟨w6.heap.size, 0, none⟩) nA1 cA1 2 2 (withF [1] 2) [1, 2] _ ((stab_rd (Sh.int .i64) A1 (withF [1] 2)) w6 (w6.alloc (.cells #[.int .i64 1, .int .i64 2] 3)) HK.out.2.2 ((Below.refl _ w6).alloc (by first | exact Nat.le_refl _ | (simp; done) | (simp; omega)) (.cells #[.int .i64 1, .int .i64 2] 3))) HLA1.out hcA1 hmA1 (lit_at [1, 2] (Blk.new_at (w := w6) (g := w6.heap.size) (by simp) 3 #[.int .i64 1, .int .i64 2]) (by first | (simp; done) | (simp; omega))) rfl (by decide) (by decide))) (congrArg Value.bool (by decide))).mono ?_
  rintro e w7 ⟨rfl, hK⟩
  have HK' := hide hK
  clear hK HK
  have HK := HK'
  clear HK'
  go_wp2_with fail
  refine (eWith_any (some ⟨w7.heap.size, 0, none⟩) 1 1 [1] 1 (w7.alloc (.cells #[.int .i64 1] 3)) (lit_at [1] (Blk.new_at (w := w7) (g := w7.heap.size) (by simp) 3 #[.int .i64 1]) (by first | (simp; done) | (simp; omega))) rfl (by decide) (by decide) (by decide)).mono ?_
  rintro e w8 ⟨vA2, rfl, hN⟩
  obtain ⟨A2, nA2, cA2, rfl, hlA2, hcA2, hmA2, hR, hb⟩ := hN
  have HLA2 := hide hlA2
  have HR := hR.rd (B := w8.heap.size) fun b hb => hb.2
  have hb := Below.step ((Below.refl _ w7).alloc (by first | exact Nat.le_refl _ | (simp; done) | (simp; omega)) (.cells #[.int .i64 1] 3)) hb
  clear hR hlA2
  have HK1 : Hid (Below w.heap.size w w8 ∧ Blk w8 w1.heap.size 30 #[.int .u64 9, .int .u64 2, .int .i64 7] ∧ Rd (Sh.int .i64) w8 w8.heap.size A1 (withF [1] 2) ∧ Rd (Sh.int .i64) w8 w8.heap.size A2 (withF [1] 1)) := hide (⟨((stab_below w) w7 w8 HK.out.1 hb), ((stab_blk w1.heap.size 30 #[.int .u64 9, .int .u64 2, .int .i64 7]) w7 w8 HK.out.2.1 hb), ((stab_rd (Sh.int .i64) A1 (withF [1] 2)) w7 w8 HK.out.2.2 hb), HR⟩)
  clear HK hb
  have HK := HK1
  clear HK1
  clear HR
  go_wp2_with fail
  refine (Stab.call (K := (fun W => Below w.heap.size w W ∧ Blk W w1.heap.size 30 #[.int .u64 9, .int .u64 2, .int .i64 7] ∧ Rd (Sh.int .i64) W W.heap.size A1 (withF [1] 2) ∧ Rd (Sh.int .i64) W W.heap.size A2 (withF [1] 1))) (stab_and (stab_below w) (stab_and (stab_blk w1.heap.size 30 #[.int .u64 9, .int .u64 2, .int .i64 7]) (stab_and (stab_rd (Sh.int .i64) A1 (withF [1] 2)) (stab_rd (Sh.int .i64) A2 (withF [1] 1))))) HK.out ((Below.refl _ w8).alloc (by first | exact Nat.le_refl _ | (simp; done) | (simp; omega)) (.cells #[.int .i64 1] 3)) (.bool true) (calls_drew (sameInts_any A2 (some ⟨w8.heap.size, 0, none⟩) nA2 cA2 1 1 (withF [1] 1) [1] _ ((stab_rd (Sh.int .i64) A2 (withF [1] 1)) w8 (w8.alloc (.cells #[.int .i64 1] 3)) HK.out.2.2.2 ((Below.refl _ w8).alloc (by first | exact Nat.le_refl _ | (simp; done) | (simp; omega)) (.cells #[.int .i64 1] 3))) HLA2.out hcA2 hmA2 (lit_at [1] (Blk.new_at (w := w8) (g := w8.heap.size) (by simp) 3 #[.int .i64 1]) (by first | (simp; done) | (simp; omega))) rfl (by decide) (by decide))) (congrArg Value.bool (by decide))).mono ?_
  rintro e w9 ⟨rfl, hK⟩
  have HK' := hide hK
  clear hK HK
  have HK := HK'
  clear HK'
  go_wp2_with fail
  refine (eWithout_any (some ⟨w9.heap.size, 0, none⟩) 3 3 [1, 2, 1] 1 (w9.alloc (.cells #[.int .i64 1, .int .i64 2, .int .i64 1] 3)) (lit_at [1, 2, 1] (Blk.new_at (w := w9) (g := w9.heap.size) (by simp) 3 #[.int .i64 1, .int .i64 2, .int .i64 1]) (by first | (simp; done) | (simp; omega))) rfl (by decide) (by decide) (by decide)).mono ?_
  rintro e w10 ⟨vA3, rfl, hN⟩
  obtain ⟨A3, nA3, cA3, rfl, hlA3, hcA3, hmA3, hR, hb⟩ := hN
  have HLA3 := hide hlA3
  have HR := hR.rd (B := w10.heap.size) fun b hb => hb.2
  have hb := Below.step ((Below.refl _ w9).alloc (by first | exact Nat.le_refl _ | (simp; done) | (simp; omega)) (.cells #[.int .i64 1, .int .i64 2, .int .i64 1] 3)) hb
  clear hR hlA3
  have HK1 : Hid (Below w.heap.size w w10 ∧ Blk w10 w1.heap.size 30 #[.int .u64 9, .int .u64 2, .int .i64 7] ∧ Rd (Sh.int .i64) w10 w10.heap.size A1 (withF [1] 2) ∧ Rd (Sh.int .i64) w10 w10.heap.size A2 (withF [1] 1) ∧ Rd (Sh.int .i64) w10 w10.heap.size A3 (woF [1, 2, 1] 1)) := hide (⟨((stab_below w) w9 w10 HK.out.1 hb), ((stab_blk w1.heap.size 30 #[.int .u64 9, .int .u64 2, .int .i64 7]) w9 w10 HK.out.2.1 hb), ((stab_rd (Sh.int .i64) A1 (withF [1] 2)) w9 w10 HK.out.2.2.1 hb), ((stab_rd (Sh.int .i64) A2 (withF [1] 1)) w9 w10 HK.out.2.2.2 hb), HR⟩)
  clear HK hb
  have HK := HK1
  clear HK1
  clear HR
  go_wp2_with fail
  refine (Stab.call (K := (fun W => Below w.heap.size w W ∧ Blk W w1.heap.size 30 #[.int .u64 9, .int .u64 2, .int .i64 7] ∧ Rd (Sh.int .i64) W W.heap.size A1 (withF [1] 2) ∧ Rd (Sh.int .i64) W W.heap.size A2 (withF [1] 1) ∧ Rd (Sh.int .i64) W W.heap.size A3 (woF [1, 2, 1] 1))) (stab_and (stab_below w) (stab_and (stab_blk w1.heap.size 30 #[.int .u64 9, .int .u64 2, .int .i64 7]) (stab_and (stab_rd (Sh.int .i64) A1 (withF [1] 2)) (stab_and (stab_rd (Sh.int .i64) A2 (withF [1] 1)) (stab_rd (Sh.int .i64) A3 (woF [1, 2, 1] 1)))))) HK.out ((Below.refl _ w10).alloc (by first | exact Nat.le_refl _ | (simp; done) | (simp; omega)) (.cells #[.int .i64 2] 3)) (.bool true) (calls_drew (sameInts_any A3 (some ⟨w10.heap.size, 0, none⟩) nA3 cA3 1 1 (woF [1, 2, 1] 1) [2] _ ((stab_rd (Sh.int .i64) A3 (woF [1, 2, 1] 1)) w10 (w10.alloc (.cells #[.int .i64 2] 3)) HK.out.2.2.2.2 ((Below.refl _ w10).alloc (by first | exact Nat.le_refl _ | (simp; done) | (simp; omega)) (.cells #[.int .i64 2] 3))) HLA3.out hcA3 hmA3 (lit_at [2] (Blk.new_at (w := w10) (g := w10.heap.size) (by simp) 3 #[.int .i64 2]) (by first | (simp; done) | (simp; omega))) rfl (by decide) (by decide))) (congrArg Value.bool (by decide))).mono ?_
  rintro e w11 ⟨rfl, hK⟩
  have HK' := hide hK
  clear hK HK
  have HK := HK'
  clear HK'
  go_wp2_with fail
  refine (Stab.call (K := (fun W => Below w.heap.size w W ∧ Blk W w1.heap.size 30 #[.int .u64 9, .int .u64 2, .int .i64 7] ∧ Rd (Sh.int .i64) W W.heap.size A1 (withF [1] 2) ∧ Rd (Sh.int .i64) W W.heap.size A2 (withF [1] 1) ∧ Rd (Sh.int .i64) W W.heap.size A3 (woF [1, 2, 1] 1))) (stab_and (stab_below w) (stab_and (stab_blk w1.heap.size 30 #[.int .u64 9, .int .u64 2, .int .i64 7]) (stab_and (stab_rd (Sh.int .i64) A1 (withF [1] 2)) (stab_and (stab_rd (Sh.int .i64) A2 (withF [1] 1)) (stab_rd (Sh.int .i64) A3 (woF [1, 2, 1] 1)))))) HK.out ((Below.refl _ w11).alloc (by first | exact Nat.le_refl _ | (simp; done) | (simp; omega)) (.cells #[.int .i64 4] 3)) (.bool true) (calls_same (eHas_any (some ⟨w11.heap.size, 0, none⟩) 1 1 [4] 4 _ (lit_at [4] (Blk.new_at (w := w11) (g := w11.heap.size) (by simp) 3 #[.int .i64 4]) (by first | (simp; done) | (simp; omega))) rfl (by decide) (by decide))) (congrArg Value.bool (by decide))).mono ?_
  rintro e w12 ⟨rfl, hK⟩
  have HK' := hide hK
  clear hK HK
  have HK := HK'
  clear HK'
  go_wp2_with fail
  refine (Stab.call (K := (fun W => Below w.heap.size w W ∧ Blk W w1.heap.size 30 #[.int .u64 9, .int .u64 2, .int .i64 7] ∧ Rd (Sh.int .i64) W W.heap.size A1 (withF [1] 2) ∧ Rd (Sh.int .i64) W W.heap.size A2 (withF [1] 1) ∧ Rd (Sh.int .i64) W W.heap.size A3 (woF [1, 2, 1] 1))) (stab_and (stab_below w) (stab_and (stab_blk w1.heap.size 30 #[.int .u64 9, .int .u64 2, .int .i64 7]) (stab_and (stab_rd (Sh.int .i64) A1 (withF [1] 2)) (stab_and (stab_rd (Sh.int .i64) A2 (withF [1] 1)) (stab_rd (Sh.int .i64) A3 (woF [1, 2, 1] 1)))))) HK.out (Below.refl _ w12) (.bool false) (calls_same (eHas_any none 0 0 [] 4 _ Rd.start rfl (by decide) (by decide))) (congrArg Value.bool (by decide))).mono ?_
  rintro e w13 ⟨rfl, hK⟩
  have HK' := hide hK
  clear hK HK
  have HK := HK'
  clear HK'
  go_wp2_with fail
  refine (Stab.call (K := (fun W => Below w.heap.size w W ∧ Blk W w1.heap.size 30 #[.int .u64 9, .int .u64 2, .int .i64 7] ∧ Rd (Sh.int .i64) W W.heap.size A1 (withF [1] 2) ∧ Rd (Sh.int .i64) W W.heap.size A2 (withF [1] 1) ∧ Rd (Sh.int .i64) W W.heap.size A3 (woF [1, 2, 1] 1))) (stab_and (stab_below w) (stab_and (stab_blk w1.heap.size 30 #[.int .u64 9, .int .u64 2, .int .i64 7]) (stab_and (stab_rd (Sh.int .i64) A1 (withF [1] 2)) (stab_and (stab_rd (Sh.int .i64) A2 (withF [1] 1)) (stab_rd (Sh.int .i64) A3 (woF [1, 2, 1] 1)))))) HK.out ((Below.refl _ w13).alloc (by first | exact Nat.le_refl _ | (simp; done) | (simp; omega)) (.cells #[.int .i64 2, .int .i64 3] 3)) (.bool true) (eRight_any (some ⟨w13.heap.size, 0, none⟩) 2 2 [2, 3] 1 1 0 3 _ (lit_at [2, 3] (Blk.new_at (w := w13) (g := w13.heap.size) (by simp) 3 #[.int .i64 2, .int .i64 3]) (by first | (simp; done) | (simp; omega))) rfl (by decide) (by decide) (by unfold I64; decide)) (congrArg Value.bool (decide_eq_true (by unfold rightE okE; decide)))).mono ?_
  rintro e w14 ⟨rfl, hK⟩
  have HK' := hide hK
  clear hK HK
  have HK := HK'
  clear HK'
  go_wp2_with fail
  refine (Stab.call (K := (fun W => Below w.heap.size w W ∧ Blk W w1.heap.size 30 #[.int .u64 9, .int .u64 2, .int .i64 7] ∧ Rd (Sh.int .i64) W W.heap.size A1 (withF [1] 2) ∧ Rd (Sh.int .i64) W W.heap.size A2 (withF [1] 1) ∧ Rd (Sh.int .i64) W W.heap.size A3 (woF [1, 2, 1] 1))) (stab_and (stab_below w) (stab_and (stab_blk w1.heap.size 30 #[.int .u64 9, .int .u64 2, .int .i64 7]) (stab_and (stab_rd (Sh.int .i64) A1 (withF [1] 2)) (stab_and (stab_rd (Sh.int .i64) A2 (withF [1] 1)) (stab_rd (Sh.int .i64) A3 (woF [1, 2, 1] 1)))))) HK.out ((Below.refl _ w14).alloc (by first | exact Nat.le_refl _ | (simp; done) | (simp; omega)) (.cells #[.int .i64 2, .int .i64 3] 3)) (.bool false) (eRight_any (some ⟨w14.heap.size, 0, none⟩) 2 2 [2, 3] 1 1 1 3 _ (lit_at [2, 3] (Blk.new_at (w := w14) (g := w14.heap.size) (by simp) 3 #[.int .i64 2, .int .i64 3]) (by first | (simp; done) | (simp; omega))) rfl (by decide) (by decide) (by unfold I64; decide)) (congrArg Value.bool (decide_eq_false (by unfold rightE okE; decide)))).mono ?_
  rintro e w15 ⟨rfl, hK⟩
  have HK' := hide hK
  clear hK HK
  have HK := HK'
  clear HK'
  go_wp2_with fail
  refine (Stab.call (K := (fun W => Below w.heap.size w W ∧ Blk W w1.heap.size 30 #[.int .u64 9, .int .u64 2, .int .i64 7] ∧ Rd (Sh.int .i64) W W.heap.size A1 (withF [1] 2) ∧ Rd (Sh.int .i64) W W.heap.size A2 (withF [1] 1) ∧ Rd (Sh.int .i64) W W.heap.size A3 (woF [1, 2, 1] 1))) (stab_and (stab_below w) (stab_and (stab_blk w1.heap.size 30 #[.int .u64 9, .int .u64 2, .int .i64 7]) (stab_and (stab_rd (Sh.int .i64) A1 (withF [1] 2)) (stab_and (stab_rd (Sh.int .i64) A2 (withF [1] 1)) (stab_rd (Sh.int .i64) A3 (woF [1, 2, 1] 1)))))) HK.out ((Below.refl _ w15).alloc (by first | exact Nat.le_refl _ | (simp; done) | (simp; omega)) (.cells #[.int .i64 4] 3)) (.bool false) (eRight_any (some ⟨w15.heap.size, 0, none⟩) 1 1 [4] 1 1 1 3 _ (lit_at [4] (Blk.new_at (w := w15) (g := w15.heap.size) (by simp) 3 #[.int .i64 4]) (by first | (simp; done) | (simp; omega))) rfl (by decide) (by decide) (by unfold I64; decide)) (congrArg Value.bool (decide_eq_false (by unfold rightE okE; decide)))).mono ?_
  rintro e w16 ⟨rfl, hK⟩
  have HK' := hide hK
  clear hK HK
  have HK := HK'
  clear HK'
  have HN := hide HK.out.2.1
  have z0 : w16.cell? ⟨w1.heap.size, 0, none⟩ = some (.int .u64 9) := HN.out.cell 0
  have z1 : w16.cell? ⟨w1.heap.size, 1, none⟩ = some (.int .u64 2) := HN.out.cell 1
  have z2 : w16.cell? ⟨w1.heap.size, 2, none⟩ = some (.int .i64 7) := HN.out.cell 2
  have he := run_eql_spot 9 2 7 9 2 7 (r := true) rfl
  go_wp2_with fail
  refine (ePairs_any (some ⟨w16.heap.size, 0, none⟩) 3 3 [1, 2, 3] (w16.alloc (.cells #[.int .i64 1, .int .i64 2, .int .i64 3] 3)) (lit_at [1, 2, 3] (Blk.new_at (w := w16) (g := w16.heap.size) (by simp) 3 #[.int .i64 1, .int .i64 2, .int .i64 3]) (by first | (simp; done) | (simp; omega))) rfl (by decide) (by decide) (by decide)).mono ?_
  rintro e w17 ⟨vA4, rfl, hN⟩
  obtain ⟨A4, nA4, cA4, rfl, hlA4, hcA4, hmA4, hR, hb⟩ := hN
  have HLA4 := hide hlA4
  have HR := hR.rd (B := w17.heap.size) fun b hb => hb.2
  have hb := Below.step ((Below.refl _ w16).alloc (by first | exact Nat.le_refl _ | (simp; done) | (simp; omega)) (.cells #[.int .i64 1, .int .i64 2, .int .i64 3] 3)) hb
  clear hR hlA4
  have HK1 : Hid (Below w.heap.size w w17 ∧ Blk w17 w1.heap.size 30 #[.int .u64 9, .int .u64 2, .int .i64 7] ∧ Rd (Sh.int .i64) w17 w17.heap.size A1 (withF [1] 2) ∧ Rd (Sh.int .i64) w17 w17.heap.size A2 (withF [1] 1) ∧ Rd (Sh.int .i64) w17 w17.heap.size A3 (woF [1, 2, 1] 1) ∧ Rd SPr w17 w17.heap.size A4 (pairsF [1, 2, 3])) := hide (⟨((stab_below w) w16 w17 HK.out.1 hb), ((stab_blk w1.heap.size 30 #[.int .u64 9, .int .u64 2, .int .i64 7]) w16 w17 HK.out.2.1 hb), ((stab_rd (Sh.int .i64) A1 (withF [1] 2)) w16 w17 HK.out.2.2.1 hb), ((stab_rd (Sh.int .i64) A2 (withF [1] 1)) w16 w17 HK.out.2.2.2.1 hb), ((stab_rd (Sh.int .i64) A3 (woF [1, 2, 1] 1)) w16 w17 HK.out.2.2.2.2 hb), HR⟩)
  clear HK hb
  have HK := HK1
  clear HK1
  clear HR
  clear z0 z1 z2 HN
  go_wp2_with fail
  refine (Stab.call (K := (fun W => Below w.heap.size w W ∧ Blk W w1.heap.size 30 #[.int .u64 9, .int .u64 2, .int .i64 7] ∧ Rd (Sh.int .i64) W W.heap.size A1 (withF [1] 2) ∧ Rd (Sh.int .i64) W W.heap.size A2 (withF [1] 1) ∧ Rd (Sh.int .i64) W W.heap.size A3 (woF [1, 2, 1] 1) ∧ Rd SPr W W.heap.size A4 (pairsF [1, 2, 3]))) (stab_and (stab_below w) (stab_and (stab_blk w1.heap.size 30 #[.int .u64 9, .int .u64 2, .int .i64 7]) (stab_and (stab_rd (Sh.int .i64) A1 (withF [1] 2)) (stab_and (stab_rd (Sh.int .i64) A2 (withF [1] 1)) (stab_and (stab_rd (Sh.int .i64) A3 (woF [1, 2, 1] 1)) (stab_rd SPr A4 (pairsF [1, 2, 3]))))))) HK.out ((Below.refl _ w17).alloc (by first | exact Nat.le_refl _ | (simp; done) | (simp; omega)) (.cells #[.int .i64 1, .int .i64 2, .int .i64 2, .int .i64 3] 45)) (.bool true) (calls_drew (samePairs_any A4 (some ⟨w17.heap.size, 0, none⟩) nA4 cA4 2 2 (pairsF [1, 2, 3]) [(1, 2), (2, 3)] _ ((stab_rd SPr A4 (pairsF [1, 2, 3])) w17 (w17.alloc (.cells #[.int .i64 1, .int .i64 2, .int .i64 2, .int .i64 3] 45)) HK.out.2.2.2.2.2 ((Below.refl _ w17).alloc (by first | exact Nat.le_refl _ | (simp; done) | (simp; omega)) (.cells #[.int .i64 1, .int .i64 2, .int .i64 2, .int .i64 3] 45))) HLA4.out hcA4 hmA4 (flatP.blkE (Blk.new_at (w := w17) (g := w17.heap.size) (by simp) 45 #[.int .i64 1, .int .i64 2, .int .i64 2, .int .i64 3]) rfl (by first | (simp; done) | (simp; omega))) rfl (by decide) (by decide))) (congrArg Value.bool (by decide))).mono ?_
  rintro e w18 ⟨rfl, hK⟩
  have HK' := hide hK
  clear hK HK
  have HK := HK'
  clear HK'
  go_wp2_with fail
  go_ret
  exact ⟨rfl, HK.out.1⟩
end Go.Proofs.Ytggbokgacffamaa
