/-
  The package arena: Alloc and Free. Conditions: the arena's blocks lie as said, its lists fit each other.
-/
import Derived.Test.YtoodcfldnojkjabArnB
namespace Go.Proofs.Ytoodcfldnojkjab
open Go.RowKit

def ArnDone (w : World) (B P Q : Nat) (fv : Value) (s : Arn) (v : Value) (e : Ending) (w' : World) : Prop :=
  ∃ fv', e = .returned v ∧ ArnAt w' B P Q fv' s ∧ Turned w w' P Q fv ∧ (fv'.ownBlock = fv.ownBlock ∨ ∃ g, fv'.ownBlock = some g ∧ w.heap.size ≤ g)
theorem Two.lt {w : World} {P Q : Nat} {fv : Value} {S G : List Int} (h : Two w P Q fv S G) : P < w.heap.size ∧ Q < w.heap.size := ⟨h.hP.lt, h.hQ.lt⟩
theorem arn_alloc {w : World} {B P Q : Nat} {fv : Value} {s : Arn} (h : ArnAt w B P Q fv s) (o : Obj) : ArnAt (w.alloc o) B P Q fv s :=
  ⟨⟨h.two.hP.alloc o, h.two.hQ.alloc o⟩, h.own.alloc o, h.hP, h.hQ⟩
theorem turned_alloc (w : World) (P Q : Nat) (fv : Value) (o : Obj) : Turned w (w.alloc o) P Q fv := ⟨rfl, rfl, rfl, by simp, fun k hk _ _ _ => Below.heap_alloc w o k hk⟩
theorem Turned.trans {w w' w'' : World} {P Q : Nat} {fv fv' : Value} (h : Turned w w' P Q fv) (k : Turned w' w'' P Q fv') (hf : fv'.ownBlock = fv.ownBlock ∨ ∃ g, fv'.ownBlock = some g ∧ w.heap.size ≤ g) : Turned w w'' P Q fv :=
  ⟨k.os.trans h.os, k.tape.trans h.tape, k.output.trans h.output, Nat.le_trans h.size k.size, fun b hb p q f => (k.block b (Nat.lt_of_lt_of_le hb h.size) p q (by
    rcases hf with e | ⟨g, e, hg⟩
    · rw [e]; exact f
    · rw [e]; intro e'; injection e' with e'; omega)).trans (h.block b hb p q f)⟩
theorem head_fv {Q n : Nat} {fv fv' : Value} {S : List Int} : (head Q n fv S).setIfInBounds 1 fv' = head Q n fv' S := rfl

set_option maxHeartbeats 1000000 in
theorem alloc_no {n m P Q B : Nat} {fv : Value} {s : Arn} (w : World) (h : ArnAt w B P Q fv s) (ok : s.Ok n m) (hK : s.K = []) :
    Calls Try.prog 9 #[.pointer (some ⟨P, 0, none⟩)] w (ArnDone w B P Q fv s (.tuple #[.agg #[.int .i64 0, .int .i64 0], .bool false])) := by
  obtain ⟨A, c, rfl, h1, h2⟩ := own_form h.own
  have c1 : (w.alloc (.cells #[.int .i64 0, .int .i64 0] 36)).cell? ⟨P, 1, none⟩ = some (.slice A s.K.length c) := by rw [(arn_alloc h _).two.hP.cell]; rfl
  rw [hK] at c1
  have hp := h.two.lt.1
  have H := hide h
  clear h
  go_enter Try.func9, Try.ntmps9
  go_wp2
  refine bodyPost_ret (v := .tuple #[.agg #[.int .i64 0, .int .i64 0], .bool false]) (by simp [results, Try.results9, go_sem]) rfl ⟨_, rfl, arn_alloc H.out _, turned_alloc _ _ _ _ _, .inl rfl⟩

def Arn.alloc (s : Arn) (k : Nat) : Arn := ⟨s.S.set k 1, s.G, s.K.dropLast⟩
set_option maxHeartbeats 2000000 in
theorem alloc_yes {n m P Q B : Nat} {fv : Value} {s : Arn} (w : World) (h : ArnAt w B P Q fv s) (ok : s.Ok n m) (K' : List Int) (k : Nat) (hK : s.K = K' ++ [(k : Int)]) (g : Int) (hg : s.G[k]? = some g) :
    Calls Try.prog 9 #[.pointer (some ⟨P, 0, none⟩)] w (ArnDone w B P Q fv (s.alloc k) (.tuple #[.agg #[.int .i64 k, .int .i64 g], .bool true])) := by
  obtain ⟨A, c, rfl, h1, h2⟩ := own_form h.own
  obtain ⟨k1, k2, k3⟩ := ok.fr k (by rw [hK]; simp)
  rw [Int.toNat_natCast] at k3
  have hS := ok.hS
  have hn4 := ok.n4
  have hk1 : 1 ≤ k := by omega
  have hlen : s.K.length = K'.length + 1 := by rw [hK]; simp
  have hints := ints_own h.own
  have hint : s.K[K'.length]? = some (k : Int) := by rw [hK]; simp
  obtain ⟨ad, x, rfl, hb, hx, cA⟩ := hints.cell (k := K'.length) (by omega)
  obtain rfl : x = (k : Int) := by rw [hint] at hx; injection hx with hx; exact hx.symm
  obtain ⟨gF, capF, hform, _, _⟩ := h.own.form (by omega)
  obtain rfl : ad = ⟨gF, 0, none⟩ := by injection hform with e; injection e
  obtain ⟨ne1, ne2⟩ := at_ne h
  have nP : gF ≠ P := fun e => ne1 (by simp [Value.ownBlock, e])
  generalize hl : K'.length = l at *
  have hfv : Value.slice (some ⟨gF, 0, none⟩) s.K.length c = .slice (some ⟨gF, 0, none⟩) (l + 1) c := by rw [hlen]
  have h0 := arn_alloc h (.cells #[.int .i64 0, .int .i64 0] 36)
  generalize hw0 : w.alloc (.cells #[.int .i64 0, .int .i64 0] 36) = w0 at h0
  have hR : Blk w0 w.heap.size 36 #[.int .i64 0, .int .i64 0] := by rw [← hw0]; exact Blk.new _ _ _
  have c1 : w0.cell? ⟨P, 1, none⟩ = some (.slice (some ⟨gF, 0, none⟩) (l + 1) c) := by rw [h0.two.hP.cell, ← hfv]; rfl
  have f1 := h0.two.hP.frozen 1
  have c2 : w0.cell? ((⟨gF, 0, none⟩ : Addr).add l) = some (.int .i64 k) := by
    rw [← hw0, add_mk]; rw [add_mk] at cA; exact (World.cell?_alloc_lt w _ ⟨gF, 0 + l, none⟩ hb).trans cA
  rw [add_mk, Nat.zero_add] at c2
  -- behind the store of the list's header
  have htwo1 : Two (w0.setCell ⟨P, 1, none⟩ (.slice (some ⟨gF, 0, none⟩) l c)) P Q (.slice (some ⟨gF, 0, none⟩) l c) s.S s.G :=
    ⟨h0.two.hP.set_ 1 _, h0.two.hQ.far (fun e => h0.two.ne e.symm) _⟩
  have hR1 := hR.far (p := ⟨P, 1, none⟩) (fun e => by have := h.two.lt.1; simp at e; omega) (.slice (some ⟨gF, 0, none⟩) l c)
  have hown1 : (w0.setCell ⟨P, 1, none⟩ (.slice (some ⟨gF, 0, none⟩) l c)).ownsRow B 3 1 (.slice (some ⟨gF, 0, none⟩) l c) l (K'.map (Value.int .i64)) := by
    have := own_shrink (m := l) h0.own (by omega)
    rw [show (s.K.map (Value.int .i64)).take l = K'.map (Value.int .i64) by rw [hK]; simp [← hl]] at this
    exact own_keep this fun b hb => Below.heap_setCell _ _ _ _ (by rintro rfl; simp [Value.ownBlock] at hb; exact nP hb)
  generalize hw1 : w0.setCell ⟨P, 1, none⟩ (.slice (some ⟨gF, 0, none⟩) l c) = w1 at htwo1 hown1 hR1
  have sl : s.S.length ≤ 5000 := by omega
  have hkl : k < s.S.length := by omega
  have HA := hide (at_any w1 htwo1 k sl)
  rw [if_neg (by omega), Int.toNat_natCast] at HA
  have HS := hide (set_any w1 htwo1 k 0 1 sl hk1 k3 (by omega) (by omega) (by omega))
  have HW0 := hide hw0
  have HW1 := hide hw1
  have HG := hide hg
  have hG : s.S.length = s.G.length := by have := ok.hG; omega
  have HGL := hide hG
  have lR : w.heap.size < w1.heap.size := hR1.lt
  have hle : (l : Int) ≤ c := by omega
  have hcm : (c : Int) ≤ 9223372036854775807 := by omega
  have hl0 : (0 : Int) ≤ l := by omega
  have H0 := hide h0
  have HK := hide hK
  have HLN := hide hlen
  have b0 : ((l : Int) + 1 == 0) = false := by rw [beq_eq_false_iff_ne]; omega
  have lP := h.two.lt.1
  have lQ := h.two.lt.2
  have HOK := hide ok
  have HH := hide h
  clear hint hx hints cA hw0 hw1 hg hG h0 hfv hK hlen ok h k3 hb hl
  go_enter Try.func9, Try.ntmps9
  go_upto_region 1 with fail
  rw [HW0.out]
  go_upto_region 6 with fail
  rw [HW1.out]
  go_upto_region 8 with (first
    | (go_at_call 21; refine HA.out.mono ?_; rintro e w' ⟨rfl, rfl⟩)
    | (go_at_call 22; refine HS.out.mono ?_; rintro e w2 ⟨rfl, htwo2, hsz, hbl, hos, htp, hou⟩))
  have hG2 : w2.cell? ⟨Q, k * 2 + 1, none⟩ = some (.int .i64 g) := by rw [htwo2.hQ.cell]; exact slots_gen (by rw [List.length_set]; exact hkl) HG.out
  have rP : w.heap.size ≠ P := by omega
  have rQ : w.heap.size ≠ Q := by omega
  have hR2 : Blk w2 w.heap.size 36 #[.int .i64 0, .int .i64 0] := (hbl _ rP rQ).trans hR1
  have r0 : w2.cell? ⟨w.heap.size, 0, none⟩ = some (.int .i64 0) := by rw [hR2.cell]; rfl
  have r1 : w2.cell? ⟨w.heap.size, 1, none⟩ = some (.int .i64 0) := by rw [hR2.cell]; rfl
  have z0 := hR2.frozen 0
  have z1 := hR2.frozen 1
  have HB := hide hbl
  have HT := hide (And.intro hsz (And.intro hos (And.intro htp hou)))
  have HR := hide hR2
  have H1 := hide hR1
  have HO := hide hown1
  clear hbl hsz hos htp hou hR2 hR1 hR c1 f1 c2 htwo1 hown1
  go_wp2
  have hRR := (HR.out.set_ 0 (.int .i64 k)).set_ 1 (.int .i64 g)
  have q0 := hRR.cell 0
  have q1 := hRR.cell 1
  simp at q0 q1
  refine bodyPost_ret (v := .tuple #[.agg #[.int .i64 k, .int .i64 g], .bool true]) (by simp [results, Try.results9, go_sem, q0, q1]) rfl ?_
  obtain ⟨hsz, hos, htp, hou⟩ := HT.out
  have t1 : Turned w w1 P Q (.slice (some ⟨gF, 0, none⟩) s.K.length c) := by
    rw [← HW1.out, ← HW0.out]
    refine ⟨rfl, rfl, rfl, by simp, fun b hb p _ _ => ?_⟩
    rw [Below.heap_setCell _ _ _ _ p, Below.heap_alloc _ _ _ hb]
  have t2 : Turned w ((w2.setCell ⟨w.heap.size, 0, none⟩ (.int .i64 k)).setCell ⟨w.heap.size, 1, none⟩ (.int .i64 g)) P Q (.slice (some ⟨gF, 0, none⟩) s.K.length c) := by
    refine ⟨hos.trans t1.os, htp.trans t1.tape, hou.trans t1.output, by have := t1.size; simp; omega, fun b hb p q f => ?_⟩
    rw [Below.heap_setCell _ _ _ _ (by simp; omega), Below.heap_setCell _ _ _ _ (by simp; omega), HB.out b p q]
    exact t1.block b hb p q f
  refine ⟨.slice (some ⟨gF, 0, none⟩) l c, rfl, ⟨⟨?_, ?_⟩, ?_, HH.out.hP, HH.out.hQ⟩, t2, .inl rfl⟩
  · exact (htwo2.hP.far (p := ⟨w.heap.size, 0, none⟩) rP.symm _).far (p := ⟨w.heap.size, 1, none⟩) rP.symm _
  · exact (htwo2.hQ.far (p := ⟨w.heap.size, 0, none⟩) rQ.symm _).far (p := ⟨w.heap.size, 1, none⟩) rQ.symm _
  · have hd : s.K.dropLast = K' := by rw [HK.out]; simp
    show World.ownsRow _ B 3 1 _ (s.K.dropLast).length ((s.K.dropLast).map _)
    have hl : K'.length = l := by have := HLN.out; rw [HK.out] at this; simpa using this
    rw [hd, hl]
    refine own_keep HO.out fun b hb => ?_
    have e : b = gF := by simpa [Value.ownBlock] using hb.symm
    subst e
    have lg : b < w.heap.size := (HH.out.own.lt b rfl).2
    rw [Below.heap_setCell _ _ _ _ (by simp; omega), Below.heap_setCell _ _ _ _ (by simp; omega)]
    exact HB.out b nP (fun e => ne2 (by simp [Value.ownBlock, e]))

set_option maxHeartbeats 1000000 in
theorem free_no {n m P Q B : Nat} {fv : Value} {s : Arn} (w : World) (h : ArnAt w B P Q fv s) (ok : s.Ok n m) (i : Int) (hm : ¬ (stateOf s.S i = 1 ∨ stateOf s.S i = 4)) :
    Calls Try.prog 13 #[.pointer (some ⟨P, 0, none⟩), .int .i64 i] w fun e w' => e = .returned (.bool false) ∧ w = w' := by
  have hl : s.S.length ≤ 5000 := by have := ok.hS; have := ok.n4; omega
  have HA := hide (at_any w h.two i hl)
  rcases slot_or (S := s.S) i with hi | ⟨k, x, rfl, h1, hk, hx⟩
  · rw [if_pos hi] at HA
    clear h ok hi hl hm
    go_enter Try.func13, Try.ntmps13
    go_wp2_with (go_at_call 21; refine HA.out.mono ?_; rintro e w' ⟨rfl, rfl⟩)
    go_ret
    exact ⟨rfl, rfl⟩
  · rw [if_neg (by omega), Int.toNat_natCast] at HA
    rw [stateOf_at h1 hx] at hm
    have hc : w.cell? ⟨Q, k * 2, none⟩ = some (.int .i64 x) := by rw [h.two.hQ.cell, slots_state hx]
    have b1 : (x != 1) = true := by rw [bne_iff_ne]; omega
    have b2 : (x != 4) = true := by rw [bne_iff_ne]; omega
    clear h ok hl hm hx hk
    go_enter Try.func13, Try.ntmps13
    go_wp2_with (go_at_call 21; refine HA.out.mono ?_; rintro e w' ⟨rfl, rfl⟩)
    go_ret
    exact ⟨rfl, rfl⟩

def Arn.free (s : Arn) (k : Nat) (g : Int) : Arn := ⟨s.S.set k 0, s.G.set k (g + 1), s.K ++ [(k : Int)]⟩
theorem info_int : (Try.prog.info? 3).map (fun i => (i.zero, i.size, i.bytes)) = some (some (.int .i64 0), 1, 8) := by kernel_rfl
set_option maxHeartbeats 2000000 in
theorem free_yes {n m P Q B : Nat} {fv : Value} {s : Arn} (w : World) (h : ArnAt w B P Q fv s) (ok : s.Ok n m) (k x : Nat) (h1 : 1 ≤ k) (hx : s.S[k]? = some (x : Int)) (hx14 : x = 1 ∨ x = 4) (g : Int) (hg : s.G[k]? = some g) (hm : m ≤ 1000000) (hKl : s.K.length ≤ 4096) (hB : B ≤ w.heap.size) :
    Calls Try.prog 13 #[.pointer (some ⟨P, 0, none⟩), .int .i64 k] w (ArnDone w B P Q fv (s.free k g) (.bool true)) := by
  have hl : s.S.length ≤ 5000 := by have := ok.hS; have := ok.n4; omega
  have hk := (List.getElem?_eq_some_iff.1 hx).1
  obtain ⟨g0, gm⟩ := ok.gn k g hg
  have HA := hide (at_any w h.two k hl)
  rw [if_neg (by omega), Int.toNat_natCast] at HA
  have HS := hide (set_any w h.two k x 0 hl h1 hx (by omega) (by omega) (by omega))
  rw [show ((0 : Nat) : Int) = 0 from rfl] at HS
  have hc : w.cell? ⟨Q, k * 2, none⟩ = some (.int .i64 x) := by rw [h.two.hQ.cell, slots_state hx]
  have hG : s.S.length = s.G.length := by have := ok.hG; have := ok.hS; omega
  have H := hide h
  have HG := hide hg
  have HL := hide hG
  have lP := h.two.lt.1
  have lQ := h.two.lt.2
  obtain ⟨ne1, ne2⟩ := at_ne h
  have hPQ := h.two.ne
  have g1 : g ≤ 1000000 := by omega
  clear h ok hg hG hx gm
  rcases hx14 with rfl | rfl
  all_goals
    go_enter Try.func13, Try.ntmps13
    go_upto_region 5 with (first
      | (go_at_call 21; refine HA.out.mono ?_; rintro e w' ⟨rfl, rfl⟩)
      | (go_at_call 22; refine HS.out.mono ?_; rintro e w1 hd; obtain ⟨a1, a2⟩ := arn_set H.out hd; obtain ⟨rfl, _⟩ := hd))
    have cG : w1.cell? ⟨Q, k * 2 + 1, none⟩ = some (.int .i64 g) := by rw [a1.two.hQ.cell]; exact slots_gen (S := s.S.set k 0) (by rw [List.length_set]; exact hk) HG.out
    have fG := a1.two.hQ.frozen (k * 2 + 1)
    have A1 := hide a1
    have A2 := hide a2
    clear a1 a2
    go_upto_region 6 with fail
    have b1 : ArnAt (w1.setCell ⟨Q, k * 2 + 1, none⟩ (.int .i64 (g + 1))) B P Q fv ⟨s.S.set k 0, s.G.set k (g + 1), s.K⟩ :=
      ⟨⟨A1.out.two.hP.far (p := ⟨Q, k * 2 + 1, none⟩) hPQ _, by
        have := A1.out.two.hQ.set_ (k * 2 + 1) (.int .i64 (g + 1))
        rwa [show (s.set k 0).S = s.S.set k 0 from rfl, show (s.set k 0).G = s.G from rfl, slots_setGen (by rw [List.length_set]; exact hk) (by rw [List.length_set]; exact HL.out)] at this⟩,
       own_keep A1.out.own fun b hb => Below.heap_setCell _ _ _ _ (by rintro rfl; exact ne2 hb), A1.out.hP, A1.out.hQ⟩
    have b2 : Turned w (w1.setCell ⟨Q, k * 2 + 1, none⟩ (.int .i64 (g + 1))) P Q fv := ⟨A2.out.os, A2.out.tape, A2.out.output, by have := A2.out.size; simpa using this, fun b hb p q f => (Below.heap_setCell _ _ _ _ q).trans (A2.out.block b hb p q f)⟩
    generalize w1.setCell ⟨Q, k * 2 + 1, none⟩ (.int .i64 (g + 1)) = w2 at b1 b2
    have c1 : w2.cell? ⟨P, 1, none⟩ = some fv := by rw [b1.two.hP.cell]; rfl
    have lP2 := b1.two.lt.1
    have B1 := hide b1
    have B2 := hide b2
    have HB2 := hide (Nat.le_trans hB b2.size)
    clear b1 b2 cG fG
    go_upto_region 7 with (at_builtin; refine wpList_append_elem rfl _ _ 28 rfl B Try.underlying28 info_int rfl (by decide) fv s.K.length (s.K.map (Value.int .i64)) rfl B1.out.own _ _ rfl rfl (by simp [Value.oneCell']) (by simp only [maxLen]; omega) (by omega) HB2.out ?_; intro v' w3 hown1 hgr hat1; obtain ⟨A', c', rfl, o1, o2⟩ := own_form hown1; have HO := hide hown1; have HAT := hide hat1; have HGR := hide hgr; have c3 : w3.cell? ⟨P, 1, none⟩ = some fv := (World.cell?_of_block (hgr.block P lP2 (fun e => ne1 e.symm))).trans c1; have f3 : w3.frozen? ⟨P, 1, none⟩ = false := (World.frozen?_of_block (hgr.block P lP2 (fun e => ne1 e.symm))).trans (B1.out.two.hP.frozen 1); clear hown1 hgr hat1)
    go_wp2
    go_ret
    have lQ2 := B1.out.two.lt.2
    have p3 : Blk w3 P _ _ := (HGR.out.block P lP2 (fun e => ne1 e.symm)).trans B1.out.two.hP
    have q3 : Blk w3 Q _ _ := (HGR.out.block Q lQ2 (fun e => ne2 e.symm)).trans B1.out.two.hQ
    have nv : (Value.slice A' (s.K.length + 1) c').ownBlock ≠ some P := by
      rcases HAT.out with e | e <;> rw [e]
      · exact ne1
      · intro e'; injection e' with e'; omega
    refine ⟨_, rfl, ⟨⟨p3.set_ 1 _, q3.far (p := ⟨P, 1, none⟩) (fun e => hPQ e.symm) _⟩, ?_, B1.out.hP, B1.out.hQ⟩, ?_, ?_⟩
    · show World.ownsRow _ B 3 1 _ (s.K ++ [(k : Int)]).length ((s.K ++ [(k : Int)]).map _)
      rw [List.map_append, List.length_append]
      exact own_keep HO.out fun b hb => Below.heap_setCell _ _ _ _ (by rintro rfl; exact nv hb)
    · have z := B2.out
      exact ⟨HGR.out.os.trans z.os, HGR.out.tape.trans z.tape, HGR.out.output.trans z.output, by have := HGR.out.size; have := z.size; simp; omega, fun b hb p q f => (Below.heap_setCell _ _ _ _ p).trans ((HGR.out.block b (Nat.lt_of_lt_of_le hb z.size) f).trans (z.block b hb p q f))⟩
    · rcases HAT.out with e | e
      · exact .inl e
      · exact .inr ⟨_, e, by have := B2.out.size; omega⟩
end Go.Proofs.Ytoodcfldnojkjab
