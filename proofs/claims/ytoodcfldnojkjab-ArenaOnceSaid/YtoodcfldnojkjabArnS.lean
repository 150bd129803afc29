/-
  The document's arena (ganglionref21): Alloc, Move, Free, Gen, Count. Conditions: the slices read as lists of ints.
-/
import Derived.Test.YtoodcfldnojkjabArnR
namespace Go.Proofs.Ytoodcfldnojkjab
open Go.RowKit

def RefGives (w : World) (R : Nat → Prop) (s : Arn) (f : Value → Value) (e : Ending) (w' : World) : Prop :=
  ∃ v, e = .returned (f v) ∧ RefAt w' (Grow R w w') s v ∧ Below w.heap.size w w'

set_option maxHeartbeats 2000000 in
theorem refAlloc_yes {s : Arn} {v : Value} {R : Nat → Prop} (w : World) (h : RefAt w R s v) (hR : ∀ b, R b → b < w.heap.size) (hl : s.S.length ≤ 5000) (hKl : s.K.length ≤ 5000) (K' : List Int) (k : Nat) (hK : s.K = K' ++ [(k : Int)]) (g : Int) (hg : s.G[k]? = some g) (hk : k < s.S.length) :
    Calls Try.prog 8 #[v] w (RefGives w R (s.alloc k) fun v => .tuple #[v, .agg #[.int .i64 k, .int .i64 g], .bool true]) := by
  obtain ⟨AS, cS, AG, cG, AK, cK, rfl, ⟨a1, a2, a3⟩, ⟨b1, b2, b3⟩, ⟨c1, c2, c3⟩⟩ := h
  have hlen : s.K.length = K'.length + 1 := by rw [hK]; simp
  have hint : s.K[K'.length]? = some (k : Int) := by rw [hK]; simp
  obtain ⟨ad, x, rfl, hb, hx, cA⟩ := c3.cell (k := K'.length) (by omega)
  obtain rfl : x = (k : Int) := by rw [hint] at hx; injection hx with hx; exact hx.symm
  obtain ⟨gd, y, rfl, hb2, hy, cG1⟩ := b3.cell (k := k) (by have := (List.getElem?_eq_some_iff.1 hg).1; omega)
  obtain rfl : y = g := by rw [hg] at hy; injection hy with hy; exact hy.symm
  have hgl := (List.getElem?_eq_some_iff.1 hg).1
  have htk : s.K.take K'.length = K' := by rw [hK]; simp
  have c4 := c3.take K'.length
  rw [htk] at c4
  generalize hlq : K'.length = l at *
  have hbl := hR _ hb
  have hbl2 := hR _ hb2
  have cK1 : ∀ W, Below w.heap.size w W → W.cell? (ad.add l) = some (.int .i64 k) := fun W hW => (hW.cell (by rw [block_of_add]; exact hbl)).trans cA
  have cK2 : ∀ W, Below w.heap.size w W → W.cell? (gd.add k) = some (.int .i64 y) := fun W hW => (hW.cell (by rw [block_of_add]; exact hbl2)).trans cG1
  have HK := hide hK
  have HL := hide hlen
  have HC1 := hide cK1
  have HC2 := hide cK2
  have HHR := hide hR
  have A3 := hide a3
  have B3 := hide b3
  have C4 := hide c4
  have hle : l ≤ 5000 := by omega
  have hgi : (k : Int) < s.G.length := by omega
  have q1 : (((w.alloc (.cells #[.slice AS s.S.length cS, .slice (some gd) s.G.length cG, .slice (some ad) s.K.length cK] 30)).alloc (.cells #[.slice none 0 0, .slice none 0 0, .slice none 0 0] 30)).alloc (.cells #[.int .i64 0, .int .i64 0] 36)).cell? (ad.add l) = some (.int .i64 k) := cK1 _ ((((Below.refl _ _).alloc (Nat.le_refl _) _).alloc (by simp) _).alloc (by simp; omega) _)
  clear hint hx cA hy cG1 c4 c3 b3 a3 hR hK htk hlq cK1 cK2 hg
  generalize hSn : s.S.length = nS at *
  generalize hGn : s.G.length = nG at *
  generalize hKn : s.K.length = nK at *
  have HKn := hide hKn
  have HGn := hide hGn
  have HSn := hide hSn
  subst hlen
  clear hSn hGn hKn
  go_enter Try.func8, Try.ntmps8
  go_upto_region 6 with fail
  generalize hW1 : World.alloc (World.alloc (World.alloc w _) _) _ = W1
  obtain ⟨F0, F1, F2, hb⟩ : Blk W1 w.heap.size 30 #[.slice AS nS cS, .slice (some gd) nG cG, .slice (some ad) l cK] ∧ Blk W1 (w.heap.size + 1) 30 #[.slice none 0 0, .slice none 0 0, .slice none 0 0] ∧ Blk W1 (w.heap.size + 1 + 1) 36 #[.int .i64 0, .int .i64 0] ∧ Below w.heap.size w W1 := by
    rw [← hW1]; exact blk3 _ _ _ _ _ _ _
  have l2 := F2.lt
  have d0 : W1.cell? ⟨w.heap.size, 0, none⟩ = some (.slice AS nS cS) := by rw [F0.cell]; rfl
  have IS := hide (((A3.out.below hb HHR.out).more (R' := fun b => b < W1.heap.size) fun b h => Nat.lt_of_lt_of_le (HHR.out b h) hb.size))
  have HB := hide hb
  have H0 := hide F0
  have H1 := hide F1
  have H2 := hide F2
  have HkS := hide hk
  clear hW1 q1 F0 F1 F2 hb
  go_upto_region 7 with (go_at_call 20; refine (refSet_any _ IS.out HSn.out hl k hk 1).mono ?_; rintro e w2 ⟨A', c', rfl, s1, s2, s3, hb2⟩; have e0 := (H0.out.below hb2 (by omega)); have e1 := hide (H1.out.below hb2 (by omega)); have e2 := hide (H2.out.below hb2 (by omega)); have x0 : w2.cell? ⟨w.heap.size, 0, none⟩ = some (.slice AS nS cS) := (by rw [e0.cell]; rfl); have y0 := e0.frozen 0; have E0 := hide e0; have S3 := hide s3; have HB2 := hide (Below.step HB.out hb2); have hsz := hb2.size; clear e0 s3 hb2 d0)
  generalize hW3 : World.setCell w2 ⟨w.heap.size, 0, none⟩ (.slice A' nS c') = w3
  have K3 : ∀ b, b ≠ w.heap.size → w3.heap[b]? = w2.heap[b]? := fun b hb => by rw [← hW3]; exact Below.heap_setCell _ _ _ _ hb
  have Z3 : w3.heap.size = w2.heap.size := by rw [← hW3]; simp
  obtain ⟨G0, G1, G2, hb3⟩ : Blk w3 w.heap.size 30 #[.slice A' nS c', .slice (some gd) nG cG, .slice (some ad) l cK] ∧ Blk w3 (w.heap.size + 1) 30 #[.slice none 0 0, .slice none 0 0, .slice none 0 0] ∧ Blk w3 (w.heap.size + 1 + 1) 36 #[.int .i64 0, .int .i64 0] ∧ Below w.heap.size w w3 := by
    rw [← hW3]; exact ⟨E0.out.set_ 0 _, e1.out.far (by simp) _, e2.out.far (by simp; omega) _, HB2.out.setCell (Nat.le_refl _) _⟩
  have g0 : w3.cell? ⟨w.heap.size, 0, none⟩ = some (.slice A' nS c') := by rw [G0.cell]; rfl
  have g1 : w3.cell? ⟨w.heap.size, 1, none⟩ = some (.slice (some gd) nG cG) := by rw [G0.cell]; rfl
  have g2 : w3.cell? ⟨w.heap.size, 2, none⟩ = some (.slice (some ad) l cK) := by rw [G0.cell]; rfl
  have g3 := HC2.out _ hb3
  have hk0 : (0 : Int) ≤ (k : Int) := by omega
  have p0 : w3.cell? ⟨w.heap.size + 1, 0, none⟩ = some (.slice none 0 0) := by rw [G1.cell]; rfl
  have p1 : w3.cell? ⟨w.heap.size + 1, 1, none⟩ = some (.slice none 0 0) := by rw [G1.cell]; rfl
  have p2 : w3.cell? ⟨w.heap.size + 1, 2, none⟩ = some (.slice none 0 0) := by rw [G1.cell]; rfl
  have q0 : w3.cell? ⟨w.heap.size + 1 + 1, 0, none⟩ = some (.int .i64 0) := by rw [G2.cell]; rfl
  have q1 : w3.cell? ⟨w.heap.size + 1 + 1, 1, none⟩ = some (.int .i64 0) := by rw [G2.cell]; rfl
  have fp0 := G1.frozen 0
  have fp1 := G1.frozen 1
  have fp2 := G1.frozen 2
  have fq0 := G2.frozen 0
  have fq1 := G2.frozen 1
  have HG0 := hide G0
  have HG1 := hide G1
  have HG2 := hide G2
  have HB3 := hide hb3
  have r1 : (((w3.setCell ⟨w.heap.size + 1, 0, none⟩ (.slice A' nS c')).setCell ⟨w.heap.size + 1, 1, none⟩ (.slice (some gd) nG cG)).setCell ⟨w.heap.size + 1, 2, none⟩ (.slice (some ad) l cK)).cell? (gd.add k) = some (.int .i64 y) :=
    HC2.out _ (((hb3.setCell (by simp) _).setCell (by simp) _).setCell (by simp) _)
  clear G0 G1 G2 hb3
  go_region
  have K3' := hide K3
  have Z3' := hide Z3
  clear K3 Z3 hW3
  generalize hWf : World.drew (World.setCell (World.setCell (World.setCell (World.setCell (World.setCell w3 _ _) _ _) _ _) _ _) _ _) = wf
  have hf1 : Blk wf (w.heap.size + 1) 30 #[.slice A' nS c', .slice (some gd) nG cG, .slice (some ad) l cK] := by
    rw [← hWf]; exact (((((HG1.out.set_ 0 _).set_ 1 _).set_ 2 _).far (by simp) _).far (by simp) _).drew
  have hf2 : Blk wf (w.heap.size + 1 + 1) 36 #[.int .i64 k, .int .i64 y] := by
    rw [← hWf]; exact (((((HG2.out.far (by simp) _).far (by simp) _).far (by simp) _).set_ 0 _).set_ 1 _).drew
  have hbf : Below w.heap.size w wf := by
    rw [← hWf]; exact (((((HB3.out.setCell (by simp) _).setCell (by simp) _).setCell (by simp) _).setCell (by simp; omega) _).setCell (by simp; omega) _).drew
  have hkf : ∀ b, b ≠ w.heap.size → b ≠ w.heap.size + 1 → b ≠ w.heap.size + 1 + 1 → wf.heap[b]? = w2.heap[b]? := fun b x0 x1 x2 => by
    rw [← hWf, heap_drew, Below.heap_setCell _ _ _ _ x2, Below.heap_setCell _ _ _ _ x2, Below.heap_setCell _ _ _ _ x1, Below.heap_setCell _ _ _ _ x1, Below.heap_setCell _ _ _ _ x1]
    exact K3'.out b x0
  have hzf : wf.heap.size = w2.heap.size := by rw [← hWf]; simp [Z3'.out]
  have v0 : wf.cell? ⟨w.heap.size + 1, 0, none⟩ = some (.slice A' nS c') := by rw [hf1.cell]; rfl
  have v1 : wf.cell? ⟨w.heap.size + 1, 1, none⟩ = some (.slice (some gd) nG cG) := by rw [hf1.cell]; rfl
  have v2 : wf.cell? ⟨w.heap.size + 1, 2, none⟩ = some (.slice (some ad) l cK) := by rw [hf1.cell]; rfl
  have v3 : wf.cell? ⟨w.heap.size + 1 + 1, 0, none⟩ = some (.int .i64 k) := by rw [hf2.cell]; rfl
  have v4 : wf.cell? ⟨w.heap.size + 1 + 1, 1, none⟩ = some (.int .i64 y) := by rw [hf2.cell]; rfl
  have HHf := hide hbf
  have HKf := hide hkf
  have HZf := hide hzf
  clear hWf hf1 hf2 hbf hkf hzf p0 p1 p2 q0 q1 fp0 fp1 fp2 fq0 fq1 g0 g1 g2 g3 r1
  go_wp2
  refine bodyPost_ret (v := .tuple #[.agg #[.slice A' nS c', .slice (some gd) nG cG, .slice (some ad) l cK], .agg #[.int .i64 k, .int .i64 y], .bool true]) (by simp [results, Try.results8, go_sem, v0, v1, v2, v3, v4]) rfl ?_
  refine ⟨_, rfl, ⟨A', c', some gd, cG, some ad, cK, ?_, ⟨?_, s2, ?_⟩, ⟨?_, b2, ?_⟩, ⟨?_, c2, ?_⟩⟩, HHf.out⟩
  · show _ = Value.agg #[.slice A' (s.S.set k 1).length c', .slice (some gd) s.G.length cG, .slice (some ad) s.K.dropLast.length cK]
    rw [List.length_set, HSn.out, HGn.out, List.length_dropLast, HKn.out, Nat.add_sub_cancel]
  · show (s.S.set k 1).length ≤ c'; rw [List.length_set, HSn.out]; exact s1
  · refine (S3.out.keepBlocks (w' := wf) fun b hb => HKf.out b ?_ ?_ ?_).more fun b hb => .inr ⟨?_, ?_⟩
    · omega
    · omega
    · omega
    · omega
    · rw [HZf.out]; exact hb.2
  · show s.G.length ≤ cG; rw [HGn.out]; exact b1
  · exact (B3.out.below HHf.out HHR.out).more fun b h => .inl h
  · show s.K.dropLast.length ≤ cK; rw [List.length_dropLast, HKn.out]; omega
  · have hd : s.K.dropLast = K' := by rw [HK.out]; simp
    show IntsR wf _ (some ad) s.K.dropLast
    rw [hd]
    exact (C4.out.below HHf.out HHR.out).more fun b h => .inl h
end Go.Proofs.Ytoodcfldnojkjab
