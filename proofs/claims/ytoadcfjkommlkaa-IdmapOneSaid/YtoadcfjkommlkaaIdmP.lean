/-
  The document's idmap: Drop, Shard, Size. Conditions: the list reads as said.
-/
import Derived.Test.YtoadcfjkommlkaaIdmQ
namespace Go.Proofs.Ytoadcfjkommlkaa
set_option linter.unusedSimpArgs false
set_option linter.unusedVariables false
open Go.RowKit

theorem cell3i {w : World} {g : Nat} {t : TypeId} {a b c : Value} (h : Blk w g t #[a, b, c]) : w.cell? ⟨g, 0, none⟩ = some a ∧ w.cell? ⟨g, 1, none⟩ = some b ∧ w.cell? ⟨g, 2, none⟩ = some c :=
  ⟨by rw [h.cell]; rfl, by rw [h.cell]; rfl, by rw [h.cell]; rfl⟩
set_option maxHeartbeats 2000000 in
theorem refShard_any (n : Nat) (h1 : 1 ≤ n) (h2 : n ≤ 64) (L : Value) (hL : ∃ A l c, L = .slice A l c) (ver id : Int) (w : World) :
    Calls Try.prog 17 #[.agg #[.int .i64 n, L, .int .i64 ver], .int .u64 id] w fun e w' => e = .returned (.int .i64 (shardF n id)) ∧ Below w.heap.size w w' := by
  obtain ⟨A, l, c, rfl⟩ := hL
  have hr := mixF_range id
  obtain ⟨x, hx⟩ : ∃ x : Nat, mixF id = x := ⟨(mixF id).toNat, by omega⟩
  have hlt := shardF_lt (by omega : 0 < n) id
  have HM := hide (fun W => refMix_any id W)
  have HB := hide (fun W => refBelow_any x n (by omega) (by omega) W)
  have HS := hide (show (x * n / 18446744073709551616 : Nat) = shardF n id by unfold shardF; rw [hx]; rfl)
  rw [HS.out] at HB
  rw [hx] at HM
  generalize shardF n id = s at *
  have hs64 : s < 64 := by omega
  have c1 : IntKind.u64.wrap (n : Int) = n := by rw [IntKind.wrap_u64]; omega
  have c2 : IntKind.i64.wrap (s : Int) = s := IntWalk.i64_in _ (by omega)
  have HB1 := hide (below1 w (.cells #[.int .i64 n, .slice A l c, .int .i64 ver] 30))
  have HN := hide (Blk.new w 30 #[.int .i64 n, .slice A l c, .int .i64 ver])
  clear hr hx hlt h1 h2
  go_enter Try.func17, Try.ntmps17
  go_upto_region 1 with fail
  generalize World.alloc w _ = w1 at *
  obtain ⟨z0, z1, z2⟩ := cell3i HN.out
  go_region_law ((go_simp; first
    | (go_at_call 25; refine (HM.out _).mono ?_; rintro e _ ⟨rfl, rfl⟩)
    | (go_at_call 24; refine (HB.out _).mono ?_; rintro e _ ⟨rfl, rfl⟩)))
  all_goals
    go_wp2
    go_ret
    exact ⟨rfl, by first | exact HB1.out.drew | exact below_drewN HB1.out _⟩
theorem sizeR_succ {n : Nat} {l : List NamedV} {i : Int} {k : Nat} {x : NamedV} (h : l[k]? = some x) : sizeR n (l.take (k + 1)) i = sizeR n (l.take k) i + if ((shardF n x.1 : Int) == i) then 1 else 0 := by
  unfold sizeR
  rw [List.take_add_one, h, Option.toList_some, List.filter_append, List.length_append]
  by_cases e : (shardF n x.1 : Int) = i <;> simp [e]
theorem sizeR_le (n : Nat) (l : List NamedV) (i : Int) : sizeR n l i ≤ l.length := List.length_filter_le _ _
set_option maxHeartbeats 4000000 in
theorem refSize_any (A : Option Addr) (n c : Nat) (l : List NamedV) (sh : Nat) (ver q : Int) (w : World) (hx : Rd SNm w w.heap.size A l) (hn : l.length = n) (h6 : n ≤ 1000) (h1 : 1 ≤ sh) (h2 : sh ≤ 64) :
    Calls Try.prog 19 #[.agg #[.int .i64 sh, .slice A n c, .int .i64 ver], .int .i64 q] w fun e w' => e = .returned (.int .i64 (sizeR sh l q)) ∧ Below w.heap.size w w' := by
  have HX := hide hx
  have Hn := hide hn
  have HB := hide (below1 w (.cells #[.int .i64 sh, .slice A n c, .int .i64 ver] 30))
  have HM := hide (Blk.new w 30 #[.int .i64 sh, .slice A n c, .int .i64 ver])
  have HS := hide (fun id W => refShard_any sh h1 h2 (.slice A n c) ⟨_, _, _, rfl⟩ ver id W)
  clear hx hn h1 h2
  go_enter Try.func19, Try.ntmps19
  go_upto_region 1 with fail
  generalize World.alloc w _ = w2 at *
  obtain ⟨z0, z1, z2⟩ := cell3i HM.out
  go_wp2
  clear z0 z1 z2
  go_loopw [5, 11] (fun a i wr => ∃ k : Nat, k ≤ n ∧ i = .int .i64 k ∧ a = .int .i64 (sizeR sh (l.take k) q) ∧ Hid (Below w.heap.size w wr) ∧ Hid (Blk wr w.heap.size 30 #[.int .i64 sh, .slice A n c, .int .i64 ver])) (fun _ i _ => n - (intOf i).toNat)
  case atStart => exact ⟨0, by omega, rfl, rfl, HB, HM⟩
  case round =>
    obtain ⟨k, hk, rfl, rfl, HBr, HMr⟩ := hrel
    clear HB HM
    by_cases hlt : k < n
    · obtain ⟨ad, ⟨x0, x1, x2⟩, rfl, hbl, hs, c0, c1, c2⟩ := RdR.ncell (HX.out.below HBr.out (Nat.le_refl _)) (k := k) (by rw [Hn.out]; exact hlt)
      simp only at c0 c1 c2
      have g1 : (k : Int) < n := by omega
      have g0 : (0 : Int) ≤ k := by omega
      have HT := hide (sizeR_succ (n := sh) (i := q) hs)
      have hle := sizeR_le sh (l.take k) q
      rw [List.length_take] at hle
      have hle2 : sizeR sh (l.take k) q ≤ 1000 := by omega
      clear hs hbl hle
      generalize hsz : sizeR sh (l.take k) q = p at *
      clear hsz
      go_upto_region 5 with fail
      have hb1 := below1 wr (.cells #[.int .u64 x0, .int .i64 x1, .int .i64 x2] 56)
      have HN := hide (Blk.new wr 56 #[.int .u64 x0, .int .i64 x1, .int .i64 x2])
      have HB2 := hide (Below.step HBr.out hb1)
      have HM2 := hide (HMr.out.below hb1 HMr.out.lt)
      clear hb1 c0 c1 c2
      generalize World.alloc wr _ = w3 at *
      generalize wr.heap.size = b at *
      have y0 : w3.cell? ⟨b, 0, none⟩ = some (.int .u64 x0) := by rw [HN.out.cell]; rfl
      obtain ⟨z0, z1, z2⟩ := cell3i HM2.out
      have HSx := hide (HS.out x0)
      generalize shardF sh x0 = sx at *
      have hp1 : IntKind.i64.wrap ((p : Int) + 1) = ((p + 1 : Nat) : Int) := by rw [IntWalk.i64_in _ (by omega)]; omega
      by_cases e : (sx : Int) = q
      · have e1 : ((sx : Int) == q) = true := by simpa using e
        rw [e1] at HT
        go_wp2_with (go_at_call 17; refine (HSx.out _).mono ?_; rintro e w4 ⟨rfl, hb⟩; have HB3 := hide (Below.step HB2.out hb); have HM3 := hide (HM2.out.below hb HM2.out.lt); clear hb)
        go_roundw
        case rel => exact ⟨k + 1, by omega, by go_num, by rw [HT.out]; simp, HB3, HM3⟩
        case measure => simp [intOf]; omega
      · have e1 : ((sx : Int) == q) = false := by simpa using e
        rw [e1] at HT
        go_wp2_with (go_at_call 17; refine (HSx.out _).mono ?_; rintro e w4 ⟨rfl, hb⟩; have HB3 := hide (Below.step HB2.out hb); have HM3 := hide (HM2.out.below hb HM2.out.lt); clear hb)
        go_roundw
        case rel => exact ⟨k + 1, by omega, by go_num, by rw [HT.out]; simp, HB3, HM3⟩
        case measure => simp [intOf]; omega
    · obtain rfl : k = n := by omega
      have hT : l.take k = l := List.take_of_length_le (by rw [Hn.out]; omega)
      rw [hT]
      go_wp2
      go_ret
      exact ⟨rfl, HBr.out⟩
/-- the variables of the document's Drop -/
structure DB (w : World) (sh ver q1 q2 : Int) (L : Value) (g : Nat) (W : World) : Prop where
  bel : Below w.heap.size w W
  m : Blk W w.heap.size 30 #[.int .i64 sh, L, .int .i64 ver]
  r : Blk W (w.heap.size + 1) 30 #[.int .i64 0, .slice none 0 0, .int .i64 0]
  q : Blk W (w.heap.size + 2) 35 #[.int .i64 0, .int .i64 0]
  x : Blk W g 35 #[.int .i64 q1, .int .i64 q2]
  hg : w.heap.size + 2 < g
section
variable {w W W' : World} {sh ver q1 q2 : Int} {L : Value} {g : Nat}
theorem DB.step (h : DB w sh ver q1 q2 L g W) (hb : Below W.heap.size W W') : DB w sh ver q1 q2 L g W' :=
  ⟨Below.step h.bel hb, h.m.below hb h.m.lt, h.r.below hb h.r.lt, h.q.below hb h.q.lt, h.x.below hb h.x.lt, h.hg⟩
theorem DB.grown {v : Value} {m : Nat} {xs : List Value} (h : DB w sh ver q1 q2 L g W) (ho : W.ownsRow w.heap.size 56 3 v m xs) (hg : W.grownBy W' v.ownBlock) : DB w sh ver q1 q2 L g W' :=
  ⟨below_own h.bel ho h.bel.size hg, h.m.grown hg (fun e => own_blk_ne ho h.m (by decide) e.symm), h.r.grown hg (fun e => own_blk_ne ho h.r (by decide) e.symm), h.q.grown hg (fun e => own_blk_ne ho h.q (by decide) e.symm), h.x.grown hg (fun e => own_blk_ne ho h.x (by decide) e.symm), h.hg⟩
theorem DB.stored {v : Value} {m : Nat} {xs : List Value} (h : DB w sh ver q1 q2 L g W) (ho : W.ownsRow w.heap.size 56 3 v m xs) (ver' : Int) :
    DB w sh ver' q1 q2 v g ((W.setCell ⟨w.heap.size, 1, none⟩ v).setCell ⟨w.heap.size, 2, none⟩ (.int .i64 ver')) ∧ ((W.setCell ⟨w.heap.size, 1, none⟩ v).setCell ⟨w.heap.size, 2, none⟩ (.int .i64 ver')).ownsRow w.heap.size 56 3 v m xs := by
  have n1 := own_blk_ne ho h.m (by decide)
  have k : ∀ {d : Nat} {t : TypeId} {cs : Array Value}, d ≠ w.heap.size → Blk W d t cs → Blk ((W.setCell ⟨w.heap.size, 1, none⟩ v).setCell ⟨w.heap.size, 2, none⟩ (.int .i64 ver')) d t cs := fun hd hb => (hb.far (p := ⟨w.heap.size, 1, none⟩) hd v).far (p := ⟨w.heap.size, 2, none⟩) hd _
  have := h.hg
  refine ⟨⟨(h.bel.setCell (p := ⟨w.heap.size, 1, none⟩) (Nat.le_refl _) v).setCell (p := ⟨w.heap.size, 2, none⟩) (Nat.le_refl _) _, (h.m.set_ 1 v).set_ 2 (.int .i64 ver'), k (by omega) h.r, k (by omega) h.q, k (by omega) h.x, h.hg⟩, own_keep ho fun g hg => ?_⟩
  have e1 : g ≠ w.heap.size := fun e => n1 (e ▸ hg)
  rw [Below.heap_setCell _ _ _ _ e1, Below.heap_setCell _ _ _ _ e1]
/-- the results are stored -/
def given (W : World) (r : Nat) (sh ver q1 q2 : Int) (L : Value) : World := ((((W.setCell ⟨r, 0, none⟩ (.int .i64 sh)).setCell ⟨r, 1, none⟩ L).setCell ⟨r, 2, none⟩ (.int .i64 ver)).setCell ⟨r + 1, 0, none⟩ (.int .i64 q1)).setCell ⟨r + 1, 1, none⟩ (.int .i64 q2)
theorem DB.given (h : DB w sh ver q1 q2 L g W) : Blk (given W (w.heap.size + 1) sh ver q1 q2 L) (w.heap.size + 1) 30 #[.int .i64 sh, L, .int .i64 ver] ∧ Blk (given W (w.heap.size + 1) sh ver q1 q2 L) (w.heap.size + 2) 35 #[.int .i64 q1, .int .i64 q2] ∧
    Below w.heap.size w (given W (w.heap.size + 1) sh ver q1 q2 L) ∧ ∀ d, d ≠ w.heap.size + 1 → d ≠ w.heap.size + 2 → (given W (w.heap.size + 1) sh ver q1 q2 L).heap[d]? = W.heap[d]? := by
  have e : w.heap.size + 1 + 1 = w.heap.size + 2 := by omega
  unfold Go.Proofs.Ytoadcfjkommlkaa.given
  rw [e]
  have n1 : w.heap.size + 1 ≠ w.heap.size + 2 := by omega
  refine ⟨((((h.r.set_ 0 (.int .i64 sh)).set_ 1 L).set_ 2 (.int .i64 ver)).far (p := ⟨w.heap.size + 2, 0, none⟩) n1 _).far (p := ⟨w.heap.size + 2, 1, none⟩) n1 _, ((((h.q.far (p := ⟨w.heap.size + 1, 0, none⟩) (Ne.symm n1) _).far (p := ⟨w.heap.size + 1, 1, none⟩) (Ne.symm n1) _).far (p := ⟨w.heap.size + 1, 2, none⟩) (Ne.symm n1) _).set_ 0 (.int .i64 q1)).set_ 1 (.int .i64 q2), ?_, fun d h1 h2 => ?_⟩
  · have l : w.heap.size ≤ w.heap.size + 1 := by omega
    have l2 : w.heap.size ≤ w.heap.size + 2 := by omega
    exact ((((h.bel.setCell (p := ⟨w.heap.size + 1, 0, none⟩) l _).setCell (p := ⟨w.heap.size + 1, 1, none⟩) l _).setCell (p := ⟨w.heap.size + 1, 2, none⟩) l _).setCell (p := ⟨w.heap.size + 2, 0, none⟩) l2 _).setCell (p := ⟨w.heap.size + 2, 1, none⟩) l2 _
  · rw [Below.heap_setCell _ _ _ _ h2, Below.heap_setCell _ _ _ _ h2, Below.heap_setCell _ _ _ _ h1, Below.heap_setCell _ _ _ _ h1, Below.heap_setCell _ _ _ _ h1]
theorem DB.given_own {v : Value} {m : Nat} {xs : List Value} (h : DB w sh ver q1 q2 L g W) (ho : W.ownsRow w.heap.size 56 3 v m xs) : (Go.Proofs.Ytoadcfjkommlkaa.given W (w.heap.size + 1) sh ver q1 q2 L).ownsRow w.heap.size 56 3 v m xs :=
  own_keep ho fun g hg => h.given.2.2.2 g (fun e => own_blk_ne ho h.r (by decide) (e ▸ hg)) (fun e => own_blk_ne ho h.q (by decide) (e ▸ hg))
end
theorem drop_succ {l : List NamedV} {id : Int} {k : Nat} {x : NamedV} (h : l[k]? = some x) : dropF (l.take (k + 1)) id = if x.1 == id then dropF (l.take k) id else dropF (l.take k) id ++ [x] := by
  unfold dropF
  rw [List.take_add_one, h, Option.toList_some, List.filter_append]
  by_cases e : x.1 = id <;> simp [e]
theorem drop_len (l : List NamedV) (id : Int) : (dropF l id).length ≤ l.length := List.length_filter_le _ _
set_option maxHeartbeats 4000000 in
theorem refDrop_any (A : Option Addr) (n c : Nat) (l : List NamedV) (sh ver id : Int) (w : World) (hx : Rd SNm w w.heap.size A l) (hn : l.length = n) (h6 : n ≤ 1000) (hv : 0 ≤ ver ∧ ver ≤ 1000000) :
    Calls Try.prog 10 #[.agg #[.int .i64 sh, .slice A n c, .int .i64 ver], .int .u64 id] w fun e w' => Below w.heap.size w w' ∧
      (((lookF l id).isSome = false ∧ e = .returned (.tuple #[.agg #[.int .i64 sh, .slice A n c, .int .i64 ver], encR ((lookF l id).getD (0, 0)), .bool false])) ∨
       ((lookF l id).isSome = true ∧ ∃ v, e = .returned (.tuple #[.agg #[.int .i64 sh, v, .int .i64 (ver + 1)], encR ((lookF l id).getD (0, 0)), .bool true]) ∧ w'.ownsRow w.heap.size 56 3 v (dropF l id).length (fcs encN (dropF l id)))) := by
  obtain ⟨k0, k1, k2, kB⟩ := blk3 w #[.int .i64 sh, .slice A n c, .int .i64 ver] #[.int .i64 0, .slice none 0 0, .int .i64 0] #[.int .i64 0, .int .i64 0] 30 30 35
  have HX := hide hx
  have Hn := hide hn
  obtain ⟨⟨q1, q2⟩, hq⟩ : ∃ q, (lookF l id).getD (0, 0) = q := ⟨_, rfl⟩
  obtain ⟨b, hb⟩ : ∃ b, (lookF l id).isSome = b := ⟨_, rfl⟩
  have HG := hide (fun W (h : Rd SNm W W.heap.size A l) => refGet_any A n c l sh ver id W h hn h6)
  rw [hq, hb] at HG ⊢
  have hv1 : IntKind.i64.wrap (ver + 1) = ver + 1 := IntWalk.i64_in _ (by omega)
  unfold encR at HG ⊢
  have HK := hide (And.intro k0 (And.intro k1 (And.intro k2 kB)))
  clear hx hn k0 k1 k2 kB hq hb
  go_enter Try.func10, Try.ntmps10
  go_upto_region 1 with fail
  generalize World.alloc (World.alloc (World.alloc w _) _) _ = w2 at *
  obtain ⟨z0, z1, z2⟩ := cell3i HK.out.1
  go_upto_region 2 with (go_at_call 13; refine (HG.out _ (HX.out.at_world HK.out.2.2.2)).mono ?_; rintro e w3 ⟨rfl, hb⟩; have HB3 := hide hb; clear hb)
  clear z0 z1 z2
  have HD := hide (show DB w sh ver q1 q2 (.slice A n c) w3.heap.size (w3.alloc (.cells #[.int .i64 q1, .int .i64 q2] 35)) from by
    have hs := HK.out.2.2.1.lt
    have hz := HB3.out.size
    have hb := Below.step HB3.out (below1 w3 (.cells #[.int .i64 q1, .int .i64 q2] 35))
    exact ⟨Below.step HK.out.2.2.2 hb, HK.out.1.below hb HK.out.1.lt, HK.out.2.1.below hb HK.out.2.1.lt, HK.out.2.2.1.below hb HK.out.2.2.1.lt, Blk.new _ _ _, by omega⟩)
  clear HB3 HK
  generalize World.alloc w3 _ = w4 at *
  generalize w3.heap.size = g at *
  obtain ⟨z0, z1, z2⟩ := cell3i HD.out.m
  rcases b with _ | _
  · obtain ⟨u0, u1, u2⟩ := cell3i HD.out.r
    obtain ⟨v0, v1⟩ := cell2s HD.out.q
    obtain ⟨g0, g1⟩ := cell2s HD.out.x
    have f0 := HD.out.r.frozen 0
    have f1 := HD.out.r.frozen 1
    have f2 := HD.out.r.frozen 2
    have f3 := HD.out.q.frozen 0
    have f4 := HD.out.q.frozen 1
    have hg0 := HD.out.hg
    have a1 : ¬ (g = w.heap.size + 1) := by omega
    have a2 : ¬ (g = w.heap.size + 2) := by omega
    have a3 : ¬ (w.heap.size + 1 = g) := by omega
    have a4 : ¬ (w.heap.size + 2 = g) := by omega
    have a5 : ¬ (w.heap.size + 1 = w.heap.size + 2) := by omega
    have a6 : ¬ (w.heap.size + 2 = w.heap.size + 1) := by omega
    have a7 : ¬ (w.heap.size = w.heap.size + 1) := by omega
    have a8 : ¬ (w.heap.size = w.heap.size + 2) := by omega
    clear hg0
    go_wp2
    go_region
    all_goals
      clear a1 a2 a3 a4 a5 a6 a7 a8 u0 u1 u2 v0 v1 g0 g1 f0 f1 f2 f3 f4 z0 z1 z2
      obtain ⟨p1, p2, p3, p4⟩ := HD.out.given
      unfold Go.Proofs.Ytoadcfjkommlkaa.given at p1 p2 p3
      clear p4
      generalize World.setCell (World.setCell (World.setCell (World.setCell (World.setCell _ _ _) _ _) _ _) _ _) _ _ = w9 at p1 p2 p3 ⊢
      obtain ⟨r0, r1, r2⟩ := cell3i p1
      obtain ⟨s0, s1⟩ := cell2s p2
      have HF := hide p3
      clear p1 p2 p3
      go_wp2
      exact bodyPost_ret (v := .tuple #[.agg #[.int .i64 sh, .slice A n c, .int .i64 ver], .agg #[.int .i64 q1, .int .i64 q2], .bool false]) (by simp [results, Try.results10, go_sem, r0, r1, r2, s0, s1]) rfl ⟨HF.out.drew, rfl⟩
  · go_wp2
    clear z0 z1 z2
    go_loopw [9, 25] (fun v i wr => ∃ (k m : Nat), k ≤ n ∧ i = .int .i64 k ∧ Hid ((dropF (l.take k) id).length = m) ∧ Hid (wr.ownsRow w.heap.size 56 3 v m (fcs encN (dropF (l.take k) id))) ∧ Hid (DB w sh ver q1 q2 (.slice A n c) g wr)) (fun _ i _ => n - (intOf i).toNat)
    case atStart => exact ⟨0, 0, by omega, rfl, hide rfl, hide (World.ownsRow_nil _ _ _ _), HD⟩
    case round =>
      obtain ⟨k, m, hk, rfl, Hm, HO, HDr⟩ := hrel
      clear HD
      obtain ⟨AV, cV, rfl, o1, o2⟩ := own_form HO.out
      have hml := hide (show m ≤ 1000 by
        have a := drop_len (l.take k) id
        rw [Hm.out, List.length_take] at a
        omega)
      by_cases hlt : k < n
      · obtain ⟨ad, ⟨x0, x1, x2⟩, rfl, hbl, hs, c0, c1, c2⟩ := RdR.ncell (HX.out.below HDr.out.bel (Nat.le_refl _)) (k := k) (by rw [Hn.out]; exact hlt)
        simp only at c0 c1 c2
        have g1 : (k : Int) < n := by omega
        have g0 : (0 : Int) ≤ k := by omega
        have HT := hide (drop_succ (id := id) hs)
        clear hs hbl
        go_upto_region 8 with fail
        have hb1 := below1 wr (.cells #[.int .u64 x0, .int .i64 x1, .int .i64 x2] 56)
        have HN := hide (Blk.new wr 56 #[.int .u64 x0, .int .i64 x1, .int .i64 x2])
        have HD2 := hide (HDr.out.step hb1)
        have HO2 := hide (own_keep (w' := wr.alloc (.cells #[.int .u64 x0, .int .i64 x1, .int .i64 x2] 56)) HO.out fun g hg => hb1.block g (HO.out.lt g hg).2)
        clear hb1 c0 c1 c2 HO HDr
        generalize World.alloc wr _ = w5 at *
        generalize wr.heap.size = b at *
        obtain ⟨y0, y1, y2⟩ := cell3i HN.out
        have hml' := hml.out
        by_cases e : x0 = id
        · have e1 : (x0 == id) = true := by simpa using e
          have e2 : (x0 != id) = false := by simpa using e
          have HT2 := hide (show dropF (l.take (k + 1)) id = dropF (l.take k) id by rw [HT.out, if_pos e1])
          clear e
          go_wp2
          go_roundw
          case rel => exact ⟨k + 1, m, by omega, by go_num, hide (by rw [HT2.out]; exact Hm.out), hide (by rw [HT2.out]; exact HO2.out), HD2⟩
          case measure => simp [intOf]; omega
        · have e1 : (x0 == id) = false := by simpa using e
          have e2 : (x0 != id) = true := by simpa using e
          have HT2 := hide (show dropF (l.take (k + 1)) id = dropF (l.take k) id ++ [(x0, x1, x2)] by rw [HT.out, if_neg (by rw [e1]; simp)])
          clear e
          go_wp2_with (at_builtin; refine wpList_append_elem rfl (.tmp 33) (.tmp 35) 28 rfl w.heap.size Try.underlying28 info_named rfl (by decide) (.slice AV m cV) m _ rfl HO2.out _ _ rfl rfl (by simp [Value.oneCell']) (by simp only [maxLen]; omega) (by omega) HD2.out.bel.size ?_; intro v9 w9 hown9 hgr9 hat9; have HD9 := hide (HD2.out.grown HO2.out hgr9); have HO9 := hide hown9; have HG9 := hide hgr9; clear hown9 hgr9 hat9)
          go_roundw
          case rel => exact ⟨k + 1, m + 1, by omega, by go_num, hide (by rw [HT2.out, List.length_append, Hm.out]; rfl), hide (by rw [HT2.out, fcs_snoc]; exact HO9.out), HD9⟩
          case measure => simp [intOf]; omega
      · obtain rfl : k = n := by omega
        have hT : l.take k = l := List.take_of_length_le (by rw [Hn.out]; omega)
        rw [hT] at Hm HO
        clear hT
        obtain ⟨z0, z1, z2⟩ := cell3i HDr.out.m
        have f1 := HDr.out.m.frozen 1
        have f2 := HDr.out.m.frozen 2
        go_upto_region 13 with fail
        obtain ⟨hp6, ho6⟩ := HDr.out.stored HO.out (ver + 1)
        have HD := hide hp6
        have HO6 := hide ho6
        clear z0 z1 z2 f1 f2 hp6 ho6 HDr HO
        generalize World.setCell (World.setCell wr _ _) _ _ = w6 at HD HO6 ⊢
        obtain ⟨z0, z1, z2⟩ := cell3i HD.out.m
        obtain ⟨u0, u1, u2⟩ := cell3i HD.out.r
        obtain ⟨v0, v1⟩ := cell2s HD.out.q
        obtain ⟨g0, g1⟩ := cell2s HD.out.x
        have f0 := HD.out.r.frozen 0
        have f1 := HD.out.r.frozen 1
        have f2 := HD.out.r.frozen 2
        have f3 := HD.out.q.frozen 0
        have f4 := HD.out.q.frozen 1
        have hg0 := HD.out.hg
        have a1 : ¬ (g = w.heap.size + 1) := by omega
        have a2 : ¬ (g = w.heap.size + 2) := by omega
        have a3 : ¬ (w.heap.size + 1 = g) := by omega
        have a4 : ¬ (w.heap.size + 2 = g) := by omega
        have a5 : ¬ (w.heap.size + 1 = w.heap.size + 2) := by omega
        have a6 : ¬ (w.heap.size + 2 = w.heap.size + 1) := by omega
        have a7 : ¬ (w.heap.size = w.heap.size + 1) := by omega
        have a8 : ¬ (w.heap.size = w.heap.size + 2) := by omega
        clear hg0
        go_wp2
        go_region
        all_goals
          clear a1 a2 a3 a4 a5 a6 a7 a8 u0 u1 u2 v0 v1 g0 g1 f0 f1 f2 f3 f4 z0 z1 z2
          obtain ⟨p1, p2, p3, p4⟩ := HD.out.given
          have p5 := HD.out.given_own HO6.out
          unfold Go.Proofs.Ytoadcfjkommlkaa.given at p1 p2 p3 p5
          clear p4
          generalize World.setCell (World.setCell (World.setCell (World.setCell (World.setCell _ _ _) _ _) _ _) _ _) _ _ = w9 at p1 p2 p3 p5 ⊢
          obtain ⟨r0, r1, r2⟩ := cell3i p1
          obtain ⟨s0, s1⟩ := cell2s p2
          have HF := hide p3
          have HO9 := hide p5
          clear p5
          clear p1 p2 p3
          go_wp2
          rw [← Hm.out] at HO9 ⊢
          exact bodyPost_ret (v := .tuple #[.agg #[.int .i64 sh, .slice AV (dropF l id).length cV, .int .i64 (ver + 1)], .agg #[.int .i64 q1, .int .i64 q2], .bool true]) (by simp [results, Try.results10, go_sem, r0, r1, r2, s0, s1, Hm.out]) rfl ⟨HF.out.drew, _, rfl, own_keep HO9.out fun g hg => rfl⟩
end Go.Proofs.Ytoadcfjkommlkaa
