/-
  The package edges: Pairs, and the reference's; whether lists of pairs are equal. Conditions: the slices read as lists of ints; at most a million of them.
-/
import Derived.Test.YtggbokgacffamaaEdgM
import Derived.Deep.AppendLies
import Derived.Deep.RegionLaw
namespace Go.Proofs.Ytggbokgacffamaa
open Go.RowKit

def SPr : Sh (Int × Int) := Sh.pair (Sh.int .i64) (Sh.int .i64)
def encP (x : Int × Int) : List Value := [.int .i64 x.1, .int .i64 x.2]
theorem flatP : Flat SPr encP := flatPair (flatInt .i64) (flatInt .i64)
theorem RdR.pcell {w : World} {R : Nat → Prop} {A : Option Addr} {l : List (Int × Int)} (h : RdR SPr w R A l) {k : Nat} (hk : k < l.length) : ∃ ad x, A = some ad ∧ R ad.block ∧ l[k]? = some x ∧ w.cell? (ad.add (k * 2)) = some (.int .i64 x.1) ∧ w.cell? ⟨(ad.add (k * 2)).block, (ad.add (k * 2)).off + 1, none⟩ = some (.int .i64 x.2) := by
  obtain ⟨ad, x, cs, e, hb, hx, hr, hc⟩ := h.at_ hk
  obtain ⟨c, d, rfl, hr1, hr2⟩ := hr
  have h1 : c = [.int .i64 x.1] := hr1
  have h2 : d = [.int .i64 x.2] := hr2
  subst h1 h2
  refine ⟨ad, x, e, hb, hx, by simpa [SPr, Sh.pair, Sh.int] using hc 0 _ rfl, ?_⟩
  have := hc 1 _ rfl
  rw [show SPr.size = 2 from rfl, ← add_of_add] at this
  exact this
theorem info_pr : (Try.prog.info? 45).map (fun i => (i.zero, i.size, i.bytes)) = some (some (.agg #[.int .i64 0, .int .i64 0]), 2, 16) := by kernel_rfl
/-- the first k pairs of neighbours in a list -/
def pairsK (l : List Int) (k : Nat) : List (Int × Int) := (List.range k).map fun j => (l.getD j 0, l.getD (j + 1) 0)
def pairsF (l : List Int) : List (Int × Int) := pairsK l (l.length - 1)
theorem pairsK_len (l : List Int) (k : Nat) : (pairsK l k).length = k := by simp [pairsK]
theorem pairsK_snoc {l : List Int} {k : Nat} {x y : Int} (h : l[k]? = some x) (h' : l[k + 1]? = some y) : pairsK l (k + 1) = pairsK l k ++ [(x, y)] := by
  unfold pairsK
  rw [List.range_succ, List.map_append]
  simp [List.getD_eq_getElem?_getD, h, h']
/-- two neighbours in a list, as a load of a pair of them reads them -/
theorem RdR.two {w : World} {R : Nat → Prop} {A : Option Addr} {l : List Int} (h : RdR (Sh.int .i64) w R A l) {k : Nat} (hk : k + 1 < l.length) : ∃ ad x y, A = some ad ∧ l[k]? = some x ∧ l[k + 1]? = some y ∧
    w.cell? (ad.add k) = some (.int .i64 x) ∧ w.cell? (ad.add (k + 1)) = some (.int .i64 y) ∧ w.cell? ⟨(ad.add k).block, (ad.add k).off + 1, none⟩ = some (.int .i64 y) := by
  obtain ⟨ad, x, e, _, hx, q0⟩ := RdR.icell h (k := k) (by omega)
  obtain ⟨ad', y, e', _, hy, q1⟩ := RdR.icell h (k := k + 1) (by omega)
  rw [e] at e'
  injection e' with e'
  subst e'
  exact ⟨ad, x, y, e, hx, hy, q0, q1, by rw [show (⟨(ad.add k).block, (ad.add k).off + 1, none⟩ : Addr) = (ad.add k).add 1 from rfl, add_of_add]; exact q1⟩
theorem arrayAt_two (A : Option Addr) (c : Nat) (W : World) : (Instr.arrayAt 45 (.slice A 2 c)).run Try.prog W = .ok (.pointer A) W := by
  simp [Instr.arrayAt, run_underlying Try.underlying45]
theorem reads_new2' (w : World) (u v : Value) (e : TypeId) : Reads (w.alloc (.cells #[u, v] e)).drew (w.heap.size + 1) 2 (some ⟨w.heap.size, 0, none⟩) 1 [u, v] :=
  ⟨rfl, fun _ => ⟨_, rfl, Nat.lt_succ_self _, fun j x hv => by
    rcases j with _ | _ | j
    · simp at hv; subst hv
      rw [add_mk, World.cell?_drew, cell_of_row _ _ _ _ _ _ (heap_alloc_new w _)]; rfl
    · simp at hv; subst hv
      rw [add_mk, World.cell?_drew, cell_of_row _ _ _ _ _ _ (heap_alloc_new w _)]; rfl
    · simp at hv⟩⟩
theorem below_ownD {B : Nat} {w0 wr w' : World} {o : Obj} {e : TypeId} {size n : Nat} {v : Value} {xs : List Value} (hb : Below B w0 wr) (hown : wr.ownsRow B e size v n xs) (hB : B ≤ wr.heap.size) (hg : (wr.alloc o).drew.grownBy w' v.ownBlock) : Below B w0 w' :=
  (below_drewN (hb.alloc hB o) 1).grown hg (by simp; omega) fun k hk => (hown.lt k hk).1
set_option maxHeartbeats 2000000 in
theorem ePairs_any (A : Option Addr) (n c : Nat) (l : List Int) (w : World) (hx : Rd (Sh.int .i64) w w.heap.size A l) (hn : l.length = n) (hc : n ≤ c) (hm : c ≤ 9223372036854775807) (h6 : n ≤ 1000000) :
    Calls Try.prog 20 #[.slice A n c] w fun e w' => ∃ v, e = .returned v ∧ NewL SPr w (pairsF l) v w' := by
  have HX := hide hx
  have Hn := hide hn
  have HA := hide arrayAt_two
  clear hx hn
  go_enter Try.func20, Try.ntmps20
  go_wp2
  go_loopw [3, 4, 7] (fun v _ i wr => ∃ k : Nat, k ≤ n ∧ i = .int .i64 k ∧ Hid (wr.ownsRow w.heap.size 45 2 v (k - 1) (fcs encP (pairsK l (k - 1)))) ∧ Hid (Below w.heap.size w wr)) (fun _ _ i _ => n - (intOf i).toNat)
  case atStart => exact ⟨0, by omega, rfl, hide ⟨rfl, .inl ⟨rfl, rfl⟩⟩, hide (Below.refl _ _)⟩
  case round =>
    obtain ⟨k, hk, rfl, HO, HB⟩ := hrel
    by_cases hlt : k < n
    · rcases k with _ | k
      · go_wp2
        go_roundw
        case rel => exact ⟨1, by omega, rfl, HO, HB⟩
        case measure => simp [intOf]; omega
      · obtain ⟨ad, x, y, rfl, hv, hv', q0, _, q1⟩ := (HX.out.below HB.out (Nat.le_refl _)).two (k := k) (by have := Hn.out; omega)
        have HSn := hide (pairsK_snoc hv hv')
        have g0 : (0 : Int) ≤ k := by omega
        have g1 : (k : Int) + 1 < n := by omega
        have harr : ∀ W : World, (Instr.arrayAt 45 (.slice (some (ad.add k)) (k + 1 + 1 - k) (c - k))).run Try.prog W = .ok (.pointer (some (ad.add k))) W := by
          rw [show k + 1 + 1 - k = 2 by omega]; exact HA.out _ _
        simp only [Nat.add_sub_cancel] at HO
        clear hv hv'
        go_wp2_with (at_builtin; refine wpList_append_elem rfl _ _ 39 rfl w.heap.size Try.underlying39 info_pr rfl (by decide) _ k _ rfl HO.out _ _ rfl rfl (by simp [Value.oneCell']) (by simp only [maxLen]; omega) (by omega) HB.out.size ?_; intro v' w9 hown9 hgr9 _; have HO9 := hide hown9; have HB9 := hide (below_own HB.out HO.out HB.out.size hgr9); clear hown9 hgr9)
        go_roundw
        case rel => exact ⟨k + 2, by omega, by go_num, hide (by show World.ownsRow _ _ _ _ _ (k + 1) _; rw [show k + 2 - 1 = k + 1 from rfl, HSn.out, fcs_snoc]; exact HO9.out), HB9⟩
        case measure => simp [intOf]; omega
    · obtain rfl : k = n := by omega
      have HF := hide (show NewL SPr w (pairsF l) _ wr from flatP.new (by unfold pairsF; rw [Hn.out]; exact HO.out) HB.out)
      clear HO
      go_wp2
      go_ret
      exact ⟨_, rfl, HF.out⟩
set_option maxHeartbeats 2000000 in
theorem refPairs_any (A : Option Addr) (n c : Nat) (l : List Int) (w : World) (hx : Rd (Sh.int .i64) w w.heap.size A l) (hn : l.length = n) (hc : n ≤ c) (hm : c ≤ 9223372036854775807) (h6 : n ≤ 1000000) :
    Calls Try.prog 21 #[.slice A n c] w fun e w' => ∃ v, e = .returned v ∧ NewL SPr w (pairsF l) v w' := by
  have HX := hide hx
  have Hn := hide hn
  have Hnn := hide (rfl : n = n)
  clear hx hn
  go_enter Try.func21, Try.ntmps21
  go_wp2
  go_loopw [3, 4] (fun v i wr => ∃ k : Nat, (k + 1 ≤ n ∨ k = 0) ∧ i = .int .i64 ((k : Int) + 1) ∧ Hid (wr.ownsRow w.heap.size 45 2 v k (fcs encP (pairsK l k))) ∧ Hid (Below w.heap.size w wr)) (fun _ i _ => n + 1 - (intOf i).toNat)
  case atStart => exact ⟨0, by omega, rfl, hide ⟨rfl, .inl ⟨rfl, rfl⟩⟩, hide (Below.refl _ _)⟩
  case round =>
    obtain ⟨k, hk, rfl, HO, HB⟩ := hrel
    by_cases hlt : k + 1 < n
    · obtain ⟨ad, x, y, rfl, hv, hv', q0, q1, _⟩ := (HX.out.below HB.out (Nat.le_refl _)).two (k := k) (by have := Hn.out; omega)
      have HSn := hide (pairsK_snoc hv hv')
      have g0 : (0 : Int) ≤ k := by omega
      have g1 : (k : Int) + 1 < n := by omega
      have g2 : (k : Int) < n := by omega
      have g3 : (0 : Int) ≤ (k : Int) + 1 := by omega
      have hw : IntKind.i64.wrap (k : Int) = k := by rw [IntKind.wrap_i64]; omega
      have q1' : wr.cell? ⟨ad.block, ad.off + (k + 1), none⟩ = some (.int .i64 y) := q1
      clear hv hv'
      obtain ⟨i0, hi0, hz0, hz1, hz2⟩ := info_parts info_pr
      have HS := hide HB.out.size
      go_upto_region 5 with fail
      go_region_law ((refine step_append_any _ rfl (.tmp 11) (.tmp 22) 39 rfl w.heap.size 45 i0 _ 2 16 Try.underlying39 hi0 hz0 hz1 hz2 rfl (by decide) _ k _ rfl (own_keep (HO.out.alloc _) fun _ _ => rfl) _ _ 1 1 [.int .i64 x, .int .i64 y] rfl (reads_new2' wr _ _ _) (by simp [Value.oneCell']) (by simp only [maxLen]; omega) (by omega) (by have := HS.out; simp; omega) ?_; intro v' w9 hown9 hgr9 hat9; have HO9 := hide hown9; have HB9 := hide (below_ownD HB.out HO.out HB.out.size hgr9); clear hown9 hgr9 hat9))
      all_goals
        go_wp2
        go_roundw
        case rel => exact ⟨k + 1, by omega, by go_num, hide (by rw [HSn.out, fcs_snoc]; exact HO9.out), HB9⟩
        case measure => simp [intOf]; omega
    · have hkn : k = n - 1 := by omega
      have HF := hide (show NewL SPr w (pairsF l) _ wr from flatP.new (by unfold pairsF; rw [Hn.out, ← hkn]; exact HO.out) HB.out)
      clear HO hk
      go_wp2
      go_ret
      exact ⟨_, rfl, HF.out⟩
end Go.Proofs.Ytggbokgacffamaa
