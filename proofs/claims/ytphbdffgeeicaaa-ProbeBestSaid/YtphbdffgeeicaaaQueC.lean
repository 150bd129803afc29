/-
  The package queue: the two orders; push. Conditions: the heap's blocks lie as said, its order is told by a function.
-/
import Derived.Test.YtphbdffgeeicaaaQueB
import Derived.Deep.RegionLaw
namespace Go.Proofs.Ytphbdffgeeicaaa
set_option linter.unusedSimpArgs false
set_option linter.unusedVariables false
open Go.RowKit

theorem aheadSpot : Ahead 38 sptLt := ⟨enters_of Try.func38 (by kernel_rfl) rfl, fun a b w => spot_any a b w⟩
def sptGt (a b : Spt) : Bool := sptLt b a
theorem swoG : Go.Sort.SWO sptGt where
  irrefl x := swoS.irrefl x
  trans x y z h1 h2 := swoS.trans z y x h2 h1
  ntrans x y z h1 h2 := swoS.ntrans z y x h2 h1
set_option maxHeartbeats 1000000 in
theorem behind_any (a b : Spt) (w : World) : Calls Try.prog 39 #[.agg #[.int .u64 a.1.1, .int .u64 a.1.2, .int .i64 a.2], .agg #[.int .u64 b.1.1, .int .u64 b.1.2, .int .i64 b.2]] w fun e w' => e = .returned (.bool (sptGt a b)) ∧ Below w.heap.size w w' := by
  have HC := hide (fun W => spot_any b a W)
  have HG := hide (show sptGt a b = sptLt b a from rfl)
  have HB := hide (below2 w (.cells #[.int .u64 a.1.1, .int .u64 a.1.2, .int .i64 a.2] 53) (.cells #[.int .u64 b.1.1, .int .u64 b.1.2, .int .i64 b.2] 53))
  go_enter Try.func39, Try.ntmps39
  go_wp2_with (go_at_call 38; refine (HC.out _).mono ?_; rintro e w' ⟨rfl, hb⟩; have HB1 := hide (Below.step HB.out hb); clear hb)
  go_ret
  exact ⟨by rw [HG.out]; rfl, HB1.out⟩
theorem aheadBehind : Ahead 39 sptGt := ⟨enters_of Try.func39 (by kernel_rfl) rfl, fun a b w => behind_any a b w⟩

/-- what a call that turns the heap leaves: its spots are m's, in some order that is a heap's -/
def HpDone (w w' : World) (B Q : Nat) (t : TypeId) (ex : Array Value) (f : FuncId) (lt : Spt → Spt → Bool) (v : Value) (m : List Spt) : Prop :=
  ∃ (l' : List Spt) (v' : Value), Heap lt l' ∧ l'.Perm m ∧ HpAt w' B Q t ex f v' l' ∧ TurnH w w' Q v ∧ ∀ d, v'.ownBlock = some d → v.ownBlock = some d ∨ w.heap.size ≤ d
theorem reads_new3 (w : World) (x : Spt) (e : TypeId) : Reads (w.alloc (.cells #[.int .u64 x.1.1, .int .u64 x.1.2, .int .i64 x.2] e)).drew (w.heap.size + 1) 3 (some ⟨w.heap.size, 0, none⟩) 1 (encS x) :=
  ⟨rfl, fun _ => ⟨_, rfl, Nat.lt_succ_self _, fun j u hv => by
    unfold encS at hv
    rcases j with _ | _ | _ | j
    · simp at hv; subst hv
      rw [add_mk, World.cell?_drew, cell_of_row _ _ _ _ _ _ (heap_alloc_new w _)]; rfl
    · simp at hv; subst hv
      rw [add_mk, World.cell?_drew, cell_of_row _ _ _ _ _ _ (heap_alloc_new w _)]; rfl
    · simp at hv; subst hv
      rw [add_mk, World.cell?_drew, cell_of_row _ _ _ _ _ _ (heap_alloc_new w _)]; rfl
    · simp at hv⟩⟩
theorem set0_app (a b x : Value) (ex : Array Value) : (#[a, b] ++ ex).setIfInBounds 0 x = #[x, b] ++ ex := by
  apply Array.ext'
  simp
theorem HpAt.low {w : World} {B Q : Nat} {t : TypeId} {ex : Array Value} {f : FuncId} {v : Value} {l : List Spt} (h : HpAt w B Q t ex f v l) : Q < w.heap.size ∧ ∀ d, v.ownBlock = some d → d < w.heap.size := ⟨h.q.lt, fun d hd => (h.own.lt d hd).2⟩
theorem push_mid {w w1 w9 : World} {B Q : Nat} {t : TypeId} {ex : Array Value} {f : FuncId} {v v9 : Value} {l : List Spt} {s : Spt} {bx : Nat} {o : Obj} (hbx : w.heap.size = bx) (h1 : HpAt w1 B Q t ex f v l) (hb1 : Below bx w w1)
    (hO9 : w9.ownsRow B 53 3 v9 (l.length + 1) (fcs encS l ++ encS s)) (hG : (w1.alloc o).drew.grownBy w9 v.ownBlock) (hA : v9.ownBlock = v.ownBlock ∨ v9.ownBlock = some (w1.alloc o).drew.heap.size) (hQ9 : Blk w9 Q t (#[v, .func (.func f) #[] #[]] ++ ex)) :
    HpAt (w9.setCell ⟨Q, 0, none⟩ v9) B Q t ex f v9 (l ++ [s]) ∧ TurnH w (w9.setCell ⟨Q, 0, none⟩ v9) Q v ∧ ∀ d, v9.ownBlock = some d → v.ownBlock = some d ∨ w.heap.size ≤ d := by
  subst hbx
  have hs : (w1.alloc o).drew.heap.size = w1.heap.size + 1 := by simp
  have hsz := hb1.size
  have hlt := h1.low
  have hne : ∀ d, v9.ownBlock = some d → d ≠ Q := fun d hd e => by
    subst e
    rcases hA with e | e
    · exact h1.neQ (e ▸ hd)
    · rw [hd, hs] at e; injection e with e; have := hlt.1; omega
  refine ⟨⟨?_, ?_, h1.ne, h1.hQ⟩, ⟨hG.os.trans hb1.os, hG.tape.trans hb1.tape, hG.output.trans hb1.output, by have := hG.size; rw [hs] at this; simp; omega, fun k hk a b => ?_⟩, fun d hd => ?_⟩
  · have := hQ9.set_ 0 v9
    rwa [set0_app] at this
  · rw [List.length_append, fcs_snoc]
    exact own_keep hO9 fun g hg => Below.heap_setCell _ _ _ _ (hne g hg)
  · rw [Below.heap_setCell _ _ _ _ a, hG.block k (by rw [hs]; omega) b, ← hb1.block k hk]
    exact Below.heap_alloc w1 o k (by omega)
  · rcases hA with e | e
    · exact .inl (e ▸ hd)
    · rw [hd, hs] at e; injection e with e; right; omega
set_option maxHeartbeats 4000000 in
theorem push_any {f : FuncId} {lt : Spt → Spt → Bool} (ha : Ahead f lt) (hS : Go.Sort.SWO lt) {w : World} {B Q : Nat} {t : TypeId} {ex : Array Value} {v : Value} {l : List Spt} (h : HpAt w B Q t ex f v l) (hh : Heap lt l) (s : Spt) (hsz : l.length ≤ 500000) :
    Calls Try.prog 48 #[.pointer (some ⟨Q, 0, none⟩), .agg #[.int .u64 s.1.1, .int .u64 s.1.2, .int .i64 s.2]] w fun e w' => e = .returned (.tuple #[]) ∧ HpDone w w' B Q t ex f lt v (l ++ [s]) := by
  have HA := hide ha
  have HS := hide hS
  have HH := hide hh
  have H := hide h
  clear ha hS hh h
  go_enter Try.func48, Try.ntmps48
  go_upto_region 1 with fail
  have HB1 := hide (below1 w (.cells #[.int .u64 s.1.1, .int .u64 s.1.2, .int .i64 s.2] 53))
  have HN := hide (Blk.new w 53 #[.int .u64 s.1.1, .int .u64 s.1.2, .int .i64 s.2])
  generalize World.alloc w _ = w1 at *
  generalize hbx : w.heap.size = bx at *
  have H1 := hide (show HpAt w1 B Q t ex f v l from H.out.below (by rw [hbx]; exact HB1.out))
  have Hbx := hide hbx
  clear hbx
  obtain ⟨A, c, rfl, o1, o2⟩ := own_form H1.out.own
  obtain ⟨z0, _⟩ := H1.out.cells
  have x0 : w1.cell? ⟨bx, 0, none⟩ = some (.int .u64 s.1.1) := HN.out.cell 0
  have x1 : w1.cell? ⟨bx, 1, none⟩ = some (.int .u64 s.1.2) := HN.out.cell 1
  have x2 : w1.cell? ⟨bx, 2, none⟩ = some (.int .i64 s.2) := HN.out.cell 2
  have hQ := H1.out.lt
  have hb := HN.out.lt
  have hBQ := H1.out.hQ
  obtain ⟨i0, hi0, hz0, hz1, hz2⟩ := info_parts info_spot
  have HO := hide H1.out.own
  go_region_law ((refine step_append_any _ rfl (.tmp 8) (.tmp 10) 29 rfl B 53 i0 _ 3 24 Try.underlying29 hi0 hz0 hz1 hz2 rfl (by decide) (.slice A l.length c) l.length _ rfl (own_keep (HO.out.alloc _) fun _ _ => rfl) _ _ 1 1 (encS s) rfl (reads_new3 w1 s _) (flatS.one s) (by simp only [maxLen]; omega) (by omega) (by simp; omega) ?_; intro v' w9 hown9 hgr9 hat9; obtain ⟨A9, c9, rfl, k1, k2⟩ := own_form hown9; have HO9 := hide hown9; have HG9 := hide hgr9; have HA9 := hide hat9; have q9 := ((H1.out.q.alloc (.cells #[.int .u64 s.1.1, .int .u64 s.1.2, .int .i64 s.2] 53)).drew).grown hgr9 (fun e => H1.out.neQ e.symm); have HQ9 := hide q9; have z9 : w9.cell? ⟨Q, 0, none⟩ = some (.slice A l.length c) := (by rw [q9.cell]; simp [Array.getElem?_append]); have f9 := q9.frozen 0; clear hown9 hgr9 hat9 q9))
  all_goals
    obtain ⟨hp, ht, hv⟩ := push_mid (s := s) Hbx.out H1.out HB1.out HO9.out HG9.out HA9.out HQ9.out
    generalize World.setCell w9 ⟨Q, 0, none⟩ (.slice A9 (l.length + 1) c9) = w10 at hp ht ⊢
    have hl1 : (l ++ [s]).length = l.length + 1 := by simp
    obtain ⟨g, cap, e, _, k3, k4⟩ := hp.form (by omega)
    injection e with e1 e2 e3
    subst e1 e3
    rw [hl1] at k3
    have HUP := hide (up_any HA.out HS.out hp hl1 (HH.out.up s) k3 k4 (by omega))
    have HT := hide ht
    have HV := hide hv
    have HP := hide hp
    obtain ⟨y0, _⟩ := hp.cells
    clear z0 x0 x1 x2 z9 f9 hp ht hv e2 hl1
    go_wp2_with (go_at_call 56; refine HUP.out.mono ?_; rintro e w11 ⟨rfl, l', r1, r2, r3, r4⟩; have HR := hide (show HpDone w w11 B Q t ex f lt (.slice A l.length c) (l ++ [s]) from ⟨l', _, r1, r2, r3, HT.out.trans r4 HV.out, HV.out⟩); clear r1 r2 r3 r4)
    go_end0
    exact ⟨rfl, HR.out⟩
end Go.Proofs.Ytphbdffgeeicaaa
