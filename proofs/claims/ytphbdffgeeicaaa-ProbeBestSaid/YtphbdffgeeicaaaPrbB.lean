/-
  The package probe: New; Knows, Waits, Found; nil receivers. Conditions: the slice reads as a list; a probe lies as said.
-/
import Derived.Test.YtphbdffgeeicaaaPrbA
namespace Go.Proofs.Ytphbdffgeeicaaa
set_option linter.unusedSimpArgs false
set_option linter.unusedVariables false
open Go.RowKit

theorem info_i32P : (Try.prog.info? 21).map (fun i => (i.zero, i.size, i.bytes)) = some (some (.int .i32 0), 1, 4) := by kernel_rfl
set_option maxHeartbeats 1000000 in
theorem cloneV_any (A : Option Addr) (n c : Nat) (xs : List Int) (w : World) (hx : Rd (Sh.int .i32) w w.heap.size A xs) (hn : xs.length = n) (h6 : n ≤ 35184372088832) :
    Calls Try.prog 18 #[.slice A n c] w (GivesI .i32 w xs) := by
  have Hn := hide hn
  have HX := hide hx
  have he := fun W : World => Lib.run_eql_slice_nil (P := Try.prog) W 22 21 A n c 0 0 Try.underlying22
  rcases A with _ | ad
  · have hxs : xs = [] := by
      rcases xs with _ | ⟨x, xs⟩
      · rfl
      · obtain ⟨ad, e, _⟩ := hx (by simp)
        cases e
    have HF := hide (show GivesI .i32 w xs (.returned (.slice none 0 0)) w by subst hxs; exact ⟨_, rfl, NewInts.nil (Below.refl _ _)⟩)
    clear hx hn hxs
    go_enter Try.func18, Try.ntmps18
    go_wp2
    go_ret
    exact HF.out
  · clear hx hn
    have ho := hide (World.ownsRow_lit (base := w.heap.size) (e := 21) (size := 1) w #[] 0 (Nat.le_refl _) (by simp [maxLen]) rfl)
    go_enter Try.func18, Try.ntmps18
    go_wp2_with (at_builtin; refine wpList_append_ints rfl _ _ 22 rfl w.heap.size Try.underlying22 info_i32P rfl _ 0 [] rfl ho.out w.heap.size _ n c xs rfl (HX.out.alloc (Nat.le_refl _) _) Hn.out (by simp only [maxLen]; omega) (by omega) (by simp) ?_; intro v' w9 hown9 hgr9 hat9; have HO := hide hown9; have HG := hide (below_own ((Below.refl w.heap.size w).alloc (Nat.le_refl _) _) ho.out (by simp) hgr9); clear hown9 hgr9 hat9)
    go_ret
    exact ⟨_, rfl, NewInts.of_own (n := 0 + n) HO.out HG.out⟩
section
variable {w wr : World} {X M Q P k : Nat} {mask ef : Int} {A : Option Addr} {c : Nat} {qs : List Int} {m : List (Int × Int)} {v v2 : Value} {l l2 : List Spt}
theorem PrAt.cells (h : PrAt w wr X M Q P k mask ef A c qs m v v2 l l2) : wr.cell? ⟨X, 0, none⟩ = some (.slice A qs.length c) ∧ wr.cell? ⟨X, 1, none⟩ = some (.int .u64 mask) ∧ wr.cell? ⟨X, 2, none⟩ = some (.int .i64 ef) ∧ wr.cell? ⟨X, 3, none⟩ = some (.map (some M)) ∧ wr.cell? ⟨X, 4, none⟩ = some (.pointer (some ⟨Q, 0, none⟩)) ∧ wr.cell? ⟨X, 5, none⟩ = some (.pointer (some ⟨P, 0, none⟩)) :=
  ⟨h.x.cell 0, h.x.cell 1, h.x.cell 2, h.x.cell 3, h.x.cell 4, h.x.cell 5⟩
set_option maxHeartbeats 1000000 in
theorem knows_any (h : PrAt w wr X M Q P k mask ef A c qs m v v2 l l2) {s : Int} (hw : (Lit.int .i64 s).wf = true) : Calls Try.prog 11 #[.pointer (some ⟨X, 0, none⟩), .int .i64 s] wr fun e w' => e = .returned (.bool (decide (0 < (lookF m s).getD 0))) ∧ wr = w' := by
  obtain ⟨e0, e1, e2, e3, e4, e5⟩ := h.cells
  have L := h.m.atI hw
  clear h hw
  go_enter Try.func11, Try.ntmps11
  go_wp2
  go_ret
  exact ⟨by simp, rfl⟩
set_option maxHeartbeats 1000000 in
theorem waits_any (h : PrAt w wr X M Q P k mask ef A c qs m v v2 l l2) : Calls Try.prog 12 #[.pointer (some ⟨X, 0, none⟩)] wr fun e w' => e = .returned (.int .i64 l.length) ∧ wr = w' := by
  obtain ⟨e0, e1, e2, e3, e4, e5⟩ := h.cells
  have HQ := hide h.q
  clear h
  go_enter Try.func12, Try.ntmps12
  go_wp2_with fail
  refine (qLen_any HQ.out).mono ?_
  rintro e _ ⟨rfl, rfl⟩
  go_wp2
  go_ret
  exact ⟨rfl, rfl⟩
set_option maxHeartbeats 1000000 in
theorem found_any (h : PrAt w wr X M Q P k mask ef A c qs m v v2 l l2) (hsz : l2.length ≤ 500000) : Calls Try.prog 14 #[.pointer (some ⟨X, 0, none⟩)] wr fun e w' => ∃ v', e = .returned v' ∧ w'.ownsRow wr.heap.size 53 3 v' l2.length (fcs encS (srtS l2)) ∧ Below wr.heap.size wr w' := by
  obtain ⟨e0, e1, e2, e3, e4, e5⟩ := h.cells
  have HB := hide h.b
  clear h
  go_enter Try.func14, Try.ntmps14
  go_wp2_with fail
  refine (bList_any HB.out hsz).mono ?_
  rintro e w2 ⟨v', rfl, h1, h2⟩
  go_wp2
  go_ret
  exact ⟨v', rfl, h1, h2⟩
end
set_option maxHeartbeats 2000000 in
theorem prNew_any (A : Option Addr) (n c : Nat) (xs : List Int) (mask ef : Int) (w : World) (hx : Rd (Sh.int .i32) w w.heap.size A xs) (hn : xs.length = n) (h6 : n ≤ 35184372088832) :
    Calls Try.prog 6 #[.slice A n c, .int .u64 mask, .int .i64 ef] w fun e w' => ∃ X M Q P A' c', e = .returned (.pointer (some ⟨X, 0, none⟩)) ∧ w.heap.size ≤ X ∧ PrAt w w' X M Q P (mostB ef) mask ef A' c' xs [] (.slice none 0 0) (.slice none 0 0) [] [] := by
  have HC := hide (cloneV_any A n c xs w hx hn h6)
  clear hx hn h6
  have hmm := @run_makeMap Try.prog
  go_enter Try.func6, Try.ntmps6
  go_wp2_with fail
  refine HC.out.mono ?_
  rintro e w1 ⟨v, rfl, A1, n1, c1, rfl, p1, p2, p3, hr, hb⟩
  subst p1
  go_wp2_with fail
  have hm := MapA.new (kd := .i64) (enc := Value.int .i64) (β := Int) w1
  have hb2 := below1 w1 (.map #[] 0)
  have hs2 : (w1.alloc (.map #[] 0)).heap.size = w1.heap.size + 1 := by simp
  have HM := hide hm
  have HB2 := hide hb2
  have HS2 := hide hs2
  have HR := hide hr
  have HB := hide hb
  clear hm hb2 hs2 hr hb HC
  generalize World.alloc w1 _ = w2 at *
  refine (newQ_any _).mono ?_
  rintro e w3 ⟨Q, rfl, hQ, hb3⟩
  have HQ := hide hQ
  have HB3 := hide hb3
  clear hQ hb3
  go_wp2_with fail
  refine (newB_any ef _).mono ?_
  rintro e w4 ⟨P, rfl, hP, hb4⟩
  have HP := hide hP
  have HB4 := hide hb4
  clear hP hb4
  go_wp2
  go_ret
  have s2 := HS2.out
  have q1 := HQ.out.hQ
  have q2 := HQ.out.low.1
  have p1 := HP.out.hQ
  have p2' := HP.out.low.1
  have b0 := HB.out.size
  have b3 := HB3.out.size
  have b4 := HB4.out.size
  have B24 : Below w2.heap.size w2 w4 := Below.step HB3.out HB4.out
  have B14 : Below w1.heap.size w1 w4 := Below.step HB2.out B24
  have b5 := below1 w4 (.cells #[.slice A1 xs.length c1, .int .u64 mask, .int .i64 ef, .map (some w1.heap.size), .pointer (some ⟨Q, 0, none⟩), .pointer (some ⟨P, 0, none⟩)] 64)
  have b15 := Below.step B14 b5
  have b35 := Below.step HB4.out b5
  have b25 := Below.step B24 b5
  refine ⟨w4.heap.size, w1.heap.size, Q, P, A1, c1, rfl, B14.size |> Nat.le_trans b0, Blk.new w4 _ _, ⟨by simp, by omega, by omega, by omega, by simp [Value.ownBlock], by simp [Value.ownBlock]⟩, p2, p3, (HR.out.keepBlocks fun d hd => b15.block d hd.2).more fun d hd => ⟨by have := hd.2; have := b15.size; omega, by have := hd.2; omega, by have := hd.2; omega, by have := hd.2; omega, by simp [Value.ownBlock], by simp [Value.ownBlock]⟩, HM.out.block (b25.block _ (by omega)), b0, ⟨b35.block Q q2 |>.trans HQ.out.q, World.ownsRow_nil _ _ _ _, HQ.out.ne, by omega⟩, ⟨b5.block P p2' |>.trans HP.out.q, World.ownsRow_nil _ _ _ _, HP.out.ne, by omega⟩, fun _ _ _ _ e _ => by simp at e, fun _ _ _ _ e _ => by simp at e, by omega, Apart.nil _, Below.step HB.out b15⟩
end Go.Proofs.Ytphbdffgeeicaaa
