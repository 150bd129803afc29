/-
  The package exact: items as cells; Has; a made slice without elements. Conditions: the slice reads as a list of items.
-/
import Derived.Test.YtggbokgacffamabExaP
import Derived.Test.YtggbokgacffamabVecE
import Derived.Test.YtggbokgacffamabHitS
namespace Go.Proofs.Ytggbokgacffamab
open Go.RowKit

/-- hits as spots of slot 0 -/
def sp0 (l : List Hit) : List Spt := l.map fun x => (x, 0)
theorem sp0_append (l m : List Hit) : sp0 (l ++ m) = sp0 l ++ sp0 m := List.map_append
theorem sp0_lt (x y : Hit) : sptLt (x, 0) (y, 0) = hitLt x y := by
  rw [Bool.eq_iff_iff, sptLt_iff, hitLt_iff]; simp
theorem srt_sp0 (l : List Hit) : srtS (sp0 l) = sp0 (srtH l) := by
  refine (srt_eq swoS totS ?_ ?_).symm
  · exact srt_perm.map _
  · unfold sp0
    rw [List.pairwise_map]
    exact (srt_pw swoH l).imp fun h => by rw [sp0_lt]; exact h
theorem Flat.blk {α : Type} {S : Sh α} {enc : α → List Value} (h : Flat S enc) {w : World} {g : Nat} {t : TypeId} {cs : Array Value} {l : List α} (hb : Blk w g t cs) (e : cs.toList = fcs enc l) : Rd S w w.heap.size (some ⟨g, 0, none⟩) l :=
  h.mk_ (R := fun b => b < w.heap.size) (ad := ⟨g, 0, none⟩) hb.lt fun j u hu => by rw [add_mk, Nat.zero_add, hb.cell j, ← Array.getElem?_toList, e]; exact hu
theorem Rd.step {α : Type} {S : Sh α} {w w' : World} {A : Option Addr} {l : List α} (h : Rd S w w.heap.size A l) (hb : Below w.heap.size w w') : Rd S w' w'.heap.size A l :=
  RdR.rd (Rd.below h hb (Nat.le_refl _)) fun _ hl => Nat.lt_of_lt_of_le hl hb.size
theorem NewL.at_ {α : Type} {S : Sh α} {w w' : World} {l : List α} {v : Value} (h : NewL S w l v w') : ∃ A c, v = .slice A l.length c ∧ l.length ≤ c ∧ c ≤ 9223372036854775807 ∧ Rd S w' w'.heap.size A l ∧ Below w.heap.size w w' := by
  obtain ⟨A, n, c, rfl, rfl, h1, h2, h3, h4⟩ := h
  exact ⟨A, c, rfl, h1, h2, h3.rd fun b hb => hb.2, h4⟩
def SItem : Sh ItemP := Sh.pair (Sh.int .u64) (Sh.pair (Sh.list (Sh.int .i32)) (Sh.int .u64))
theorem RdR.itcell {w : World} {R : Nat → Prop} {A : Option Addr} {l : List ItemP} (h : RdR SItem w R A l) {k : Nat} (hk : k < l.length) : ∃ ad x V c, A = some ad ∧ R ad.block ∧ l[k]? = some x ∧
    w.cell? (ad.add (k * 3)) = some (.int .u64 x.1) ∧ w.cell? ⟨(ad.add (k * 3)).block, (ad.add (k * 3)).off + 1, none⟩ = some (.slice V x.2.1.length c) ∧ w.cell? ⟨(ad.add (k * 3)).block, (ad.add (k * 3)).off + 2, none⟩ = some (.int .u64 x.2.2) ∧
    x.2.1.length ≤ c ∧ c ≤ 9223372036854775807 ∧ RdR (Sh.int .i32) w R V x.2.1 := by
  obtain ⟨ad, x, cs, e, hb, hx, hr, hc⟩ := h.at_ hk
  obtain ⟨b, d, rfl, hr1, b2, d2, rfl, ⟨V, c, hr3, h4, h5, h6⟩, hr4⟩ := hr
  have h1 : b = [.int .u64 x.1] := hr1
  have h3 : d2 = [.int .u64 x.2.2] := hr4
  subst h1 hr3 h3
  have c0 := hc 0 _ rfl
  have c1 := hc 1 _ rfl
  have c2 := hc 2 _ rfl
  rw [show SItem.size = 3 from rfl, ← add_of_add] at c1 c2
  refine ⟨ad, x, V, c, e, hb, hx, ?_, c1, c2, h4, h5, h6⟩
  simpa [SItem, Sh.pair, Sh.int, Sh.list] using c0
/-- all vectors are of int32s -/
def ItsI (l : List ItemP) : Prop := ∀ it ∈ l, I32 it.2.1
theorem has_any (t m : Int) (w : World) : Calls Try.prog 23 #[.int .u64 t, .int .u64 m] w fun e w' => e = .returned (.bool (hasB m t)) ∧ w = w' := by
  have he := hide (show (bits .andNot .u64 m t == 0) = hasB m t from rfl)
  go_enter Try.func23, Try.ntmps23
  go_wp2
  go_ret
  exact ⟨by rw [← he.out]; rfl, rfl⟩
theorem own_made (w : World) (e : TypeId) (zs : Array Value) (base c : Nat) (hb : base ≤ w.heap.size) (hc : c ≤ maxLen) : (w.alloc (.cells (madeCells zs (c * zs.size)) e)).ownsRow base e zs.size (.slice (some ⟨w.heap.size, 0, none⟩) 0 c) 0 [] :=
  ⟨by simp, .inr ⟨w.heap.size, c, _, rfl, hb, heap_alloc_new _ _, Nat.zero_le _, hc, by simp [size_madeCells], by simp⟩⟩
theorem info_hitE : (Try.prog.info? 36).map (fun i => (i.zero, i.size, i.bytes)) = some (some (.agg #[.int .u64 0, .int .u64 0]), 2, 16) := by kernel_rfl
theorem run_make_hits (c : Nat) (h6 : c ≤ 1000000) (w : World) :
    (Instr.makeSlice 29 (.int .i64 0) (.int .i64 (c : Int))).run Try.prog w = .ok (.slice (some ⟨w.heap.size, 0, none⟩) 0 c) (w.alloc (.cells (madeCells #[.int .u64 0, .int .u64 0] (c * 2)) 36)) := by
  obtain ⟨i, hi, hz⟩ := Option.map_eq_some_iff.1 info_hitE
  simp only [Prod.mk.injEq] at hz
  obtain ⟨h1, h2, h3⟩ := hz
  have := run_make_rowN (P := Try.prog) 29 36 i _ Try.underlying29 hi h1 .i64 .i64 0 c (Nat.zero_le _) (by rw [h3]; omega) (by omega) w
  rw [h2] at this
  exact this
end Go.Proofs.Ytggbokgacffamab
