/-
  The document's idmap: Put. Conditions: the list reads as said.
-/
import Derived.Test.YtoadcfjkommlkaaIdmK
namespace Go.Proofs.Ytoadcfjkommlkaa
set_option linter.unusedSimpArgs false
set_option linter.unusedVariables false
open Go.RowKit

/-- a step of the document's Put: what is out, whether the new one is in it -/
def stepP (id : Int) (r : RefV) (s : List NamedV × Bool) (x : NamedV) : List NamedV × Bool :=
  if s.2 = false ∧ id < x.1 then (s.1 ++ [(id, r)] ++ [x], true) else (s.1 ++ [x], s.2)
def foldP (id : Int) (r : RefV) (l : List NamedV) : List NamedV × Bool := l.foldl (stepP id r) ([], false)
/-- a list with one more -/
def insP (l : List NamedV) (id : Int) (r : RefV) : List NamedV := if (foldP id r l).2 then (foldP id r l).1 else (foldP id r l).1 ++ [(id, r)]
theorem foldP_succ {id : Int} {r : RefV} {l : List NamedV} {k : Nat} {x : NamedV} (h : l[k]? = some x) : foldP id r (l.take (k + 1)) = stepP id r (foldP id r (l.take k)) x := by
  unfold foldP
  rw [List.take_add_one, h, Option.toList_some, List.foldl_append]
  rfl
theorem foldP_len (id : Int) (r : RefV) (l : List NamedV) : (foldP id r l).1.length = l.length + (if (foldP id r l).2 then 1 else 0) := by
  unfold foldP
  suffices h : ∀ (s : List NamedV × Bool), (l.foldl (stepP id r) s).1.length + (if s.2 then 1 else 0) = s.1.length + l.length + (if (l.foldl (stepP id r) s).2 then 1 else 0) by
    have := h ([], false)
    simpa using this
  induction l with
  | nil =>
    intro s
    obtain ⟨o, d⟩ := s
    cases d <;> simp
  | cons x l ih =>
    intro s
    rw [List.foldl_cons]
    have h := ih (stepP id r s x)
    unfold stepP at h ⊢
    obtain ⟨o, d⟩ := s
    cases d <;> by_cases e : id < x.1 <;> simp [e] at h ⊢ <;> omega
set_option maxHeartbeats 4000000 in
theorem refPut_has (A : Option Addr) (n c : Nat) (l : List NamedV) (sh ver id r1 r2 : Int) (w : World) (hx : Rd SNm w w.heap.size A l) (hn : l.length = n) (h6 : n ≤ 1000) (hs : (lookF l id).isSome = true) :
    Calls Try.prog 8 #[.agg #[.int .i64 sh, .slice A n c, .int .i64 ver], .int .u64 id, .agg #[.int .i64 r1, .int .i64 r2]] w fun e w' => e = .returned (.tuple #[.agg #[.int .i64 sh, .slice A n c, .int .i64 ver], .bool false]) ∧ Below w.heap.size w w' := by
  obtain ⟨k0, k1, k2, kB⟩ := blk3 w #[.int .i64 sh, .slice A n c, .int .i64 ver] #[.int .i64 r1, .int .i64 r2] #[.int .i64 0, .slice none 0 0, .int .i64 0] 30 35 30
  obtain ⟨⟨q1, q2⟩, hq⟩ : ∃ q, (lookF l id).getD (0, 0) = q := ⟨_, rfl⟩
  have HM := hide k0
  have HR := hide k2
  have HB := hide kB
  have HX := hide (hx.at_world kB)
  have HG := hide (fun W (h : Rd SNm W W.heap.size A l) => refGet_any A n c l sh ver id W h hn h6)
  rw [hq, hs] at HG
  unfold encR at HG
  clear hx hn k0 k1 k2 kB hs hq
  go_enter Try.func8, Try.ntmps8
  go_upto_region 1 with fail
  generalize World.alloc (World.alloc (World.alloc w _) _) _ = w2 at *
  generalize hr : w.heap.size + 1 + 1 = r at HR
  obtain ⟨z0, z1⟩ : w2.cell? ⟨w.heap.size, 0, none⟩ = some (.int .i64 sh) ∧ w2.cell? ⟨w.heap.size, 1, none⟩ = some (.slice A n c) := ⟨by rw [HM.out.cell]; rfl, by rw [HM.out.cell]; rfl⟩
  have z2 : w2.cell? ⟨w.heap.size, 2, none⟩ = some (.int .i64 ver) := by rw [HM.out.cell]; rfl
  have hr' : w.heap.size + 2 = r := by omega
  first | rw [hr] | rw [hr'] | skip
  have Hr := hide (show w.heap.size ≤ r by omega)
  clear hr hr'
  go_upto_region 2 with (go_at_call 13; refine (HG.out _ HX.out).mono ?_; rintro e w3 ⟨rfl, hb⟩; have HM3 := hide (HM.out.below hb HM.out.lt); have HR3 := hide (HR.out.below hb HR.out.lt); have HB3 := hide (Below.step HB.out hb); clear hb)
  clear z0 z1 z2
  have hb := below1 w3 (.cells #[.int .i64 q1, .int .i64 q2] 35)
  replace HM3 := hide (HM3.out.below hb HM3.out.lt)
  replace HR3 := hide (HR3.out.below hb HR3.out.lt)
  replace HB3 := hide (Below.step HB3.out hb)
  clear hb
  generalize World.alloc w3 _ = w4 at *
  have z0 : w4.cell? ⟨w.heap.size, 0, none⟩ = some (.int .i64 sh) := by rw [HM3.out.cell]; rfl
  have z1 : w4.cell? ⟨w.heap.size, 1, none⟩ = some (.slice A n c) := by rw [HM3.out.cell]; rfl
  have z2 : w4.cell? ⟨w.heap.size, 2, none⟩ = some (.int .i64 ver) := by rw [HM3.out.cell]; rfl
  have u0 : w4.cell? ⟨r, 0, none⟩ = some (.int .i64 0) := by rw [HR3.out.cell]; rfl
  have u1 : w4.cell? ⟨r, 1, none⟩ = some (.slice none 0 0) := by rw [HR3.out.cell]; rfl
  have u2 : w4.cell? ⟨r, 2, none⟩ = some (.int .i64 0) := by rw [HR3.out.cell]; rfl
  have f0 := HR3.out.frozen 0
  have f1 := HR3.out.frozen 1
  have f2 := HR3.out.frozen 2
  go_wp2
  have q := ((HR3.out.set_ 0 (.int .i64 sh)).set_ 1 (.slice A n c)).set_ 2 (.int .i64 ver)
  have q0 := q.cell 0
  have qq1 := q.cell 1
  have qq2 := q.cell 2
  simp at q0 qq1 qq2
  exact bodyPost_ret (v := .tuple #[.agg #[.int .i64 sh, .slice A n c, .int .i64 ver], .bool false]) (by simp [results, Try.results8, go_sem, q0, qq1, qq2]) rfl ⟨rfl, ((HB3.out.setCell Hr.out _).setCell Hr.out _).setCell Hr.out _⟩
end Go.Proofs.Ytoadcfjkommlkaa
