/-
  The law's package walk: the plane that lives makes. No condition.
-/
import Derived.Test.YtphbdffgeeicaadWlkG
import Derived.Test.YtphbdffgeeicaadWlkH
import Derived.Test.YtphbdffgeeicaadEqI
import Derived.Test.YtphbdffgeeicaadRnkD
namespace Go.Proofs.Ytphbdffgeeicaad
set_option linter.unusedSimpArgs false
set_option linter.unusedVariables false
open Go.RowKit

def lvNs : List NodeP := [((0, [], 0), 0, [], 1, 2), ((1, [9], 0), 1, [[], [2]], 2, 0), ((2, [1], 0), 1, [[], [1]], 0, 1)]
abbrev N0 : List Value := [.int .u64 0, .slice none 0 0, .int .u64 0, .int .i64 0, .slice none 0 0, .int .i64 1, .int .i64 2]
def N1 (a s : Nat) : List Value := [.int .u64 1, .slice (some ⟨a, 0, none⟩) 1 1, .int .u64 0, .int .i64 1, .slice (some ⟨s, 0, none⟩) 2 2, .int .i64 2, .int .i64 0]
def N2 (a s : Nat) : List Value := [.int .u64 2, .slice (some ⟨a, 0, none⟩) 1 1, .int .u64 0, .int .i64 1, .slice (some ⟨s, 0, none⟩) 2 2, .int .i64 0, .int .i64 1]
theorem lit_lists (w : World) (s l : Nat) (x : Int) (hs : Blk w s 28 #[.slice none 0 0, .slice (some ⟨l, 0, none⟩) 1 1]) (hl : Blk w l 3 #[.int .i64 x]) : Rd (Sh.list (Sh.int .i64)) w w.heap.size (some ⟨s, 0, none⟩) [[], [x]] := fun _ => by
  refine ⟨⟨s, 0, none⟩, rfl, hs.lt, fun k y hy => ?_⟩
  have cl : ∀ j, w.cell? (Addr.add ⟨s, 0, none⟩ j) = (#[.slice none 0 0, .slice (some ⟨l, 0, none⟩) 1 1] : Array Value)[j]? := fun j => by rw [add_mk, Nat.zero_add]; exact hs.cell j
  have one : Rd (Sh.int .i64) w w.heap.size (some ⟨l, 0, none⟩) [x] := (flatInt .i64).blk hl rfl
  rcases k with _ | _ | k
  · obtain rfl : [] = y := by simpa using hy
    refine ⟨_, ⟨none, 0, rfl, Nat.le_refl _, by omega, RdR.nil⟩, fun j u hu => ?_⟩
    rw [cl]
    rcases j with _ | j <;> simp at hu <;> subst hu <;> rfl
  · obtain rfl : [x] = y := by simpa using hy
    refine ⟨_, ⟨some ⟨l, 0, none⟩, 1, rfl, Nat.le_refl _, by omega, one⟩, fun j u hu => ?_⟩
    rw [cl]
    rcases j with _ | j <;> simp at hu <;> subst hu <;> rfl
  · simp at hy
theorem lit_nodes (w : World) (g a1 s1 l1 a2 s2 l2 : Nat) (h : Blk w g 47 (N0 ++ N1 a1 s1 ++ N2 a2 s2).toArray) (ha1 : Blk w a1 21 #[.int .i32 9]) (hs1 : Blk w s1 28 #[.slice none 0 0, .slice (some ⟨l1, 0, none⟩) 1 1]) (hl1 : Blk w l1 3 #[.int .i64 2])
    (ha2 : Blk w a2 21 #[.int .i32 1]) (hs2 : Blk w s2 28 #[.slice none 0 0, .slice (some ⟨l2, 0, none⟩) 1 1]) (hl2 : Blk w l2 3 #[.int .i64 1]) : Rd SNode w w.heap.size (some ⟨g, 0, none⟩) lvNs := fun _ => by
  refine ⟨⟨g, 0, none⟩, rfl, h.lt, fun k x hx => ?_⟩
  have one : ∀ (p : Nat) (v : Int), Blk w p 21 #[.int .i32 v] → Rd (Sh.int .i32) w w.heap.size (some ⟨p, 0, none⟩) [v] := fun p v hp => (flatInt .i32).blk hp rfl
  have rdN : ∀ (id : Int) (V : Option Addr) (cV : Nat) (vs : List Int) (tg lv : Int) (L : Option Addr) (cL : Nat) (ls : List (List Int)) (nx pv : Int), vs.length ≤ cV → cV ≤ 9223372036854775807 → Rd (Sh.int .i32) w w.heap.size V vs → ls.length ≤ cL → cL ≤ 9223372036854775807 → Rd (Sh.list (Sh.int .i64)) w w.heap.size L ls →
      SNode.rd w (fun b => b < w.heap.size) ((id, vs, tg), lv, ls, nx, pv) [.int .u64 id, .slice V vs.length cV, .int .u64 tg, .int .i64 lv, .slice L ls.length cL, .int .i64 nx, .int .i64 pv] := fun id V cV vs tg lv L cL ls nx pv h1 h2 h3 h4 h5 h6 =>
    ⟨[.int .u64 id, .slice V vs.length cV, .int .u64 tg], [.int .i64 lv, .slice L ls.length cL, .int .i64 nx, .int .i64 pv], rfl, ⟨[.int .u64 id], [.slice V vs.length cV, .int .u64 tg], rfl, rfl, [.slice V vs.length cV], [.int .u64 tg], rfl, ⟨V, cV, rfl, h1, h2, h3⟩, rfl⟩,
      [.int .i64 lv], [.slice L ls.length cL, .int .i64 nx, .int .i64 pv], rfl, rfl, [.slice L ls.length cL], [.int .i64 nx, .int .i64 pv], rfl, ⟨L, cL, rfl, h4, h5, h6⟩, [.int .i64 nx], [.int .i64 pv], rfl, rfl, rfl⟩
  have cl : ∀ j, w.cell? (Addr.add ⟨g, 0, none⟩ j) = ((N0 ++ N1 a1 s1 ++ N2 a2 s2).toArray)[j]? := fun j => by rw [add_mk, Nat.zero_add]; exact h.cell j
  rcases k with _ | _ | _ | k
  · obtain rfl : ((0, [], 0), 0, [], 1, 2) = x := by simpa [lvNs] using hx
    refine ⟨_, rdN 0 none 0 [] 0 0 none 0 [] 1 2 (Nat.le_refl _) (by omega) RdR.nil (Nat.le_refl _) (by omega) RdR.nil, fun j u hu => ?_⟩
    rw [cl]
    rcases j with _ | _ | _ | _ | _ | _ | _ | j <;> simp at hu <;> subst hu <;> rfl
  · obtain rfl : ((1, [9], 0), 1, [[], [2]], 2, 0) = x := by simpa [lvNs] using hx
    refine ⟨_, rdN 1 (some ⟨a1, 0, none⟩) 1 [9] 0 1 (some ⟨s1, 0, none⟩) 2 [[], [2]] 2 0 (Nat.le_refl _) (by omega) (one a1 9 ha1) (Nat.le_refl _) (by omega) (lit_lists w s1 l1 2 hs1 hl1), fun j u hu => ?_⟩
    rw [cl]
    rcases j with _ | _ | _ | _ | _ | _ | _ | j <;> simp at hu <;> subst hu <;> rfl
  · obtain rfl : ((2, [1], 0), 1, [[], [1]], 0, 1) = x := by simpa [lvNs] using hx
    refine ⟨_, rdN 2 (some ⟨a2, 0, none⟩) 1 [1] 0 1 (some ⟨s2, 0, none⟩) 2 [[], [1]] 0 1 (Nat.le_refl _) (by omega) (one a2 1 ha2) (Nat.le_refl _) (by omega) (lit_lists w s2 l2 1 hs2 hl2), fun j u hu => ?_⟩
    rw [cl]
    rcases j with _ | _ | _ | _ | _ | _ | _ | j <;> simp at hu <;> subst hu <;> rfl
  · simp [lvNs] at hx
theorem lvNs_ok : ∀ x ∈ lvNs, OkN x := by
  intro x hx
  simp only [lvNs, List.mem_cons, List.not_mem_nil, or_false] at hx
  rcases hx with rfl | rfl | rfl
  · exact ⟨fun y hy => by simp at hy, fun l hl => by simp at hl, by decide, by decide⟩
  · refine ⟨fun y hy => by simp at hy; omega, fun l hl y hy => ?_, by decide, by decide⟩
    simp at hl
    rcases hl with rfl | rfl
    · simp at hy
    · simp at hy; subst hy; decide
  · refine ⟨fun y hy => by simp at hy; omega, fun l hl y hy => ?_, by decide, by decide⟩
    simp at hl
    rcases hl with rfl | rfl
    · simp at hy
    · simp at hy; subst hy; decide
theorem lvNs_sm : ∀ x ∈ lvNs, SmN x := by
  intro x hx
  simp only [lvNs, List.mem_cons, List.not_mem_nil, or_false] at hx
  rcases hx with rfl | rfl | rfl <;> exact ⟨by decide, by decide, by decide⟩
theorem near11 : nearF lvNs 1 1 = [2] := by decide
theorem near21 : nearF lvNs 2 1 = [1] := by decide
theorem spot1 : spotF lvNs [0] 1 = ((81, 1), 1) := by decide
theorem spot2 : spotF lvNs [0] 2 = ((1, 2), 2) := by decide
theorem spot9 : spotF lvNs [2] 9 = ((4, 0), 9) := by decide
theorem step11 : stepF lvNs [0] 1 1 = 2 := by
  unfold stepF seenF
  rw [near11, List.map_cons, List.map_nil, spot1, spot2, show srtS [((81, 1), 1), ((1, 2), 2)] = [((1, 2), 2), ((81, 1), 1)] from (srt_eq swoS totS (by decide) (by decide)).symm]
  rfl
theorem step21 : stepF lvNs [0] 2 1 = 2 := by
  unfold stepF seenF
  rw [near21, List.map_cons, List.map_nil, spot1, spot2, show srtS [((1, 2), 2), ((81, 1), 1)] = [((1, 2), 2), ((81, 1), 1)] from (srt_eq swoS totS (by decide) (by decide)).symm]
  rfl
theorem way12 : WayS lvNs [0] 1 1 [1, 2] := by
  refine ⟨rfl, fun i a b ha hb => ?_, fun a ha => ?_⟩
  · rcases i with _ | _ | i
    · simp at ha hb; subst ha hb; rw [step11]; exact ⟨rfl, by decide⟩
    · simp at hb
    · simp at hb
  · simp at ha; subst ha; exact step21
theorem down12 {d : Int} (h : DownR lvNs [0] (lvN 1) 1 d) : d = 2 := by
  obtain ⟨p, t, h1, h2, h3⟩ := (h : ∃ p t, WayS lvNs [0] ((0 + 1 : Nat) : Int) 1 p ∧ p[p.length - 1]? = some t ∧ DownR lvNs [0] 0 t d)
  obtain rfl := h1.same way12
  simp at h2
  subst h2
  exact h3
end Go.Proofs.Ytphbdffgeeicaad
