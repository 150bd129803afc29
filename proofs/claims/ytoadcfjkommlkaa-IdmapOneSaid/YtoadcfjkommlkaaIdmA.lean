/-
  The package idmap: its object; Shard. Conditions: the blocks lie as said.
-/
import Derived.Test.YtoadcfjkommlkaaMap
import Derived.Test.YtoadcfjkommlkaaRngA
import Derived.RegionTactic
import Derived.BigRegion
import Derived.Deep.RegionHeld3
import Derived.Deep.RegionLaw
namespace Go.Proofs.Ytoadcfjkommlkaa
open Go.RowKit

/-- a ref: slot, generation -/
abbrev RefV := Int × Int
def encR (r : RefV) : Value := .agg #[.int .i64 r.1, .int .i64 r.2]
/-- an id's shard -/
def shardF (n : Nat) (id : Int) : Nat := (mixF id).toNat * n / 18446744073709551616
theorem shardF_lt {n : Nat} (hn : 0 < n) (id : Int) : shardF n id < n := by
  have h := mixF_range id
  unfold shardF
  refine Nat.div_lt_of_lt_mul ?_
  exact Nat.mul_lt_mul_of_pos_right (by omega) hn
/-- the map's blocks: the object at M, the row of its shards at g, a map hs[i] each, with ms[i]; all from block B on -/
structure IdAt (w : World) (B M g : Nat) (hs : List Nat) (ms : List (List (Int × RefV))) (ver : Int) : Prop where
  m : Blk w M 59 #[.slice (some ⟨g, 0, none⟩) hs.length hs.length, .int .i64 ver]
  row : Blk w g 60 (hs.map fun h => Value.map (some h)).toArray
  len : ms.length = hs.length
  maps : ∀ (i h : Nat) (l : List (Int × RefV)), hs[i]? = some h → ms[i]? = some l → MapA .u64 encR w h l
  nd : hs.Nodup
  loM : B ≤ M
  log : B ≤ g
  loh : ∀ h ∈ hs, B ≤ h
  n0 : 0 < hs.length
  n1 : hs.length ≤ 64
  home : ∀ (i : Nat) (l : List (Int × RefV)), ms[i]? = some l → ∀ p ∈ l, shardF hs.length p.1 = i
section
variable {w w' : World} {B M g : Nat} {hs : List Nat} {ms : List (List (Int × RefV))} {ver : Int}
theorem IdAt.below (h : IdAt w B M g hs ms ver) (hb : Below w.heap.size w w') : IdAt w' B M g hs ms ver :=
  ⟨h.m.below hb h.m.lt, h.row.below hb h.row.lt, h.len, fun i hh l h1 h2 => (h.maps i hh l h1 h2).below hb (h.maps i hh l h1 h2).lt, h.nd, h.loM, h.log, h.loh, h.n0, h.n1, h.home⟩
theorem IdAt.cells (h : IdAt w B M g hs ms ver) : w.cell? ⟨M, 0, none⟩ = some (.slice (some ⟨g, 0, none⟩) hs.length hs.length) ∧ w.cell? ⟨M, 1, none⟩ = some (.int .i64 ver) :=
  ⟨by rw [h.m.cell]; rfl, by rw [h.m.cell]; rfl⟩
theorem IdAt.gcell (h : IdAt w B M g hs ms ver) {i hh : Nat} (hi : hs[i]? = some hh) : w.cell? ⟨g, i, none⟩ = some (.map (some hh)) := by
  rw [h.row.cell]; simp [hi]
/-- the shard of an id: its map's block, what it has -/
theorem IdAt.at_ (h : IdAt w B M g hs ms ver) (id : Int) : ∃ hh l, hs[shardF hs.length id]? = some hh ∧ ms[shardF hs.length id]? = some l ∧ MapA .u64 encR w hh l := by
  have h1 := shardF_lt h.n0 id
  exact ⟨_, _, List.getElem?_eq_getElem h1, List.getElem?_eq_getElem (by rw [h.len]; exact h1), h.maps _ _ _ (List.getElem?_eq_getElem h1) (List.getElem?_eq_getElem (by rw [h.len]; exact h1))⟩
set_option maxHeartbeats 2000000 in
theorem shard_any (h : IdAt w B M g hs ms ver) (id : Int) : Calls Try.prog 16 #[.pointer (some ⟨M, 0, none⟩), .int .u64 id] w fun e w' => e = .returned (.int .i64 (shardF hs.length id)) ∧ Below w.heap.size w w' := by
  obtain ⟨z0, z1⟩ := h.cells
  have hr := mixF_range id
  obtain ⟨x, hx⟩ : ∃ x : Nat, mixF id = x := ⟨(mixF id).toNat, by omega⟩
  have hlt := shardF_lt h.n0 id
  have hn1 := h.n1
  have HM := hide (fun W => mix_any id W)
  have HB := hide (fun W => below_any x hs.length (by omega) (by omega) W)
  have HS := hide (show (x * hs.length / 18446744073709551616 : Nat) = shardF hs.length id by unfold shardF; rw [hx]; rfl)
  rw [HS.out] at HB
  rw [hx] at HM
  generalize shardF hs.length id = s at *
  generalize hs.length = n at *
  have hs64 : s < 64 := by omega
  have c1 : IntKind.u64.wrap (n : Int) = n := by rw [IntKind.wrap_u64]; omega
  have c2 : IntKind.i64.wrap (s : Int) = s := IntWalk.i64_in _ (by omega)
  clear h hr hx hlt
  go_enter Try.func16, Try.ntmps16
  go_upto_region 3 with fail
  go_region_law ((go_simp; first
    | (go_at_call 23; refine (HM.out _).mono ?_; rintro e _ ⟨rfl, rfl⟩)
    | (go_at_call 22; refine (HB.out _).mono ?_; rintro e _ ⟨rfl, rfl⟩)))
  all_goals
    go_wp2
    go_ret
    exact ⟨rfl, by first | exact (Below.refl _ _).drew | exact below_drewN (Below.refl _ _) _⟩
end
end Go.Proofs.Ytoadcfjkommlkaa
