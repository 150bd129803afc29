/-
  The package idmap: Version, Size, Len. Conditions: the blocks lie as said.
-/
import Derived.Test.YtoadcfjkommlkaaIdmC
namespace Go.Proofs.Ytoadcfjkommlkaa
open Go.RowKit

section
variable {w : World} {B M g : Nat} {hs : List Nat} {ms : List (List (Int × RefV))} {ver : Int}
set_option maxHeartbeats 1000000 in
theorem version_any (h : IdAt w B M g hs ms ver) : Calls Try.prog 15 #[.pointer (some ⟨M, 0, none⟩)] w fun e w' => e = .returned (.int .i64 ver) ∧ w = w' := by
  obtain ⟨z0, z1⟩ := h.cells
  clear h
  go_enter Try.func15, Try.ntmps15
  go_wp2
  go_ret
  exact ⟨rfl, rfl⟩
set_option maxHeartbeats 1000000 in
theorem version_nil (w : World) : Calls Try.prog 15 #[.pointer none] w fun e w' => e = .returned (.int .i64 0) ∧ w = w' := by
  go_enter Try.func15, Try.ntmps15
  go_wp2
  go_ret
  exact ⟨rfl, rfl⟩
set_option maxHeartbeats 1000000 in
theorem shard_nil (id : Int) (w : World) : Calls Try.prog 16 #[.pointer none, .int .u64 id] w fun e w' => e = .returned (.int .i64 0) ∧ w = w' := by
  go_enter Try.func16, Try.ntmps16
  go_wp2
  go_ret
  exact ⟨rfl, rfl⟩
set_option maxHeartbeats 1000000 in
theorem len_nil (w : World) : Calls Try.prog 14 #[.pointer none] w fun e w' => e = .returned (.int .i64 0) ∧ w = w' := by
  go_enter Try.func14, Try.ntmps14
  go_wp2
  go_ret
  exact ⟨rfl, rfl⟩
set_option maxHeartbeats 1000000 in
theorem size_nil (i : Int) (w : World) : Calls Try.prog 18 #[.pointer none, .int .i64 i] w fun e w' => e = .returned (.int .i64 0) ∧ w = w' := by
  go_enter Try.func18, Try.ntmps18
  go_wp2
  go_ret
  exact ⟨rfl, rfl⟩
/-- how many there are, up to a shard -/
def lenF (ms : List (List (Int × RefV))) (i : Nat) : Nat := ((ms.take i).map List.length).sum
theorem lenF_succ {l : List (Int × RefV)} {i : Nat} (h : ms[i]? = some l) : lenF ms (i + 1) = lenF ms i + l.length := by
  unfold lenF
  rw [List.take_add_one, h]
  simp
/-- how many a shard has -/
def sizeF (ms : List (List (Int × RefV))) (i : Int) : Nat := if 0 ≤ i then (ms[i.toNat]?.getD []).length else 0
set_option maxHeartbeats 2000000 in
theorem size_any (h : IdAt w B M g hs ms ver) (i : Int) : Calls Try.prog 18 #[.pointer (some ⟨M, 0, none⟩), .int .i64 i] w fun e w' => e = .returned (.int .i64 (sizeF ms i)) ∧ w = w' := by
  obtain ⟨z0, z1⟩ := h.cells
  have hlen := h.len
  by_cases h0 : i < 0
  · have e : sizeF ms i = 0 := by unfold sizeF; rw [if_neg (by omega)]
    rw [e]
    have b1 : decide (i < 0) = true := by simpa using h0
    clear h hlen e
    go_enter Try.func18, Try.ntmps18
    go_wp2
    go_ret
    exact ⟨rfl, rfl⟩
  have h0 : 0 ≤ i := by omega
  obtain ⟨k, rfl⟩ : ∃ k : Nat, i = k := ⟨i.toNat, by omega⟩
  rcases Nat.lt_or_ge k hs.length with h1 | h1
  · obtain ⟨hh, hi⟩ : ∃ hh, hs[k]? = some hh := ⟨_, List.getElem?_eq_getElem h1⟩
    obtain ⟨l, hl, hm⟩ := h.map_at hi
    have y0 := h.gcell hi
    have e : sizeF ms (k : Int) = l.length := by unfold sizeF; rw [if_pos h0, show ((k : Int)).toNat = k by omega, hl]; rfl
    rw [e]
    have L := fun ty => MapA.len (P := Try.prog) hm Try.underlying60 ty
    generalize hs.length = n at *
    have g1 : (k : Int) < n := by omega
    have g2 : ¬ ((n : Int) ≤ k) := by omega
    have g3 : decide ((n : Int) ≤ k) = false := by simpa using g1
    have g4 : ¬ ((k : Int) < 0) := by omega
    have g5 : decide ((k : Int) < 0) = false := by simp
    clear h hlen e hi hl hm
    go_enter Try.func18, Try.ntmps18
    go_wp2
    go_ret
    exact ⟨rfl, rfl⟩
  · have e : sizeF ms (k : Int) = 0 := by unfold sizeF; rw [if_pos h0, show ((k : Int)).toNat = k by omega, List.getElem?_eq_none (by omega)]; rfl
    rw [e]
    generalize hs.length = n at *
    have g1 : (n : Int) ≤ k := by omega
    have g3 : decide ((n : Int) ≤ k) = true := by simpa using g1
    have g4 : ¬ ((k : Int) < 0) := by omega
    have g5 : decide ((k : Int) < 0) = false := by simp
    clear h hlen e
    go_enter Try.func18, Try.ntmps18
    go_wp2
    go_ret
    exact ⟨rfl, rfl⟩
set_option maxHeartbeats 2000000 in
theorem len_any (h : IdAt w B M g hs ms ver) (hz : ∀ i, i ≤ hs.length → lenF ms i ≤ 1000000) : Calls Try.prog 14 #[.pointer (some ⟨M, 0, none⟩)] w fun e w' => e = .returned (.int .i64 (lenF ms hs.length)) ∧ w = w' := by
  obtain ⟨z0, z1⟩ := h.cells
  have H := hide h
  have HZ := hide hz
  obtain ⟨n, hn⟩ : ∃ n, hs.length = n := ⟨_, rfl⟩
  have Hn := hide hn
  have hn1 := h.n1
  rw [hn] at z0 hn1 ⊢
  clear h hz hn
  go_enter Try.func14, Try.ntmps14
  go_wp2
  go_loop [3, 13] (fun a i => ∃ k : Nat, k ≤ n ∧ a = .int .i64 (lenF ms k) ∧ i = .int .i64 k) (fun _ i => n - (intOf i).toNat)
  case atStart => exact ⟨0, by omega, rfl, rfl⟩
  case round =>
    obtain ⟨k, hk, rfl, rfl⟩ := hrel
    by_cases hlt : k < n
    · obtain ⟨hh, hi⟩ : ∃ hh, hs[k]? = some hh := ⟨_, List.getElem?_eq_getElem (by rw [Hn.out]; exact hlt)⟩
      obtain ⟨l, hl, hm⟩ := H.out.map_at hi
      have y0 := H.out.gcell hi
      have L := fun ty => MapA.len (P := Try.prog) hm Try.underlying60 ty
      have HS := hide (lenF_succ hl)
      have hb : lenF ms k + l.length ≤ 1000000 := by rw [← lenF_succ hl]; exact HZ.out _ (by rw [Hn.out]; omega)
      have g1 : (k : Int) < n := by omega
      have g0 : (0 : Int) ≤ k := by omega
      have hwr : IntKind.i64.wrap ((lenF ms k : Int) + (l.length : Int)) = ((lenF ms k + l.length : Nat) : Int) := by rw [IntWalk.i64_in _ (by omega)]; omega
      clear hi hl hm
      generalize l.length = q at *
      generalize lenF ms k = p at *
      go_wp2
      go_round
      case rel => exact ⟨k + 1, by omega, by rw [HS.out]; go_num, by go_num⟩
      case measure => simp [intOf]; omega
    · obtain rfl : k = n := by omega
      go_wp2
      go_ret
      exact ⟨rfl, rfl⟩
end
end Go.Proofs.Ytoadcfjkommlkaa
