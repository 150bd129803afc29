/-
  The package arena: its calls. Conditions: the arena's blocks lie as said, its lists fit each other.
-/
import Derived.Test.YtoodcfldnojkjabArnA
namespace Go.Proofs.Ytoodcfldnojkjab
open Go.RowKit

/-- an arena of n slots: states, generations, the free ones (the next one last) -/
structure Arn where
  S : List Int
  G : List Int
  K : List Int
structure Arn.Ok (n m : Nat) (s : Arn) : Prop where
  hS : s.S.length = n + 1
  hG : s.G.length = n + 1
  n1 : 1 ≤ n
  n4 : n ≤ 4096
  st : ∀ (i : Nat) (x : Int), s.S[i]? = some x → 0 ≤ x ∧ x ≤ 4
  gn : ∀ (i : Nat) (x : Int), s.G[i]? = some x → 0 ≤ x ∧ x ≤ m
  fr : ∀ k ∈ s.K, 1 ≤ k ∧ k ≤ n ∧ s.S[k.toNat]? = some 0
  nd : s.K.Nodup
  ct : cnt s.S 0 = s.K.length
/-- its blocks: the object at P, the slots at Q, the free list a row of its own; all from block B on -/
structure ArnAt (w : World) (B P Q : Nat) (fv : Value) (s : Arn) : Prop where
  two : Two w P Q fv s.S s.G
  own : w.ownsRow B 3 1 fv s.K.length (s.K.map (Value.int .i64))
  hP : B ≤ P
  hQ : B ≤ Q
/-- what may have turned: the arena's blocks alone -/
structure Turned (w w' : World) (P Q : Nat) (fv : Value) : Prop where
  os : w'.os = w.os
  tape : w'.tape = w.tape
  output : w'.output = w.output
  size : w.heap.size ≤ w'.heap.size
  block : ∀ k, k < w.heap.size → k ≠ P → k ≠ Q → some k ≠ fv.ownBlock → w'.heap[k]? = w.heap[k]?
theorem Turned.refl (w : World) (P Q : Nat) (fv : Value) : Turned w w P Q fv := ⟨rfl, rfl, rfl, Nat.le_refl _, fun _ _ _ _ _ => rfl⟩
theorem Turned.below {w0 w w' : World} {B P Q : Nat} {fv : Value} {s : Arn} (hb : Below B w0 w) (h : ArnAt w B P Q fv s) (hB : B ≤ w.heap.size) (ht : Turned w w' P Q fv) : Below B w0 w' :=
  ⟨ht.os.trans hb.os, ht.tape.trans hb.tape, ht.output.trans hb.output, Nat.le_trans hb.size ht.size, fun k hk => (ht.block k (by omega) (by have := h.hP; omega) (by have := h.hQ; omega) (by
    intro e
    have := (h.own.lt k e.symm).1
    omega)).trans (hb.block k hk)⟩

theorem at_ne {w : World} {B P Q : Nat} {fv : Value} {s : Arn} (h : ArnAt w B P Q fv s) : fv.ownBlock ≠ some P ∧ fv.ownBlock ≠ some Q :=
  ⟨own_blk_ne h.own h.two.hP (by decide), own_blk_ne h.own h.two.hQ (by decide)⟩

def stateOf (S : List Int) (i : Int) : Int := if i < 1 ∨ (S.length : Int) ≤ i then -1 else S.getD i.toNat 0
def genOf (S G : List Int) (i : Int) : Int := if i < 1 ∨ (S.length : Int) ≤ i then -1 else G.getD i.toNat 0
def countOf (S : List Int) (v : Int) : Int := if v < 0 ∨ 5 ≤ v then 0 else cnt S v

set_option maxHeartbeats 1000000 in
theorem state_any {n m P Q B : Nat} {fv : Value} {s : Arn} (w : World) (h : ArnAt w B P Q fv s) (ok : s.Ok n m) (i : Int) :
    Calls Try.prog 14 #[.pointer (some ⟨P, 0, none⟩), .int .i64 i] w fun e w' => e = .returned (.int .i64 (stateOf s.S i)) ∧ w = w' := by
  have hl : s.S.length ≤ 5000 := by have := ok.hS; have := ok.n4; omega
  have HA := hide (at_any w h.two i hl)
  by_cases hi : i < 1 ∨ (s.S.length : Int) ≤ i
  · unfold stateOf
    rw [if_pos hi] at HA ⊢
    have H := hide h
    have HH := hide hi
    clear h ok hi hl
    go_enter Try.func14, Try.ntmps14
    go_wp2_with (go_at_call 21; refine HA.out.mono ?_; rintro e w' ⟨rfl, rfl⟩)
    go_ret
    exact ⟨rfl, rfl⟩
  · unfold stateOf
    rw [if_neg hi] at HA ⊢
    obtain ⟨k, rfl⟩ := Int.eq_ofNat_of_zero_le (show 0 ≤ i by omega)
    have hk : k < s.S.length := by omega
    obtain ⟨x, hx⟩ : ∃ x, s.S[k]? = some x := ⟨_, List.getElem?_eq_getElem hk⟩
    have hc : w.cell? ⟨Q, k * 2, none⟩ = some (.int .i64 x) := by
      rw [h.two.hQ.cell, slots_state hx]
    have H := hide h
    have HH := hide hi
    rw [Int.toNat_natCast] at HA ⊢
    rw [show s.S.getD k 0 = x by simp [hx]]
    clear hx
    clear h ok hi hl
    go_enter Try.func14, Try.ntmps14
    go_wp2_with (go_at_call 21; refine HA.out.mono ?_; rintro e w' ⟨rfl, rfl⟩)
    go_ret
    exact ⟨rfl, rfl⟩
set_option maxHeartbeats 1000000 in
theorem gen_any {n m P Q B : Nat} {fv : Value} {s : Arn} (w : World) (h : ArnAt w B P Q fv s) (ok : s.Ok n m) (i : Int) :
    Calls Try.prog 16 #[.pointer (some ⟨P, 0, none⟩), .int .i64 i] w fun e w' => e = .returned (.int .i64 (genOf s.S s.G i)) ∧ w = w' := by
  have hl : s.S.length ≤ 5000 := by have := ok.hS; have := ok.n4; omega
  have hG := ok.hG
  have hS := ok.hS
  have HA := hide (at_any w h.two i hl)
  by_cases hi : i < 1 ∨ (s.S.length : Int) ≤ i
  · unfold genOf
    rw [if_pos hi] at HA ⊢
    have H := hide h
    have HH := hide hi
    clear h ok hi hl hG hS
    go_enter Try.func16, Try.ntmps16
    go_wp2_with (go_at_call 21; refine HA.out.mono ?_; rintro e w' ⟨rfl, rfl⟩)
    go_ret
    exact ⟨rfl, rfl⟩
  · unfold genOf
    rw [if_neg hi] at HA ⊢
    obtain ⟨k, rfl⟩ := Int.eq_ofNat_of_zero_le (show 0 ≤ i by omega)
    have hk : k < s.S.length := by omega
    have hc : w.cell? ⟨Q, k * 2 + 1, none⟩ = some (.int .i64 (s.G.getD k 0)) := by
      rw [h.two.hQ.cell, slots_gen (x := s.G.getD k 0) hk (by simp [show k < s.G.length by omega])]
    have H := hide h
    have HH := hide hi
    rw [Int.toNat_natCast] at HA ⊢
    clear h ok hi hl hG hS
    go_enter Try.func16, Try.ntmps16
    go_wp2_with (go_at_call 21; refine HA.out.mono ?_; rintro e w' ⟨rfl, rfl⟩)
    go_ret
    exact ⟨rfl, rfl⟩
set_option maxHeartbeats 1000000 in
theorem count_any {P Q B : Nat} {fv : Value} {s : Arn} (w : World) (h : ArnAt w B P Q fv s) (v : Int) :
    Calls Try.prog 18 #[.pointer (some ⟨P, 0, none⟩), .int .i64 v] w fun e w' => e = .returned (.int .i64 (countOf s.S v)) ∧ w = w' := by
  unfold countOf
  by_cases h0 : v < 0
  · rw [if_pos (.inl h0)]
    clear h
    go_enter Try.func18, Try.ntmps18
    go_wp2
    go_ret
    exact ⟨rfl, rfl⟩
  by_cases h5 : 5 ≤ v
  · rw [if_pos (.inr h5)]
    clear h
    go_enter Try.func18, Try.ntmps18
    go_wp2
    go_ret
    exact ⟨rfl, rfl⟩
  rw [if_neg (by omega)]
  obtain ⟨y, rfl⟩ := Int.eq_ofNat_of_zero_le (show 0 ≤ v by omega)
  have hc : w.cell? ⟨P, 2 + y, none⟩ = some (.int .i64 (cnt s.S y)) := by
    rw [h.two.hP.cell]
    have : y = 0 ∨ y = 1 ∨ y = 2 ∨ y = 3 ∨ y = 4 := by omega
    rcases this with rfl | rfl | rfl | rfl | rfl <;> rfl
  have h5' : (y : Int) < 5 := by omega
  clear h h0 h5
  go_enter Try.func18, Try.ntmps18
  go_wp2
  go_ret
  exact ⟨rfl, rfl⟩

def Arn.set (s : Arn) (i : Nat) (z : Int) : Arn := ⟨s.S.set i z, s.G, s.K⟩
/-- Move's answer, and the arena behind it -/
def moves (S : List Int) (i z : Int) : Bool := decide (1 ≤ stateOf S i ∧ stateOf S i ≤ 3 ∧ z = stateOf S i + 1)
theorem stateOf_at {S : List Int} {k : Nat} {x : Int} (h1 : 1 ≤ k) (hx : S[k]? = some x) : stateOf S k = x := by
  have := (List.getElem?_eq_some_iff.1 hx).1
  unfold stateOf
  rw [if_neg (by omega)]
  simp [hx]
theorem stateOf_out {S : List Int} {i : Int} (h : i < 1 ∨ (S.length : Int) ≤ i) : stateOf S i = -1 := if_pos h
/-- a slot that there is, or none -/
theorem slot_or {S : List Int} (i : Int) : (i < 1 ∨ (S.length : Int) ≤ i) ∨ ∃ (k : Nat) (x : Int), i = k ∧ 1 ≤ k ∧ k < S.length ∧ S[k]? = some x := by
  by_cases h : i < 1 ∨ (S.length : Int) ≤ i
  · exact .inl h
  · obtain ⟨k, rfl⟩ := Int.eq_ofNat_of_zero_le (show 0 ≤ i by omega)
    exact .inr ⟨k, _, rfl, by omega, by omega, List.getElem?_eq_getElem (by omega)⟩
def CellAt (w : World) (Q k : Nat) (x : Int) : Prop := w.cell? ⟨Q, k * 2, none⟩ = some (.int .i64 x)

set_option maxHeartbeats 1000000 in
theorem move_no {n m P Q B : Nat} {fv : Value} {s : Arn} (w : World) (h : ArnAt w B P Q fv s) (ok : s.Ok n m) (i z : Int) (hm : moves s.S i z = false) :
    Calls Try.prog 11 #[.pointer (some ⟨P, 0, none⟩), .int .i64 i, .int .i64 z] w fun e w' => e = .returned (.bool false) ∧ w = w' := by
  have hl : s.S.length ≤ 5000 := by have := ok.hS; have := ok.n4; omega
  have HA := hide (at_any w h.two i hl)
  unfold moves at hm
  have hm := of_decide_eq_false hm
  rcases slot_or (S := s.S) i with hi | ⟨k, x, rfl, h1, hk, hx⟩
  · rw [if_pos hi] at HA
    clear h ok hi hl hm
    go_enter Try.func11, Try.ntmps11
    go_wp2_with (go_at_call 21; refine HA.out.mono ?_; rintro e w' ⟨rfl, rfl⟩)
    go_ret
    exact ⟨rfl, rfl⟩
  · rw [if_neg (by omega), Int.toNat_natCast] at HA
    rw [stateOf_at h1 hx] at hm
    have hx4 := ok.st k x hx
    have hc : w.cell? ⟨Q, k * 2, none⟩ = some (.int .i64 x) := by rw [h.two.hQ.cell, slots_state hx]
    have three : x = 0 ∨ x = 4 ∨ (1 ≤ x ∧ x ≤ 3 ∧ z ≠ x + 1) := by omega
    clear h ok hl hm hx hk
    rcases three with rfl | rfl | ⟨x1, x3, hz⟩
    · go_enter Try.func11, Try.ntmps11
      go_wp2_with (go_at_call 21; refine HA.out.mono ?_; rintro e w' ⟨rfl, rfl⟩)
      go_ret
      exact ⟨rfl, rfl⟩
    · go_enter Try.func11, Try.ntmps11
      go_wp2_with (go_at_call 21; refine HA.out.mono ?_; rintro e w' ⟨rfl, rfl⟩)
      go_ret
      exact ⟨rfl, rfl⟩
    · have b1 : (x == 0) = false := by rw [beq_eq_false_iff_ne]; omega
      have b2 : (x == 4) = false := by rw [beq_eq_false_iff_ne]; omega
      have b3 : (z != x + 1) = true := by rw [bne_iff_ne]; exact hz
      clear hz
      go_enter Try.func11, Try.ntmps11
      go_wp2_with (go_at_call 21; refine HA.out.mono ?_; rintro e w' ⟨rfl, rfl⟩)
      go_ret
      exact ⟨rfl, rfl⟩
def MoveDone (w : World) (B P Q : Nat) (fv : Value) (s : Arn) (e : Ending) (w' : World) : Prop := e = .returned (.bool true) ∧ ArnAt w' B P Q fv s ∧ Turned w w' P Q fv
theorem arn_set {w w' : World} {B P Q : Nat} {fv : Value} {s : Arn} {i : Nat} {z : Int} {e : Ending} (h : ArnAt w B P Q fv s) (hd : SetDone w P Q fv (s.S.set i z) s.G e w') : ArnAt w' B P Q fv (s.set i z) ∧ Turned w w' P Q fv := by
  obtain ⟨_, h2, h3, h4, h5, h6, h7⟩ := hd
  obtain ⟨n1, n2⟩ := at_ne h
  refine ⟨⟨h2, own_keep h.own fun g hg => h4 g ?_ ?_, h.hP, h.hQ⟩, ⟨h5, h6, h7, by omega, fun k _ a b _ => h4 k a b⟩⟩
  · rintro rfl; exact n1 hg
  · rintro rfl; exact n2 hg
set_option maxHeartbeats 1000000 in
theorem move_yes {n m P Q B : Nat} {fv : Value} {s : Arn} (w : World) (h : ArnAt w B P Q fv s) (ok : s.Ok n m) (k x : Nat) (h1 : 1 ≤ k) (hx : s.S[k]? = some (x : Int)) (x1 : 1 ≤ x) (x3 : x ≤ 3) :
    Calls Try.prog 11 #[.pointer (some ⟨P, 0, none⟩), .int .i64 k, .int .i64 ((x + 1 : Nat) : Int)] w (MoveDone w B P Q fv (s.set k ((x + 1 : Nat) : Int))) := by
  have hl : s.S.length ≤ 5000 := by have := ok.hS; have := ok.n4; omega
  have hk := (List.getElem?_eq_some_iff.1 hx).1
  have HA := hide (at_any w h.two k hl)
  rw [if_neg (by omega), Int.toNat_natCast] at HA
  have HS := hide (set_any w h.two k x (x + 1) hl h1 hx (by omega) (by omega) (by omega))
  have hc : w.cell? ⟨Q, k * 2, none⟩ = some (.int .i64 x) := by rw [h.two.hQ.cell, slots_state hx]
  have b1 : ((x : Int) == 0) = false := by rw [beq_eq_false_iff_ne]; omega
  have b2 : ((x : Int) == 4) = false := by rw [beq_eq_false_iff_ne]; omega
  have b3 : (((x + 1 : Nat) : Int) != (x : Int) + 1) = false := by simp
  have H := hide h
  clear h ok hl hx hk
  go_enter Try.func11, Try.ntmps11
  go_wp2_with (first
    | (go_at_call 21; refine HA.out.mono ?_; rintro e w' ⟨rfl, rfl⟩)
    | (go_at_call 22; refine HS.out.mono ?_; rintro e w1 hd; obtain ⟨a1, a2⟩ := arn_set H.out hd; obtain ⟨rfl, _⟩ := hd))
  go_ret
  exact ⟨rfl, a1, a2⟩
end Go.Proofs.Ytoodcfldnojkjab
