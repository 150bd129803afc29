/-
  The package lock: Held. Conditions: the table's blocks lie as said.
-/
import Derived.Test.YtknljldmjicfgaaLckA
import Derived.Test.YtknljldmjicfgaaSrI
namespace Go.Proofs.Ytknljldmjicfgaa
open Go.RowKit

/-- those of a list that w holds -/
def ofW (m : List (Int × Int)) (x : Int) : List Int := (m.filter fun p => decide (p.2 = x)).map (·.1)
theorem ofW_snoc (m : List (Int × Int)) (x k v : Int) : ofW (m ++ [(k, v)]) x = if v = x then ofW m x ++ [k] else ofW m x := by
  unfold ofW
  by_cases e : v = x <;> simp [List.filter_append, List.filter_cons, e]
theorem ofW_len (m : List (Int × Int)) (x : Int) : (ofW m x).length ≤ m.length := by
  unfold ofW
  rw [List.length_map]
  exact List.length_filter_le _ _
theorem intsUpTo_pw (n : Nat) : (intsUpTo n).Pairwise (· < ·) := by
  unfold intsUpTo
  rw [List.pairwise_map]
  exact List.pairwise_lt_range.imp fun h => by omega
theorem heldN_pw {N : Nat} {h : List (Int × Int)} {x : Int} : (heldN N h x).Pairwise (· < ·) := (intsUpTo_pw N).filter _
theorem held_srt {s : Tab} (ok : s.Ok) (kn : (s.h.map (·.1)).Nodup) {m : List (Int × Int)} (hp : m.Perm s.h) (x : Int) : srtI (ofW m x) = heldF s.h x := by
  have pw : (heldF s.h x).Pairwise (· < ·) := heldN_pw
  refine srtI_eq ?_ (pw.imp fun h => Int.le_of_lt h)
  have km := (hp.map (·.1)).nodup_iff.2 kn
  have n1 : (ofW m x).Nodup := km.sublist (List.filter_sublist.map _)
  have n2 : (heldF s.h x).Nodup := pw.imp fun h e => by omega
  refine (List.perm_ext_iff_of_nodup n2 n1).2 fun y => ?_
  rw [mem_held, lookF_iff kn]
  unfold ofW
  rw [List.mem_map]
  constructor
  · rintro ⟨_, h⟩
    exact ⟨(y, x), List.mem_filter.2 ⟨hp.mem_iff.2 h, by simp⟩, rfl⟩
  · rintro ⟨⟨a, b⟩, h, rfl⟩
    have h1 := (List.mem_filter.1 h).1
    have h2 : b = x := by simpa using (List.mem_filter.1 h).2
    subst h2
    have h3 := hp.mem_iff.1 h1
    exact ⟨by have := (ok.h _ h3).1; simp only at this ⊢; omega, h3⟩
theorem keys_len {s : Tab} (ok : s.Ok) (kn : (s.h.map (·.1)).Nodup) : s.h.length ≤ 4097 := by
  have := nodup_bound (n := 4097) kn fun x hx => by
    obtain ⟨p, hp, rfl⟩ := List.mem_map.1 hx
    have := (ok.h p hp).1
    omega
  simpa using this

/-- a loop over the holders is under way: what has been found -/
structure HeldLoop (w wr : World) (hb r : Nat) (m : List (Int × Int)) (x : Int) (v : Value) (done : List (Int × Int)) : Prop where
  rng : RangeA .i64 (Value.int .i64) wr hb r m done
  own : wr.ownsRow w.heap.size 3 1 v (ofW done x).length ((ofW done x).map (Value.int .i64))
  bel : Below w.heap.size w wr
  hr : w.heap.size ≤ r
  apart : v.ownBlock ≠ some r
section
variable {w wr wr' : World} {hb r : Nat} {m done : List (Int × Int)} {x : Int} {v : Value}
/-- one that w does not hold -/
theorem HeldLoop.skip (h : HeldLoop w wr hb r m x v done) (hr : r = w.heap.size) (ho : v.ownBlock ≠ some r) {k y : Int} (hR : RangeA .i64 (Value.int .i64) wr' hb r m (done ++ [(k, y)])) (hs : MapStep wr wr' r) : wr'.ownsRow w.heap.size 3 1 v (ofW done x).length ((ofW done x).map (Value.int .i64)) ∧ Below w.heap.size w wr' :=
  ⟨own_keep h.own fun g hg => hs.2.2.2.2 g (by rintro rfl; exact ho hg), hs.below h.bel h.hr⟩
theorem HeldLoop.grow {w1 w3 : World} {v' : Value} {k : Int} (hR : RangeA .i64 (Value.int .i64) w1 hb w.heap.size m (done ++ [(k, x)])) (hO : w1.ownsRow w.heap.size 3 1 v (ofW done x).length ((ofW done x).map (Value.int .i64))) (ha : v.ownBlock ≠ some w.heap.size) (hl : hb < w.heap.size)
    (hO3 : w3.ownsRow w.heap.size 3 1 v' ((ofW done x).length + 1) ((ofW done x).map (Value.int .i64) ++ (#[Value.int .i64 k] : Array Value).toList)) (hB3 : Below w.heap.size w w3) (hG : w1.grownBy w3 v.ownBlock) (hA : v'.ownBlock = v.ownBlock ∨ v'.ownBlock = some (w1.heap.size + 1)) :
    HeldLoop w w3 hb w.heap.size m x v' (done ++ [(k, x)]) ∧ w3.rangeLeft hb w.heap.size = w1.rangeLeft hb w.heap.size := by
  have e1 : w3.heap[hb]? = w1.heap[hb]? := hG.block hb hR.map.lt fun e => by have := (hO.lt hb e.symm).1; omega
  have e2 : w3.heap[w.heap.size]? = w1.heap[w.heap.size]? := hG.block _ hR.lt fun e => ha e.symm
  refine ⟨⟨hR.below e1 e2, ?_, hB3, Nat.le_refl _, ?_⟩, rangeLeft_same e1 e2⟩
  · rw [ofW_snoc, if_pos rfl, List.length_append, List.map_append]
    exact hO3
  · rcases hA with e | e
    · rw [e]; exact ha
    · rw [e]; intro e3; injection e3 with e3; have := hR.lt; omega
end
theorem info_intL : (Try.prog.info? 3).map (fun i => (i.zero, i.size, i.bytes)) = some (some (.int .i64 0), 1, 8) := by kernel_rfl
set_option maxHeartbeats 2000000 in
theorem held_any {w : World} {B T hb wb : Nat} {s : Tab} (h : TabAt w B T hb wb s) (ok : s.Ok) (x : Int) :
    Calls Try.prog 19 #[.pointer (some ⟨T, 0, none⟩), .int .i64 x] w fun e w' => ∃ v, e = .returned v ∧ NewInts .i64 w (heldF s.h x) v w' := by
  obtain ⟨c0, c1, c2⟩ := h.cells
  have HM := hide h.h
  have hlt := h.lt.2.1
  have Hlen := hide (keys_len ok h.h.ok.2)
  have HS : Hid (∀ m : List (Int × Int), m.Perm s.h → srtI (ofW m x) = heldF s.h x) := hide (fun m hp => held_srt ok h.h.ok.2 hp x)
  clear h ok
  go_enter Try.func19, Try.ntmps19
  go_wp2_with (at_range; refine wpList_range_m _ rfl _ rfl Try.underlying44 rfl HM.out ?_; intro w0 hr0 hb0 hs0)
  go_frame
  go_loopw [5, 6, 7] (fun v _ _ wr => ∃ done, Hid (HeldLoop w wr hb w.heap.size s.h x v done)) (fun _ _ _ wr => wr.rangeLeft hb w.heap.size)
  case atStart => exact ⟨[], hide ⟨hr0, World.ownsRow_nil _ _ _ _, hb0, Nat.le_refl _, by simp [Value.ownBlock]⟩⟩
  case round =>
    obtain ⟨done, HL⟩ := hrel
    obtain ⟨AV, cV, rfl, o1, o2⟩ := own_form HL.out.own
    have hsub := HL.out.rng.sub
    have hdl := len_le_of_keys hsub.2 hsub.1
    have hol := ofW_len done x
    have Hsz := hide (show (ofW done x).length ≤ 4097 by have := Hlen.out; omega)
    clear hsub hdl hol
    go_wp2_with (at_next; refine wpList_next_m _ rfl _ rfl rfl HL.out.rng ?_ ?_)
    · intro hp
      have HE := hide (HS.out _ hp)
      clear hp
      go_wp2_with (go_at_call 24; refine (sortI_any _ _ _ _ _ HL.out.own (by have := Hsz.out; omega)).mono ?_; rintro e w2 ⟨rfl, ho2, hg2⟩; have HO2 := hide ho2; have HB2 := hide (below_own HL.out.bel HL.out.own HL.out.bel.size hg2); clear ho2 hg2)
      go_ret
      exact ⟨_, rfl, by rw [← HE.out]; exact NewInts.of_own HO2.out HB2.out⟩
    · intro k y w1 hm hx hR hs hl hen
      obtain ⟨ho1, hb1⟩ := HL.out.skip rfl HL.out.apart hR hs
      have HR := hide hR
      have HO1 := hide ho1
      have HB1 := hide hb1
      have HLt := hide hl
      have HAp := hide HL.out.apart
      have Hin := hide hlt
      have hRr := hide hR.lt
      clear hm hx hR hs hl ho1 hb1
      by_cases e : y = x
      · subst e
        have e1 : (y == y) = true := by simp
        go_wp2_with (at_builtin; refine wpList_append_elem rfl _ _ 38 rfl w.heap.size Try.underlying38 info_intL rfl (by decide) (.slice AV (ofW done y).length cV) (ofW done y).length _ rfl HO1.out _ _ rfl rfl (by simp [Value.oneCell']) (by have := Hsz.out; simp only [maxLen]; omega) (by have := Hsz.out; omega) HB1.out.size ?_; intro v' w3 hown3 hgr3 hat3; have HB3 := hide (below_own HB1.out HO1.out HB1.out.size hgr3); have HO3 := hide hown3; have HA3 := hide hat3; have HG3 := hide hgr3; clear hown3 hgr3 hat3)
        go_roundw
        case rel => exact ⟨_, hide (HeldLoop.grow HR.out HO1.out HAp.out Hin.out HO3.out HB3.out HG3.out HA3.out).1⟩
        case measure => rw [(HeldLoop.grow HR.out HO1.out HAp.out Hin.out HO3.out HB3.out HG3.out HA3.out).2]; exact HLt.out
      · have e1 : (y == x) = false := by simpa using e
        have HE := hide e
        clear e
        go_wp2
        go_roundw
        case rel => exact ⟨_, hide ⟨HR.out, by rw [ofW_snoc, if_neg HE.out]; exact HO1.out, HB1.out, Nat.le_refl _, HAp.out⟩⟩
        case measure => exact HLt.out
end Go.Proofs.Ytknljldmjicfgaa
