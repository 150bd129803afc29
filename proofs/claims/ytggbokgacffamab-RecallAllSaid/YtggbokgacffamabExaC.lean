/-
  The package exact: Search, Within, Place, and the reference's. Conditions: the slices read as a list of items, and as a vector; at most some hundred thousand items.
-/
import Derived.Test.YtggbokgacffamabExaB
import Derived.Test.YtggbokgacffamabRnkG
namespace Go.Proofs.Ytggbokgacffamab
open Go.RowKit

theorem near_step {most : Int} {h : List Hit} {i : Nat} {x : Hit} (hx : h[i]? = some x) (e : x.1 ≤ most) (hi : nearM most h = h.take i ++ nearM most (h.drop i)) : nearM most h = h.take (i + 1) ++ nearM most (h.drop (i + 1)) := by
  obtain ⟨h1, h2⟩ := List.getElem?_eq_some_iff.1 hx
  rw [hi, take_snoc hx, List.drop_eq_getElem_cons h1, h2]
  unfold nearM
  rw [List.takeWhile_cons_of_pos (by simpa using e), List.append_assoc]; rfl
theorem near_stop {most : Int} {h : List Hit} {i : Nat} {x : Hit} (hx : h[i]? = some x) (e : ¬ x.1 ≤ most) (hi : nearM most h = h.take i ++ nearM most (h.drop i)) : nearM most h = h.take i := by
  obtain ⟨h1, h2⟩ := List.getElem?_eq_some_iff.1 hx
  rw [hi, List.drop_eq_getElem_cons h1, h2]
  unfold nearM
  rw [List.takeWhile_cons_of_neg (by simpa using e), List.append_nil]
theorem near_end {most : Int} {h : List Hit} (hi : nearM most h = h.take h.length ++ nearM most (h.drop h.length)) : nearM most h = h := by
  rw [hi]; simp [nearM]
theorem filt_snoc {h : List Hit} {p : Hit → Bool} {i : Nat} {x : Hit} (hx : h[i]? = some x) : (h.take (i + 1)).filter p = (h.take i).filter p ++ if p x = true then [x] else [] := by
  rw [take_snoc hx, List.filter_append]
  by_cases e : p x = true
  · rw [if_pos e, List.filter_cons_of_pos e]; rfl
  · rw [if_neg e, List.filter_cons_of_neg e]; rfl
theorem place_snoc {h : List Hit} {g : Hit} {i : Nat} {x : Hit} (hx : h[i]? = some x) : placeM g (h.take (i + 1)) = placeM g (h.take i) + if hitLt x g = true then 1 else 0 := by
  unfold placeM
  rw [take_snoc hx, List.countP_append, List.countP_singleton]
set_option maxHeartbeats 2000000 in
theorem search_any (A B : Option Addr) (n c m d : Nat) (l : List ItemP) (q : List Int) (mask : Int) (k : Int) (w : World) (hx : Rd SItem w w.heap.size A l) (hn : l.length = n) (hxi : ItsI l) (hc : n ≤ c) (hm : c ≤ 9223372036854775807)
    (hy : Rd (Sh.int .i32) w w.heap.size B q) (hn' : q.length = m) (hyi : I32 q) (hd : m ≤ d) (hm' : d ≤ 9223372036854775807) (h6 : n ≤ 400000) :
    Calls Try.prog 5 #[.slice A n c, .slice B m d, .int .u64 mask, .int .i64 k] w fun e w' => ∃ v, e = .returned v ∧ NewL SH w ((hitsM q mask l).take (lstN k (hitsM q mask l).length)) v w' := by
  have H1 := hide (hits_any A B n c m d l q mask w hx hn hxi hc hm hy hn' hyi hd hm' h6)
  clear hx hy hn hn' hxi hyi
  go_enter Try.func5, Try.ntmps5
  go_wp2_with fail
  refine H1.out.mono ?_
  rintro e w1 ⟨v, rfl, hN⟩
  generalize hh : hitsM q mask l = h at *
  have HH := hide hh
  clear hh
  obtain ⟨A', n', c', rfl, q1, q2, q3, q4, q5⟩ := hN
  have Hl := hide q1
  have HN : ∀ m, m = lstN k n' → Hid (NewL SH w (h.take (lstN k n')) (.slice A' m c') w1) := fun m e => hide (by
    have := lstN_le k n'
    exact ⟨A', m, c', rfl, by rw [List.length_take, q1, e]; omega, by omega, q3, q4.take _, q5⟩)
  have HN' := hide HN
  clear q1 q4 q5 HN H1
  go_wp2
  all_goals go_ret
  all_goals rw [HH.out, Hl.out]
  all_goals exact ⟨_, rfl, (HN'.out _ (by unfold lstN; omega)).out⟩
end Go.Proofs.Ytggbokgacffamab
