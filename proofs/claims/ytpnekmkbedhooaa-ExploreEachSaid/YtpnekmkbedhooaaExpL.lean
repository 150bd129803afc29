/-
  The package explore: Count. Condition: the slice reads as a list of ints.
-/
import Derived.Test.YtpnekmkbedhooaaExpK
namespace Go.Proofs.Ytpnekmkbedhooaa
open Go.RowKit

theorem of_ok {A : Option Addr} {n c : Nat} {xs : List Int} {w : World} (h : okT xs) (k : Calls Try.prog 15 #[.slice A n c] w (OfGives w xs)) :
    Calls Try.prog 15 #[.slice A n c] w fun e w' => e = .returned (.tuple #[.agg (ics .i64 (leftF (tn xs)) 17), .bool true]) ∧ Below w.heap.size w w' :=
  k.mono fun _ _ ⟨g, hb⟩ => by
    rcases g with ⟨_, e⟩ | ⟨hno, _⟩
    · exact ⟨e, hb⟩
    · exact (hno h).elim
theorem of_no {A : Option Addr} {n c : Nat} {xs : List Int} {w : World} (h : ¬ okT xs) (k : Calls Try.prog 15 #[.slice A n c] w (OfGives w xs)) :
    Calls Try.prog 15 #[.slice A n c] w fun e w' => (∃ f, e = .returned (.tuple #[.agg (ics .i64 f 17), .bool false])) ∧ Below w.heap.size w w' :=
  k.mono fun _ _ ⟨g, hb⟩ => by
    rcases g with ⟨hok, _⟩ | ⟨_, e⟩
    · exact (h hok).elim
    · exact ⟨e, hb⟩
/-- a variable of 17 cells, just made and stored -/
theorem Lf.fresh (w : World) (f : Nat → Int) : Lf ((w.alloc (.cells (ics .i64 (fun _ => 0) 17) 45)).setRow w.heap.size (ics .i64 f 17)) w.heap.size f := Blk.setRow (Blk.new _ _ _) _
theorem fresh_below {B : Nat} {a w : World} (h : Below B a w) (hB : B ≤ w.heap.size) (f : Nat → Int) : Below B a ((w.alloc (.cells (ics .i64 (fun _ => 0) 17) 45)).setRow w.heap.size (ics .i64 f 17)) := below_setRow (h.trans ((below1 _ _).mono hB)) hB _

set_option maxHeartbeats 2000000 in
theorem eCount_any (A : Option Addr) (n c : Nat) (xs : List Int) (w : World) (hx : I64s w w.heap.size A xs) (hn : xs.length = n) (hc : n ≤ c) (hm : c ≤ 9223372036854775807) :
    Calls Try.prog 6 #[.slice A n c] w fun e w' => e = .returned (.int .u64 (cntOf xs : Nat)) ∧ Below w.heap.size w w' := by
  have hz := z17
  have C1 := hide (eof_any A n c xs w hx hn hc hm)
  clear hx
  by_cases hok : okT xs
  · have D1 := hide (of_ok hok C1.out)
    have HE := hide (cntOf_ok hok)
    have Hok := hide hok
    clear C1 hok
    rw [HE.out]
    go_enter Try.func6, Try.ntmps6
    go_upto_region 4 with (first
      | (go_at_call 15; refine D1.out.mono ?_; rintro e w1 ⟨rfl, hb⟩; have HB1 := hide hb; clear hb)
      | (refine wpList_store_row rfl 45 (.tmp 3) (.tmp 8) rfl w1.heap.size rfl 45 _ _ rfl (Blk.new w1 45 _) (i17 _) (by simp [ics]) (ics_one _ _ _) ?_))
    have HL := hide (Lf.fresh w1 (leftF (tn xs))).drew
    have HB := hide (fresh_below HB1.out HB1.out.size (leftF (tn xs))).drew
    have HLb := hide HB1.out.size
    refine wp_region_any (by kernel_rfl) ?_
    change wpAny _ _ _ _ _ _ _ (World.drew _)
    generalize ((w1.alloc (.cells (ics .i64 (fun _ => 0) 17) 45)).setRow w1.heap.size (ics .i64 (leftF (tn xs)) 17)).drew = w2 at *
    generalize w1.heap.size = lb at *
    refine wpAny_ready (rs := [0, 1]) (by kernel_rfl) (by simp) ?_
    refine AllReady.cons rfl (fun K hK => ?_) (AllReady.cons rfl (fun K hK => ?_) AllReady.nil)
    · refine step_load_row rfl 45 (.tmp 3) rfl lb rfl 45 _ _ HL.out Try.underlying45 rfl (i17 _) ?_
      refine hK _ _ ?_
      clear hK K
      go_simp
      refine wpAny_ready (rs := [1]) (by kernel_rfl) (by simp) ?_
      refine AllReady.cons rfl (fun K hK => ?_) AllReady.nil
      go_simp
      go_at_call 17
      refine (triangle_any w2).mono ?_
      rintro e w3 ⟨rfl, ht, hb⟩
      have HT := hide ht
      have HB3 := hide (Below.step HB.out hb)
      have HL3 := hide (HL.out.below hb HL.out.lt)
      clear ht hb
      generalize w2.heap.size = tg at *
      refine hK _ _ ?_
      clear hK K
      refine wpAny_ready (rs := [2]) (by kernel_rfl) (by simp) ?_
      refine AllReady.cons rfl (fun K hK => ?_) AllReady.nil
      go_simp
      go_at_call 16
      refine (count_any tg (tn xs) w3 HT.out (by rw [tn_len]; exact Hok.out.1) Hok.out.2.2).mono ?_
      rintro e w4 ⟨rfl, hb⟩
      have HB4 := hide (Below.step HB3.out hb)
      clear hb
      refine hK _ _ ?_
      clear hK K
      refine wpAny_ready (rs := [3]) (by kernel_rfl) (by simp) ?_
      refine AllReady.cons rfl (fun K hK => ?_) AllReady.nil
      go_simp
      refine hK _ _ ?_
      clear hK K
      refine wpAny_done (by kernel_rfl) ?_ _
      go_wp2
      go_ret
      exact ⟨rfl, HB4.out⟩
    · go_simp
      go_at_call 17
      refine (triangle_any w2).mono ?_
      rintro e w3 ⟨rfl, ht, hb⟩
      have HT := hide ht
      have HB3 := hide (Below.step HB.out hb)
      have HL3 := hide (HL.out.below hb HL.out.lt)
      clear ht hb
      generalize w2.heap.size = tg at *
      refine hK _ _ ?_
      clear hK K
      refine wpAny_ready (rs := [0]) (by kernel_rfl) (by simp) ?_
      refine AllReady.cons rfl (fun K hK => ?_) AllReady.nil
      refine step_load_row rfl 45 (.tmp 3) rfl lb rfl 45 _ _ HL3.out Try.underlying45 rfl (i17 _) ?_
      refine hK _ _ ?_
      clear hK K
      go_simp
      refine wpAny_ready (rs := [2]) (by kernel_rfl) (by simp) ?_
      refine AllReady.cons rfl (fun K hK => ?_) AllReady.nil
      go_simp
      go_at_call 16
      refine (count_any tg (tn xs) w3 HT.out (by rw [tn_len]; exact Hok.out.1) Hok.out.2.2).mono ?_
      rintro e w4 ⟨rfl, hb⟩
      have HB4 := hide (Below.step HB3.out hb)
      clear hb
      refine hK _ _ ?_
      clear hK K
      refine wpAny_ready (rs := [3]) (by kernel_rfl) (by simp) ?_
      refine AllReady.cons rfl (fun K hK => ?_) AllReady.nil
      go_simp
      refine hK _ _ ?_
      clear hK K
      refine wpAny_done (by kernel_rfl) ?_ _
      go_wp2
      go_ret
      exact ⟨rfl, HB4.out⟩
  · have D1 := hide (of_no hok C1.out)
    have HE := hide (cntOf_no hok)
    clear C1 hok
    rw [HE.out]
    go_enter Try.func6, Try.ntmps6
    go_wp2_with (first
      | (go_at_call 15; refine D1.out.mono ?_; rintro e w1 ⟨⟨f, rfl⟩, hb⟩; have HB1 := hide hb; clear hb)
      | (refine wpList_store_row rfl 45 (.tmp 3) (.tmp 8) rfl w1.heap.size rfl 45 _ _ rfl (Blk.new w1 45 _) (i17 _) (by simp [ics]) (ics_one _ _ _) ?_))
    go_ret
    exact ⟨rfl, fresh_below HB1.out HB1.out.size f⟩
end Go.Proofs.Ytpnekmkbedhooaa
