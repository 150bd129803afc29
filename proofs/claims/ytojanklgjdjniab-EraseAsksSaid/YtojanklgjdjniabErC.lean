/-
  The opening of a delete, both. No condition.
-/
import Derived.Test.YtojanklgjdjniabErB
namespace Go.Proofs.Ytojanklgjdjniab
open Go.RowKit

/-- the cells of an answer -/
def gotC (ok : Bool) (gn gm : Int) (LA : Option Addr) (ln lc : Nat) (gi : Int) (VA : Option Addr) (vn vc : Nat) (gt : Int) : Array Value := #[.bool ok, .int .i64 gn, .int .i64 gm, .slice LA ln lc, .int .u64 gi, .slice VA vn vc, .int .u64 gt]
set_option maxHeartbeats 1000000 in
theorem eValid (id : Int) (A : Option Addr) (n c : Nat) (tg kk ef dr : Int) (dim : Int) (w : World) : Calls Try.prog 22 #[.agg (callC 2 id A n c tg kk ef dr), .int .i64 dim] w fun e w' => e = .returned (.int .i64 0) ∧ Below w.heap.size w w' := by
  have HB := hide (below1 w (.cells #[.int .i64 2, .int .u64 id, .slice A n c, .int .u64 tg, .int .i64 kk, .int .i64 ef, .int .u64 dr] 27))
  unfold callC
  go_enter Try.func22, Try.ntmps22
  go_wp2
  go_ret
  exact ⟨rfl, HB.out⟩
set_option maxHeartbeats 1000000 in
theorem refValid (id : Int) (A : Option Addr) (n c : Nat) (tg kk ef dr : Int) (dim : Int) (w : World) : Calls Try.prog 21 #[.agg (callC 2 id A n c tg kk ef dr), .int .i64 dim] w fun e w' => e = .returned (.int .i64 0) ∧ Below w.heap.size w w' := by
  have HB := hide (below1 w (.cells #[.int .i64 2, .int .u64 id, .slice A n c, .int .u64 tg, .int .i64 kk, .int .i64 ef, .int .u64 dr] 27))
  unfold callC
  go_enter Try.func21, Try.ntmps21
  go_wp2
  go_ret
  exact ⟨rfl, HB.out⟩
set_option maxHeartbeats 2000000 in
theorem eOpening (id : Int) (A : Option Addr) (n c : Nat) (tg kk ef dr : Int) (dim : Int) (ok : Bool) (gn gm : Int) (LA : Option Addr) (ln lc : Nat) (gi : Int) (VA : Option Addr) (vn vc : Nat) (gt : Int) (w : World) : Calls Try.prog 16 #[.agg (callC 2 id A n c tg kk ef dr), .int .i64 dim, .agg (gotC ok gn gm LA ln lc gi VA vn vc gt)] w fun e w' => e = .returned (.int .i64 (if ok then 5 else 0)) ∧ Below w.heap.size w w' := by
  have HB := hide (below2 w (.cells #[.int .i64 2, .int .u64 id, .slice A n c, .int .u64 tg, .int .i64 kk, .int .i64 ef, .int .u64 dr] 27) (.cells #[.bool ok, .int .i64 gn, .int .i64 gm, .slice LA ln lc, .int .u64 gi, .slice VA vn vc, .int .u64 gt] 42))
  unfold callC gotC
  cases ok
  · have F := fun W => eValid id A n c tg kk ef dr dim W
    unfold callC at F
    go_enter Try.func16, Try.ntmps16
    go_wp2_with (go_at_call 22; refine (F _).mono ?_; rintro e w5 ⟨rfl, hb⟩; have HB5 := hide (HB.out.trans (hb.mono HB.out.size)); clear hb)
    go_ret
    exact ⟨rfl, HB5.out⟩
  · have F := fun W => eValid id A n c tg kk ef dr dim W
    unfold callC at F
    go_enter Try.func16, Try.ntmps16
    go_wp2_with (go_at_call 22; refine (F _).mono ?_; rintro e w5 ⟨rfl, hb⟩; have HB5 := hide (HB.out.trans (hb.mono HB.out.size)); clear hb)
    go_ret
    exact ⟨rfl, HB.out⟩
set_option maxHeartbeats 2000000 in
theorem refOpening (id : Int) (A : Option Addr) (n c : Nat) (tg kk ef dr : Int) (dim : Int) (ok : Bool) (gn gm : Int) (LA : Option Addr) (ln lc : Nat) (gi : Int) (VA : Option Addr) (vn vc : Nat) (gt : Int) (w : World) : Calls Try.prog 15 #[.agg (callC 2 id A n c tg kk ef dr), .int .i64 dim, .agg (gotC ok gn gm LA ln lc gi VA vn vc gt)] w fun e w' => e = .returned (.int .i64 (if ok then 5 else 0)) ∧ Below w.heap.size w w' := by
  have HB := hide (below2 w (.cells #[.int .i64 2, .int .u64 id, .slice A n c, .int .u64 tg, .int .i64 kk, .int .i64 ef, .int .u64 dr] 27) (.cells #[.bool ok, .int .i64 gn, .int .i64 gm, .slice LA ln lc, .int .u64 gi, .slice VA vn vc, .int .u64 gt] 42))
  unfold callC gotC
  cases ok
  · have F := fun W => refValid id A n c tg kk ef dr dim W
    unfold callC at F
    go_enter Try.func15, Try.ntmps15
    go_wp2_with (go_at_call 21; refine (F _).mono ?_; rintro e w5 ⟨rfl, hb⟩; have HB5 := hide (HB.out.trans (hb.mono HB.out.size)); clear hb)
    go_ret
    exact ⟨rfl, HB5.out⟩
  · have F := fun W => refValid id A n c tg kk ef dr dim W
    unfold callC at F
    go_enter Try.func15, Try.ntmps15
    go_wp2_with (go_at_call 21; refine (F _).mono ?_; rintro e w5 ⟨rfl, hb⟩; have HB5 := hide (HB.out.trans (hb.mono HB.out.size)); clear hb)
    go_ret
    exact ⟨rfl, HB.out⟩

end Go.Proofs.Ytojanklgjdjniab
