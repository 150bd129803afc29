/-
  Items as cells; tag.Has. Condition: the slice reads as a list of items.
-/
import Derived.Test.YtgiplahhalgbdaaGreatExaP
import Derived.Test.YtgiplahhalgbdaaGreatMgA
namespace Go.Proofs.YtgiplahhalgbdaaGreat
open Go.RowKit

def SItem : Sh ItemP := Sh.pair (Sh.int .u64) (Sh.pair (Sh.list (Sh.int .i32)) (Sh.int .u64))
theorem RdR.itcell {w : World} {R : Nat → Prop} {A : Option Addr} {l : List ItemP} (h : RdR SItem w R A l) {k : Nat} (hk : k < l.length) : ∃ ad x V c, A = some ad ∧ R ad.block ∧ l[k]? = some x ∧
    w.cell? (ad.add (k * 3)) = some (.int .u64 x.1) ∧ w.cell? ⟨(ad.add (k * 3)).block, (ad.add (k * 3)).off + 1, none⟩ = some (.slice V x.2.1.length c) ∧ w.cell? ⟨(ad.add (k * 3)).block, (ad.add (k * 3)).off + 2, none⟩ = some (.int .u64 x.2.2) ∧
    x.2.1.length ≤ c ∧ c ≤ 9223372036854775807 ∧ RdR (Sh.int .i32) w R V x.2.1 := by
  obtain ⟨ad, x, cs, e, hb, hx, hr, hc⟩ := h.at_ hk
  obtain ⟨b, d, rfl, hr1, b2, d2, rfl, ⟨V, c, hr3, h4, h5, h6⟩, hr4⟩ := hr
  have h1 : b = [.int .u64 x.1] := hr1
  have h3 : d2 = [.int .u64 x.2.2] := hr4
  subst h1 hr3 h3
  have c0 := hc 0 _ rfl
  have c1 := hc 1 _ rfl
  have c2 := hc 2 _ rfl
  rw [show SItem.size = 3 from rfl, ← add_of_add] at c1 c2
  refine ⟨ad, x, V, c, e, hb, hx, ?_, c1, c2, h4, h5, h6⟩
  simpa [SItem, Sh.pair, Sh.int, Sh.list] using c0
/-- all vectors are of int32s -/
def ItsI (l : List ItemP) : Prop := ∀ it ∈ l, I32 it.2.1
theorem has_any (t m : Int) (w : World) : Calls Tryz.prog 38 #[.int .u64 t, .int .u64 m] w fun e w' => e = .returned (.bool (hasB m t)) ∧ w = w' := by
  have he := hide (show (bits .andNot .u64 m t == 0) = hasB m t from rfl)
  go_enter Tryz.func38, Tryz.ntmps38
  go_wp2
  go_ret
  exact ⟨by rw [← he.out]; rfl, rfl⟩
end Go.Proofs.YtgiplahhalgbdaaGreat
