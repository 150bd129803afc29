/-
  The items of slots, put together in a row; what was found, while it is looked at. No condition.
-/
import Derived.Test.YtgiplahhalgbdaaGreatMgF
import Derived.Test.YtgiplahhalgbdaaGreatBmQ
import Derived.Test.YtgiplahhalgbdaaGreatMgL
import Derived.Test.YtgiplahhalgbdaaGreatRowX
namespace Go.Proofs.YtgiplahhalgbdaaGreat
set_option linter.unusedSimpArgs false
set_option linter.unusedVariables false
open Go.RowKit

/-- the items of the slots -/
def itsF (ns : List NodeP) (l : List Int) : List ItemP := l.map (itemF ns)
theorem its_snoc {ns : List NodeP} {l : List Int} {k : Nat} {x : Int} (h : l[k]? = some x) : itsF ns (l.take (k + 1)) = itsF ns (l.take k) ++ [itemF ns x] := by
  unfold itsF
  rw [takeI_snoc h, List.map_append]; rfl
theorem itemF_at {ns : List NodeP} {k : Nat} {x : NodeP} (h : ns[k]? = some x) : itemF ns (k : Int) = x.1 := by
  have := (List.getElem?_eq_some_iff.1 h).1
  unfold itemF
  rw [if_pos (by omega), show ((k : Int)).toNat = k by omega, h]; rfl
theorem item_of {w : World} {R : Nat → Prop} {x : ItemP} {V : Option Addr} {c : Nat} (h1 : x.2.1.length ≤ c) (h2 : c ≤ 9223372036854775807) (h3 : RdR (Sh.int .i32) w R V x.2.1) : SItem.rd w R x [.int .u64 x.1, .slice V x.2.1.length c, .int .u64 x.2.2] :=
  ⟨[.int .u64 x.1], [.slice V x.2.1.length c, .int .u64 x.2.2], rfl, rfl, [.slice V x.2.1.length c], [.int .u64 x.2.2], rfl, ⟨V, c, rfl, h1, h2, h3⟩, rfl⟩
/-- the plane's variable, the items so far in a row of the call's own -/
structure ItB (w w4 : World) (b6 : Nat) (cs : Array Value) (A : Option Addr) (k c : Nat) (its : List ItemP) (W : World) : Prop where
  p : PlB w b6 cs W
  own : ∃ xs, W.ownsRow w4.heap.size 50 3 (.slice A k c) k xs ∧ RowX SItem W (fun d => d < w.heap.size) its xs
  b4 : Below w4.heap.size w4 W
  h4 : w.heap.size ≤ w4.heap.size
theorem ItB.step {w w4 W W' : World} {b6 : Nat} {cs : Array Value} {A : Option Addr} {k c : Nat} {its : List ItemP} (h : ItB w w4 b6 cs A k c its W) (hb : Below W.heap.size W W') : ItB w w4 b6 cs A k c its W' := by
  obtain ⟨xs, h1, h2⟩ := h.own
  exact ⟨h.p.step hb, ⟨xs, own_keep h1 fun g hg => hb.block g (h1.lt g hg).2, h2.keepBlocks fun d hd => hb.block d (Nat.lt_of_lt_of_le hd h.p.bel.size)⟩, Below.step h.b4 hb, h.h4⟩
theorem ItB.rd {w w4 W : World} {b6 : Nat} {cs : Array Value} {A : Option Addr} {k c : Nat} {its : List ItemP} (h : ItB w w4 b6 cs A k c its W) : Rd SItem W W.heap.size A its := by
  obtain ⟨xs, h1, h2⟩ := h.own
  exact RowX.rd (by decide) h2 h1 (fun d hd => Nat.lt_of_lt_of_le hd h.p.bel.size) fun g hg => (h1.lt g hg).2
theorem info_itemE : (Tryz.prog.info? 50).map (fun i => (i.zero, i.size, i.bytes)) = some (some (.agg #[.int .u64 0, .slice none 0 0, .int .u64 0]), 3, 40) := by kernel_rfl
/-- an item more -/
theorem ItB.app {w w4 W W' : World} {b6 : Nat} {cs : Array Value} {A A' : Option Addr} {k c c' : Nat} {its its' : List ItemP} {xs : List Value} {x : ItemP} {c3 : List Value} (h : ItB w w4 b6 cs A k c its W) (ho : W.ownsRow w4.heap.size 50 3 (.slice A k c) k xs) (hr : RowX SItem W (fun d => d < w.heap.size) its xs) (hg : W.grownBy W' (Value.slice A k c).ownBlock)
    (ho' : W'.ownsRow w4.heap.size 50 3 (.slice A' (k + 1) c') (k + 1) (xs ++ c3)) (hx : SItem.rd w (fun d => d < w.heap.size) x c3) (he : its' = its ++ [x]) : ItB w w4 b6 cs A' (k + 1) c' its' W' := by
  have hbl : Below w.heap.size w W' := below_own h.p.bel (own_lowW ho h.h4) h.p.bel.size hg
  refine ⟨⟨hbl, h.p.pl.grown hg (fun e => own_blk_ne ho h.p.pl (by decide) e.symm)⟩, ⟨_, ho', ?_⟩, below_own h.b4 ho h.b4.size hg, h.h4⟩
  subst he
  refine RowX.snoc (hr.keepBlocks fun d hd => ?_) (SItem.keep hx fun p hp => hbl.cell hp)
  exact hg.block d (Nat.lt_of_lt_of_le hd h.p.bel.size) fun e => by have := (ho.lt d e.symm).1; have := h.h4; omega
/-- while what was found is looked at -/
structure FoB (w w4 : World) (b6 : Nat) (cs : Array Value) (A : Option Addr) (k c : Nat) (its : List ItemP) (Af : Option Addr) (fs : List Spt) (W : World) : Prop where
  i : ItB w w4 b6 cs A k c its W
  f : Rd SP W W.heap.size Af fs
theorem FoB.step {w w4 W W' : World} {b6 : Nat} {cs : Array Value} {A Af : Option Addr} {k c : Nat} {its : List ItemP} {fs : List Spt} (h : FoB w w4 b6 cs A k c its Af fs W) (hb : Below W.heap.size W W') : FoB w w4 b6 cs A k c its Af fs W' := ⟨h.i.step hb, h.f.at_world hb⟩
theorem FoB.cells {w w4 W : World} {b6 : Nat} {N : Option Addr} {nn cN : Nat} {en top : Int} {A Af : Option Addr} {k c : Nat} {its : List ItemP} {fs : List Spt} (h : FoB w w4 b6 #[.slice N nn cN, .int .i64 en, .int .i64 top] A k c its Af fs W) : W.cell? ⟨b6, 0, none⟩ = some (.slice N nn cN) ∧ W.cell? ⟨b6, 1, none⟩ = some (.int .i64 en) ∧ W.cell? ⟨b6, 2, none⟩ = some (.int .i64 top) := h.i.p.cells
/-- .. and one spot of it, its variable -/
structure SpB (w w4 : World) (b6 : Nat) (cs : Array Value) (A : Option Addr) (k c : Nat) (its : List ItemP) (Af : Option Addr) (fs : List Spt) (bs : Nat) (s : Spt) (W : World) : Prop where
  f : FoB w w4 b6 cs A k c its Af fs W
  s : Blk W bs 60 #[.int .u64 s.1.1, .int .u64 s.1.2, .int .i64 s.2]
theorem SpB.step {w w4 W W' : World} {b6 bs : Nat} {cs : Array Value} {A Af : Option Addr} {k c : Nat} {its : List ItemP} {fs : List Spt} {s : Spt} (h : SpB w w4 b6 cs A k c its Af fs bs s W) (hb : Below W.heap.size W W') : SpB w w4 b6 cs A k c its Af fs bs s W' := ⟨h.f.step hb, h.s.below hb h.s.lt⟩
theorem find_le {ns : List NodeP} {q : List Int} {mask : Int} {K : Nat} {l : List Int} {t : PrS} {c : Nat} (h : LookR ns q mask K 0 (offL ns q mask K noS l) t c) : ∃ dn, BmI ns q mask K t dn ∧ dn.length = c := by
  obtain ⟨dn, h1⟩ := h.ends (dn := []) (BmI.nil.offs l)
  exact ⟨dn, h1.i, by have := h1.c; simpa using this⟩
theorem start_near {ns : List NodeP} {q : List Int} {en top : Int} {l : List Int} (h : StartR ns q en top l) : ∀ x ∈ nearF ns 0 0, x ∈ l := by
  obtain ⟨d, h⟩ := h
  intro x hx
  split at h
  · rw [h.2]; exact List.mem_cons_of_mem _ hx
  · rw [h]; exact hx
theorem RdR.sAt {w : World} {R : Nat → Prop} {ad : Addr} {l : List Spt} (h : RdR SP w R (some ad) l) {k : Nat} {s : Spt} (hx : l[k]? = some s) : w.cell? (ad.add (k * 3)) = some (.int .u64 s.1.1) ∧ w.cell? ⟨(ad.add (k * 3)).block, (ad.add (k * 3)).off + 1, none⟩ = some (.int .u64 s.1.2) ∧ w.cell? ⟨(ad.add (k * 3)).block, (ad.add (k * 3)).off + 2, none⟩ = some (.int .i64 s.2) := by
  obtain ⟨ad2, s2, e, _, h2, h3, h4, h5⟩ := h.scell (k := k) (List.getElem?_eq_some_iff.1 hx).1
  injection e with e
  subst e
  rw [hx] at h2
  injection h2 with h2
  subst h2
  exact ⟨h3, h4, h5⟩
theorem most_ge {a b : Int} {n : Nat} (h : n ≤ 4096) : n ≤ mostB (max a (max b n)) := by unfold mostB; omega
theorem take_lstU (h : List Hit) (k : Int) : h.take (lstN k h.length) = h.take k.toNat := by
  unfold lstN
  rcases Nat.le_total k.toNat h.length with e | e
  · rw [Nat.min_eq_left e]
  · rw [Nat.min_eq_right e, List.take_of_length_le (Nat.le_refl _), List.take_of_length_le e]
theorem rSpotB (a b : Spt) {r : Bool} (h : sptLt a b = r) (w : World) : Calls Tryz.prog 91 #[.agg #[.int .u64 a.1.1, .int .u64 a.1.2, .int .i64 a.2], .agg #[.int .u64 b.1.1, .int .u64 b.1.2, .int .i64 b.2]] w fun e w' => e = .returned (.bool r) ∧ Below w.heap.size w w' := h ▸ spot_any a b w
end Go.Proofs.YtgiplahhalgbdaaGreat
