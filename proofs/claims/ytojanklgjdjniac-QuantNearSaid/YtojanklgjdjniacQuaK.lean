/-
  The law's own probes of quantizers: lives returns true. No condition.
-/
import Derived.Test.YtojanklgjdjniacQuaI
namespace Go.Proofs.Ytojanklgjdjniac
open Go.RowKit

def bL : Book := [[[0], [10]], [[1, 1]]]
theorem fitL : fitE bL [7, 0, 0] = 0 := by decide +kernel
theorem fitL1 : fitE bL [7] = 1 := by decide +kernel
theorem encLL : encOf bL [7, 0, 0] = [1, 0] := by decide +kernel
theorem tabL : tableOf bL [7, 0, 0] = [[49, 9], [2]] := by decide +kernel
theorem chkL : chkB bL = true := by decide +kernel
theorem okL : okC bL [1, 0] := by
  refine ⟨rfl, fun i p n hp hn => ?_⟩
  rcases i with _ | _ | i
  · simp [bL] at hp hn; subst hp hn; exact ⟨by decide, by decide⟩
  · simp [bL] at hp hn; subst hp hn; exact ⟨by decide, by decide⟩
  · simp at hn
theorem noL : ¬ okC bL [2, 0] := fun h => by
  have := (h.2 0 [[0], [10]] 2 rfl rfl).2
  simp at this
theorem decL : decE bL [1, 0] = 0 := decE_yes chkL okL
theorem decL6 : decE bL [2, 0] = 6 := decE_no chkL noL
theorem decOL : decOf bL [1, 0] = [10, 1, 1] := by
  unfold decOf; rw [if_pos decL]; decide +kernel
theorem far_yes {A C : Option Addr} {n c m d : Nat} {t : List (List Int)} {code : List Int} {w : World} (hx : Rd (Sh.list (Sh.int .u64)) w w.heap.size A t) (hn : t.length = n) (hc : n ≤ c) (hm : c ≤ 9223372036854775807) (hu : U64L t)
    (hy : Rd (Sh.int .i64) w w.heap.size C code) (hn' : code.length = m) (hd : m ≤ d) (hm' : d ≤ 9223372036854775807) (h : okT t code) {v : Int} (hv : held (farK t code m) = v) :
    Calls Try.prog 11 #[.slice A n c, .slice C m d] w fun e w' => e = .returned (.tuple #[.int .u64 v, .int .i64 0]) ∧ w = w' :=
  (far_any A C n c m d t code w hx hn hc hm hu hy hn' hd hm').mono fun e w' g => by
    rcases g.1 with ⟨_, he⟩ | ⟨hno, _⟩
    · exact ⟨by rw [he, hv], g.2⟩
    · exact absurd h hno
theorem far_no {A C : Option Addr} {n c m d : Nat} {t : List (List Int)} {code : List Int} {w : World} (hx : Rd (Sh.list (Sh.int .u64)) w w.heap.size A t) (hn : t.length = n) (hc : n ≤ c) (hm : c ≤ 9223372036854775807) (hu : U64L t)
    (hy : Rd (Sh.int .i64) w w.heap.size C code) (hn' : code.length = m) (hd : m ≤ d) (hm' : d ≤ 9223372036854775807) (h : ¬ okT t code) :
    Calls Try.prog 11 #[.slice A n c, .slice C m d] w fun e w' => e = .returned (.tuple #[.int .u64 0, .int .i64 6]) ∧ w = w' :=
  (far_any A C n c m d t code w hx hn hc hm hu hy hn' hd hm').mono fun e w' g => by
    rcases g.1 with ⟨hok, _⟩ | ⟨_, he⟩
    · exact absurd hok h
    · exact ⟨he, g.2⟩
theorem u64l {t : List (List Int)} (h : t.all (fun r => r.all fun x => decide (0 ≤ x ∧ x < 18446744073709551616)) = true) : U64L t := fun r hr x hx => by
  have := List.all_eq_true.1 (List.all_eq_true.1 h r hr) x hx
  exact of_decide_eq_true this
theorem okT2 {a b : Int} {r s : List Int} (h0 : inR a r.length) (h1 : inR b s.length) : okT [r, s] [a, b] := by
  refine ⟨rfl, fun i p n hp hn => ?_⟩
  rcases i with _ | _ | i
  · simp at hp hn; subst hp hn; exact h0
  · simp at hp hn; subst hp hn; exact h1
  · simp at hn
theorem noT1 : ¬ okT [[49, 9], [2]] [0] := fun h => by have := h.1; simp at this

set_option maxHeartbeats 4000000 in
set_option maxRecDepth 100000 in
theorem lives_any (w : World) : Calls Try.prog 4 #[] w fun e w' => e = .returned (.bool true) ∧ Below w.heap.size w w' := by
  have HK := hide (Below.refl w.heap.size w)
  go_enter Try.func4, Try.ntmps4
  go_wp2_with fail
  have RB : Rd SPart (((((((w.alloc (.cells #[.int .i32 0] 21)).alloc (.cells #[.int .i32 10] 21)).alloc (.cells #[.slice (some ⟨w.heap.size, 0, none⟩) 1 1, .slice (some ⟨w.heap.size + 1, 0, none⟩) 1 1] 23)).alloc (.cells #[.int .i32 1, .int .i32 1] 21)).alloc (.cells #[.slice (some ⟨w.heap.size + 1 + 1 + 1, 0, none⟩) 2 2] 23)).alloc (.cells #[.slice (some ⟨w.heap.size + 1 + 1, 0, none⟩) 2 2, .slice (some ⟨w.heap.size + 1 + 1 + 1 + 1, 0, none⟩) 1 1] 44)).alloc (.cells #[.int .i32 7, .int .i32 0, .int .i32 0] 21)) (((((((w.alloc (.cells #[.int .i32 0] 21)).alloc (.cells #[.int .i32 10] 21)).alloc (.cells #[.slice (some ⟨w.heap.size, 0, none⟩) 1 1, .slice (some ⟨w.heap.size + 1, 0, none⟩) 1 1] 23)).alloc (.cells #[.int .i32 1, .int .i32 1] 21)).alloc (.cells #[.slice (some ⟨w.heap.size + 1 + 1 + 1, 0, none⟩) 2 2] 23)).alloc (.cells #[.slice (some ⟨w.heap.size + 1 + 1, 0, none⟩) 2 2, .slice (some ⟨w.heap.size + 1 + 1 + 1 + 1, 0, none⟩) 1 1] 44)).alloc (.cells #[.int .i32 7, .int .i32 0, .int .i32 0] 21)).heap.size (some ⟨w.heap.size + 1 + 1 + 1 + 1 + 1, 0, none⟩) bL := (LA.at_ (cs := [.slice (some ⟨w.heap.size + 1 + 1, 0, none⟩) 2 2, .slice (some ⟨w.heap.size + 1 + 1 + 1 + 1, 0, none⟩) 1 1]) ((Blk.new_at (w := (((((w.alloc (.cells #[.int .i32 0] 21)).alloc (.cells #[.int .i32 10] 21)).alloc (.cells #[.slice (some ⟨w.heap.size, 0, none⟩) 1 1, .slice (some ⟨w.heap.size + 1, 0, none⟩) 1 1] 23)).alloc (.cells #[.int .i32 1, .int .i32 1] 21)).alloc (.cells #[.slice (some ⟨w.heap.size + 1 + 1 + 1, 0, none⟩) 2 2] 23))) (g := w.heap.size + 1 + 1 + 1 + 1 + 1) (by simp) 44 #[.slice (some ⟨w.heap.size + 1 + 1, 0, none⟩) 2 2, .slice (some ⟨w.heap.size + 1 + 1 + 1 + 1, 0, none⟩) 1 1]).alloc _) (by first | (simp; done) | (simp; omega)) (LA.cons (n := 2) (c := 2) rfl (by decide) (by decide) (LA.at_ (cs := [.slice (some ⟨w.heap.size, 0, none⟩) 1 1, .slice (some ⟨w.heap.size + 1, 0, none⟩) 1 1]) (((((Blk.new_at (w := ((w.alloc (.cells #[.int .i32 0] 21)).alloc (.cells #[.int .i32 10] 21))) (g := w.heap.size + 1 + 1) (by simp) 23 #[.slice (some ⟨w.heap.size, 0, none⟩) 1 1, .slice (some ⟨w.heap.size + 1, 0, none⟩) 1 1]).alloc _).alloc _).alloc _).alloc _) (by first | (simp; done) | (simp; omega)) (LA.cons (n := 1) (c := 1) rfl (by decide) (by decide) (lit_at [0] (((((((Blk.new_at (w := w) (g := w.heap.size) (by simp) 21 #[.int .i32 0]).alloc _).alloc _).alloc _).alloc _).alloc _).alloc _) (by first | (simp; done) | (simp; omega))) (LA.cons (n := 1) (c := 1) rfl (by decide) (by decide) (lit_at [10] ((((((Blk.new_at (w := (w.alloc (.cells #[.int .i32 0] 21))) (g := w.heap.size + 1) (by simp) 21 #[.int .i32 10]).alloc _).alloc _).alloc _).alloc _).alloc _) (by first | (simp; done) | (simp; omega))) LA.nil))) (LA.cons (n := 1) (c := 1) rfl (by decide) (by decide) (LA.at_ (cs := [.slice (some ⟨w.heap.size + 1 + 1 + 1, 0, none⟩) 2 2]) (((Blk.new_at (w := ((((w.alloc (.cells #[.int .i32 0] 21)).alloc (.cells #[.int .i32 10] 21)).alloc (.cells #[.slice (some ⟨w.heap.size, 0, none⟩) 1 1, .slice (some ⟨w.heap.size + 1, 0, none⟩) 1 1] 23)).alloc (.cells #[.int .i32 1, .int .i32 1] 21))) (g := w.heap.size + 1 + 1 + 1 + 1) (by simp) 23 #[.slice (some ⟨w.heap.size + 1 + 1 + 1, 0, none⟩) 2 2]).alloc _).alloc _) (by first | (simp; done) | (simp; omega)) (LA.cons (n := 2) (c := 2) rfl (by decide) (by decide) (lit_at [1, 1] ((((Blk.new_at (w := (((w.alloc (.cells #[.int .i32 0] 21)).alloc (.cells #[.int .i32 10] 21)).alloc (.cells #[.slice (some ⟨w.heap.size, 0, none⟩) 1 1, .slice (some ⟨w.heap.size + 1, 0, none⟩) 1 1] 23))) (g := w.heap.size + 1 + 1 + 1) (by simp) 21 #[.int .i32 1, .int .i32 1]).alloc _).alloc _).alloc _) (by first | (simp; done) | (simp; omega))) LA.nil)) LA.nil)))
  have RQ : Rd (Sh.int .i32) (((((((w.alloc (.cells #[.int .i32 0] 21)).alloc (.cells #[.int .i32 10] 21)).alloc (.cells #[.slice (some ⟨w.heap.size, 0, none⟩) 1 1, .slice (some ⟨w.heap.size + 1, 0, none⟩) 1 1] 23)).alloc (.cells #[.int .i32 1, .int .i32 1] 21)).alloc (.cells #[.slice (some ⟨w.heap.size + 1 + 1 + 1, 0, none⟩) 2 2] 23)).alloc (.cells #[.slice (some ⟨w.heap.size + 1 + 1, 0, none⟩) 2 2, .slice (some ⟨w.heap.size + 1 + 1 + 1 + 1, 0, none⟩) 1 1] 44)).alloc (.cells #[.int .i32 7, .int .i32 0, .int .i32 0] 21)) (((((((w.alloc (.cells #[.int .i32 0] 21)).alloc (.cells #[.int .i32 10] 21)).alloc (.cells #[.slice (some ⟨w.heap.size, 0, none⟩) 1 1, .slice (some ⟨w.heap.size + 1, 0, none⟩) 1 1] 23)).alloc (.cells #[.int .i32 1, .int .i32 1] 21)).alloc (.cells #[.slice (some ⟨w.heap.size + 1 + 1 + 1, 0, none⟩) 2 2] 23)).alloc (.cells #[.slice (some ⟨w.heap.size + 1 + 1, 0, none⟩) 2 2, .slice (some ⟨w.heap.size + 1 + 1 + 1 + 1, 0, none⟩) 1 1] 44)).alloc (.cells #[.int .i32 7, .int .i32 0, .int .i32 0] 21)).heap.size (some ⟨w.heap.size + 1 + 1 + 1 + 1 + 1 + 1, 0, none⟩) [7, 0, 0] := (lit_at [7, 0, 0] (Blk.new_at (w := ((((((w.alloc (.cells #[.int .i32 0] 21)).alloc (.cells #[.int .i32 10] 21)).alloc (.cells #[.slice (some ⟨w.heap.size, 0, none⟩) 1 1, .slice (some ⟨w.heap.size + 1, 0, none⟩) 1 1] 23)).alloc (.cells #[.int .i32 1, .int .i32 1] 21)).alloc (.cells #[.slice (some ⟨w.heap.size + 1 + 1 + 1, 0, none⟩) 2 2] 23)).alloc (.cells #[.slice (some ⟨w.heap.size + 1 + 1, 0, none⟩) 2 2, .slice (some ⟨w.heap.size + 1 + 1 + 1 + 1, 0, none⟩) 1 1] 44))) (g := w.heap.size + 1 + 1 + 1 + 1 + 1 + 1) (by simp) 21 #[.int .i32 7, .int .i32 0, .int .i32 0]) (by first | (simp; done) | (simp; omega)))
  have hb0 := ((((((((Below.refl _ w).alloc (by first | exact Nat.le_refl _ | (simp; done) | (simp; omega)) (.cells #[.int .i32 0] 21)).alloc (by first | exact Nat.le_refl _ | (simp; done) | (simp; omega)) (.cells #[.int .i32 10] 21)).alloc (by first | exact Nat.le_refl _ | (simp; done) | (simp; omega)) (.cells #[.slice (some ⟨w.heap.size, 0, none⟩) 1 1, .slice (some ⟨w.heap.size + 1, 0, none⟩) 1 1] 23)).alloc (by first | exact Nat.le_refl _ | (simp; done) | (simp; omega)) (.cells #[.int .i32 1, .int .i32 1] 21)).alloc (by first | exact Nat.le_refl _ | (simp; done) | (simp; omega)) (.cells #[.slice (some ⟨w.heap.size + 1 + 1 + 1, 0, none⟩) 2 2] 23)).alloc (by first | exact Nat.le_refl _ | (simp; done) | (simp; omega)) (.cells #[.slice (some ⟨w.heap.size + 1 + 1, 0, none⟩) 2 2, .slice (some ⟨w.heap.size + 1 + 1 + 1 + 1, 0, none⟩) 1 1] 44)).alloc (by first | exact Nat.le_refl _ | (simp; done) | (simp; omega)) (.cells #[.int .i32 7, .int .i32 0, .int .i32 0] 21))
  generalize (((((((w.alloc (.cells #[.int .i32 0] 21)).alloc (.cells #[.int .i32 10] 21)).alloc (.cells #[.slice (some ⟨w.heap.size, 0, none⟩) 1 1, .slice (some ⟨w.heap.size + 1, 0, none⟩) 1 1] 23)).alloc (.cells #[.int .i32 1, .int .i32 1] 21)).alloc (.cells #[.slice (some ⟨w.heap.size + 1 + 1 + 1, 0, none⟩) 2 2] 23)).alloc (.cells #[.slice (some ⟨w.heap.size + 1 + 1, 0, none⟩) 2 2, .slice (some ⟨w.heap.size + 1 + 1 + 1 + 1, 0, none⟩) 1 1] 44)).alloc (.cells #[.int .i32 7, .int .i32 0, .int .i32 0] 21)) = w0 at *
  clear HK
  have HK : Hid (Below w.heap.size w w0 ∧ Rd SPart w0 w0.heap.size (some ⟨w.heap.size + 1 + 1 + 1 + 1 + 1, 0, none⟩) bL) := hide ⟨hb0, RB⟩
  clear RB hb0
  refine (encode_any (some ⟨w.heap.size + 1 + 1 + 1 + 1 + 1, 0, none⟩) (some ⟨w.heap.size + 1 + 1 + 1 + 1 + 1 + 1, 0, none⟩) 2 2 3 3 bL [7, 0, 0] w0 HK.out.2 rfl (by decide) (by decide) RQ rfl (by decide) (by decide)).mono ?_
  rintro e wt1 ⟨A1, nA1, cA1, rfl, hlA1, hnA1, hmA1, hR, hb⟩
  rw [fitL]
  rw [encLL] at hlA1 hR
  clear RQ
  obtain rfl : 2 = nA1 := hlA1
  have HR := hR.rd (B := wt1.heap.size) fun b hb => hb.2
  clear hR
  have HK1 : Hid (Below w.heap.size w wt1 ∧ Rd SPart wt1 wt1.heap.size (some ⟨w.heap.size + 1 + 1 + 1 + 1 + 1, 0, none⟩) bL ∧ Rd (Sh.int .i64) wt1 wt1.heap.size A1 [1, 0]) := hide (⟨((stab_below w) w0 wt1 HK.out.1 hb), ((stab_rd SPart (some ⟨w.heap.size + 1 + 1 + 1 + 1 + 1, 0, none⟩) bL) w0 wt1 HK.out.2 hb), HR⟩)
  clear HK hb
  have HK := HK1
  clear HK1
  clear HR
  go_wp2_with fail
  refine (decode_any (some ⟨w.heap.size + 1 + 1 + 1 + 1 + 1, 0, none⟩) A1 2 2 2 cA1 bL [1, 0] wt1 ((stab_rd SPart (some ⟨w.heap.size + 1 + 1 + 1 + 1 + 1, 0, none⟩) bL) wt1 wt1 HK.out.2.1 (Below.refl _ wt1)) rfl (by decide) (by decide) ((stab_rd (Sh.int .i64) A1 [1, 0]) wt1 wt1 HK.out.2.2 (Below.refl _ wt1)) rfl hnA1 hmA1).mono ?_
  rintro e wt2 ⟨A2, nA2, cA2, rfl, hlA2, hnA2, hmA2, hR, hb⟩
  rw [decL]
  rw [decOL] at hlA2 hR
  obtain rfl : 3 = nA2 := hlA2
  have HR := hR.rd (B := wt2.heap.size) fun b hb => hb.2
  clear hR
  have HK1 : Hid (Below w.heap.size w wt2 ∧ Rd SPart wt2 wt2.heap.size (some ⟨w.heap.size + 1 + 1 + 1 + 1 + 1, 0, none⟩) bL ∧ Rd (Sh.int .i64) wt2 wt2.heap.size A1 [1, 0] ∧ Rd (Sh.int .i32) wt2 wt2.heap.size A2 [10, 1, 1]) := hide (⟨((stab_below w) wt1 wt2 HK.out.1 hb), ((stab_rd SPart (some ⟨w.heap.size + 1 + 1 + 1 + 1 + 1, 0, none⟩) bL) wt1 wt2 HK.out.2.1 hb), ((stab_rd (Sh.int .i64) A1 [1, 0]) wt1 wt2 HK.out.2.2 hb), HR⟩)
  clear HK hb
  have HK := HK1
  clear HK1
  clear HR
  go_wp2_with fail
  refine (table_any (some ⟨w.heap.size + 1 + 1 + 1 + 1 + 1, 0, none⟩) (some ⟨wt2.heap.size, 0, none⟩) 2 2 3 3 bL [7, 0, 0] _ ((stab_rd SPart (some ⟨w.heap.size + 1 + 1 + 1 + 1 + 1, 0, none⟩) bL) wt2 (wt2.alloc (.cells #[.int .i32 7, .int .i32 0, .int .i32 0] 21)) HK.out.2.1 ((Below.refl _ wt2).alloc (by first | exact Nat.le_refl _ | (simp; done) | (simp; omega)) (.cells #[.int .i32 7, .int .i32 0, .int .i32 0] 21))) rfl (by decide) (by decide) (lit_at [7, 0, 0] (Blk.new_at (w := wt2) (g := wt2.heap.size) (by simp) 21 #[.int .i32 7, .int .i32 0, .int .i32 0]) (by first | (simp; done) | (simp; omega))) rfl (by decide) (by decide)).mono ?_
  rintro e wt3 ⟨A3, nA3, cA3, rfl, hlA3, hnA3, hmA3, hR, hb⟩
  rw [fitL]
  rw [tabL] at hlA3 hR
  replace hb := Below.step ((Below.refl _ wt2).alloc (by first | exact Nat.le_refl _ | (simp; done) | (simp; omega)) (.cells #[.int .i32 7, .int .i32 0, .int .i32 0] 21)) hb
  obtain rfl : 2 = nA3 := hlA3
  have HR := hR.rd (B := wt3.heap.size) fun b hb => hb.2
  clear hR
  have HK1 : Hid (Below w.heap.size w wt3 ∧ Rd SPart wt3 wt3.heap.size (some ⟨w.heap.size + 1 + 1 + 1 + 1 + 1, 0, none⟩) bL ∧ Rd (Sh.int .i64) wt3 wt3.heap.size A1 [1, 0] ∧ Rd (Sh.int .i32) wt3 wt3.heap.size A2 [10, 1, 1] ∧ Rd (Sh.list (Sh.int .u64)) wt3 wt3.heap.size A3 [[49, 9], [2]]) := hide (⟨((stab_below w) wt2 wt3 HK.out.1 hb), ((stab_rd SPart (some ⟨w.heap.size + 1 + 1 + 1 + 1 + 1, 0, none⟩) bL) wt2 wt3 HK.out.2.1 hb), ((stab_rd (Sh.int .i64) A1 [1, 0]) wt2 wt3 HK.out.2.2.1 hb), ((stab_rd (Sh.int .i32) A2 [10, 1, 1]) wt2 wt3 HK.out.2.2.2 hb), HR⟩)
  clear HK hb
  have HK := HK1
  clear HK1
  clear HR
  go_wp2_with fail
  refine (Stab.call (K := (fun W => Below w.heap.size w W ∧ Rd SPart W W.heap.size (some ⟨w.heap.size + 1 + 1 + 1 + 1 + 1, 0, none⟩) bL ∧ Rd (Sh.int .i64) W W.heap.size A1 [1, 0] ∧ Rd (Sh.int .i32) W W.heap.size A2 [10, 1, 1] ∧ Rd (Sh.list (Sh.int .u64)) W W.heap.size A3 [[49, 9], [2]])) (stab_and (stab_below w) (stab_and (stab_rd SPart (some ⟨w.heap.size + 1 + 1 + 1 + 1 + 1, 0, none⟩) bL) (stab_and (stab_rd (Sh.int .i64) A1 [1, 0]) (stab_and (stab_rd (Sh.int .i32) A2 [10, 1, 1]) (stab_rd (Sh.list (Sh.int .u64)) A3 [[49, 9], [2]]))))) HK.out (Below.refl _ wt3) (.tuple #[.int .u64 11, .int .i64 0]) (calls_same (far_yes (A := A3) (C := A1) ((stab_rd (Sh.list (Sh.int .u64)) A3 [[49, 9], [2]]) wt3 wt3 HK.out.2.2.2.2 (Below.refl _ wt3)) rfl hnA3 hmA3 (u64l (by decide)) ((stab_rd (Sh.int .i64) A1 [1, 0]) wt3 wt3 HK.out.2.2.1 (Below.refl _ wt3)) rfl hnA1 hmA1 (okT2 ⟨by decide, by decide⟩ ⟨by decide, by decide⟩) (v := 11) (by decide +kernel))) (rfl)).mono ?_
  rintro e w4 ⟨rfl, hK⟩
  have HK' := hide hK
  clear hK HK
  have HK := HK'
  clear HK'
  go_wp2_with fail
  refine (decode_any (some ⟨w.heap.size + 1 + 1 + 1 + 1 + 1, 0, none⟩) (some ⟨w4.heap.size, 0, none⟩) 2 2 2 2 bL [2, 0] _ ((stab_rd SPart (some ⟨w.heap.size + 1 + 1 + 1 + 1 + 1, 0, none⟩) bL) w4 (w4.alloc (.cells #[.int .i64 2, .int .i64 0] 3)) HK.out.2.1 ((Below.refl _ w4).alloc (by first | exact Nat.le_refl _ | (simp; done) | (simp; omega)) (.cells #[.int .i64 2, .int .i64 0] 3))) rfl (by decide) (by decide) (lit_at [2, 0] (Blk.new_at (w := w4) (g := w4.heap.size) (by simp) 3 #[.int .i64 2, .int .i64 0]) (by first | (simp; done) | (simp; omega))) rfl (by decide) (by decide)).mono ?_
  rintro e wt5 ⟨A5, nA5, cA5, rfl, hlA5, hnA5, hmA5, hR, hb⟩
  rw [decL6]
  replace hb := Below.step ((Below.refl _ w4).alloc (by first | exact Nat.le_refl _ | (simp; done) | (simp; omega)) (.cells #[.int .i64 2, .int .i64 0] 3)) hb
  clear hR hlA5
  have HK1 : Hid (Below w.heap.size w wt5 ∧ Rd SPart wt5 wt5.heap.size (some ⟨w.heap.size + 1 + 1 + 1 + 1 + 1, 0, none⟩) bL ∧ Rd (Sh.int .i64) wt5 wt5.heap.size A1 [1, 0] ∧ Rd (Sh.int .i32) wt5 wt5.heap.size A2 [10, 1, 1] ∧ Rd (Sh.list (Sh.int .u64)) wt5 wt5.heap.size A3 [[49, 9], [2]]) := hide (⟨((stab_below w) w4 wt5 HK.out.1 hb), ((stab_rd SPart (some ⟨w.heap.size + 1 + 1 + 1 + 1 + 1, 0, none⟩) bL) w4 wt5 HK.out.2.1 hb), ((stab_rd (Sh.int .i64) A1 [1, 0]) w4 wt5 HK.out.2.2.1 hb), ((stab_rd (Sh.int .i32) A2 [10, 1, 1]) w4 wt5 HK.out.2.2.2.1 hb), ((stab_rd (Sh.list (Sh.int .u64)) A3 [[49, 9], [2]]) w4 wt5 HK.out.2.2.2.2 hb)⟩)
  clear HK hb
  have HK := HK1
  clear HK1
  go_wp2_with fail
  refine (encode_any (some ⟨w.heap.size + 1 + 1 + 1 + 1 + 1, 0, none⟩) (some ⟨wt5.heap.size, 0, none⟩) 2 2 1 1 bL [7] _ ((stab_rd SPart (some ⟨w.heap.size + 1 + 1 + 1 + 1 + 1, 0, none⟩) bL) wt5 (wt5.alloc (.cells #[.int .i32 7] 21)) HK.out.2.1 ((Below.refl _ wt5).alloc (by first | exact Nat.le_refl _ | (simp; done) | (simp; omega)) (.cells #[.int .i32 7] 21))) rfl (by decide) (by decide) (lit_at [7] (Blk.new_at (w := wt5) (g := wt5.heap.size) (by simp) 21 #[.int .i32 7]) (by first | (simp; done) | (simp; omega))) rfl (by decide) (by decide)).mono ?_
  rintro e wt6 ⟨A6, nA6, cA6, rfl, hlA6, hnA6, hmA6, hR, hb⟩
  rw [fitL1]
  replace hb := Below.step ((Below.refl _ wt5).alloc (by first | exact Nat.le_refl _ | (simp; done) | (simp; omega)) (.cells #[.int .i32 7] 21)) hb
  clear hR hlA6
  have HK1 : Hid (Below w.heap.size w wt6 ∧ Rd SPart wt6 wt6.heap.size (some ⟨w.heap.size + 1 + 1 + 1 + 1 + 1, 0, none⟩) bL ∧ Rd (Sh.int .i64) wt6 wt6.heap.size A1 [1, 0] ∧ Rd (Sh.int .i32) wt6 wt6.heap.size A2 [10, 1, 1] ∧ Rd (Sh.list (Sh.int .u64)) wt6 wt6.heap.size A3 [[49, 9], [2]]) := hide (⟨((stab_below w) wt5 wt6 HK.out.1 hb), ((stab_rd SPart (some ⟨w.heap.size + 1 + 1 + 1 + 1 + 1, 0, none⟩) bL) wt5 wt6 HK.out.2.1 hb), ((stab_rd (Sh.int .i64) A1 [1, 0]) wt5 wt6 HK.out.2.2.1 hb), ((stab_rd (Sh.int .i32) A2 [10, 1, 1]) wt5 wt6 HK.out.2.2.2.1 hb), ((stab_rd (Sh.list (Sh.int .u64)) A3 [[49, 9], [2]]) wt5 wt6 HK.out.2.2.2.2 hb)⟩)
  clear HK hb
  have HK := HK1
  clear HK1
  go_wp2_with fail
  refine (Stab.call (K := (fun W => Below w.heap.size w W ∧ Rd SPart W W.heap.size (some ⟨w.heap.size + 1 + 1 + 1 + 1 + 1, 0, none⟩) bL ∧ Rd (Sh.int .i64) W W.heap.size A1 [1, 0] ∧ Rd (Sh.int .i32) W W.heap.size A2 [10, 1, 1] ∧ Rd (Sh.list (Sh.int .u64)) W W.heap.size A3 [[49, 9], [2]])) (stab_and (stab_below w) (stab_and (stab_rd SPart (some ⟨w.heap.size + 1 + 1 + 1 + 1 + 1, 0, none⟩) bL) (stab_and (stab_rd (Sh.int .i64) A1 [1, 0]) (stab_and (stab_rd (Sh.int .i32) A2 [10, 1, 1]) (stab_rd (Sh.list (Sh.int .u64)) A3 [[49, 9], [2]]))))) HK.out ((Below.refl _ wt6).alloc (by first | exact Nat.le_refl _ | (simp; done) | (simp; omega)) (.cells #[.int .i64 0] 3)) (.tuple #[.int .u64 0, .int .i64 6]) (calls_same (far_no (A := A3) (C := (some ⟨wt6.heap.size, 0, none⟩)) ((stab_rd (Sh.list (Sh.int .u64)) A3 [[49, 9], [2]]) wt6 (wt6.alloc (.cells #[.int .i64 0] 3)) HK.out.2.2.2.2 ((Below.refl _ wt6).alloc (by first | exact Nat.le_refl _ | (simp; done) | (simp; omega)) (.cells #[.int .i64 0] 3))) rfl hnA3 hmA3 (u64l (by decide)) (lit_at [0] (Blk.new_at (w := wt6) (g := wt6.heap.size) (by simp) 3 #[.int .i64 0]) (by first | (simp; done) | (simp; omega))) rfl (by decide) (by decide) (d := 1) noT1)) (rfl)).mono ?_
  rintro e w7 ⟨rfl, hK⟩
  have HK' := hide hK
  clear hK HK
  have HK := HK'
  clear HK'
  go_wp2_with fail
  refine (Stab.call (K := (fun W => Below w.heap.size w W ∧ Rd SPart W W.heap.size (some ⟨w.heap.size + 1 + 1 + 1 + 1 + 1, 0, none⟩) bL ∧ Rd (Sh.int .i64) W W.heap.size A1 [1, 0] ∧ Rd (Sh.int .i32) W W.heap.size A2 [10, 1, 1] ∧ Rd (Sh.list (Sh.int .u64)) W W.heap.size A3 [[49, 9], [2]])) (stab_and (stab_below w) (stab_and (stab_rd SPart (some ⟨w.heap.size + 1 + 1 + 1 + 1 + 1, 0, none⟩) bL) (stab_and (stab_rd (Sh.int .i64) A1 [1, 0]) (stab_and (stab_rd (Sh.int .i32) A2 [10, 1, 1]) (stab_rd (Sh.list (Sh.int .u64)) A3 [[49, 9], [2]]))))) HK.out (((((Below.refl _ w7).alloc (by first | exact Nat.le_refl _ | (simp; done) | (simp; omega)) (.cells #[.int .u64 18446744073709551615] 36)).alloc (by first | exact Nat.le_refl _ | (simp; done) | (simp; omega)) (.cells #[.int .u64 5] 36)).alloc (by first | exact Nat.le_refl _ | (simp; done) | (simp; omega)) (.cells #[.slice (some ⟨w7.heap.size, 0, none⟩) 1 1, .slice (some ⟨w7.heap.size + 1, 0, none⟩) 1 1] 45)).alloc (by first | exact Nat.le_refl _ | (simp; done) | (simp; omega)) (.cells #[.int .i64 0, .int .i64 0] 3)) (.tuple #[.int .u64 18446744073709551615, .int .i64 0]) (calls_same (far_yes (A := some ⟨w7.heap.size + 1 + 1, 0, none⟩) (C := (some ⟨w7.heap.size + 1 + 1 + 1, 0, none⟩)) (c := 2) (d := 2) (LA.at_ (cs := [.slice (some ⟨w7.heap.size, 0, none⟩) 1 1, .slice (some ⟨w7.heap.size + 1, 0, none⟩) 1 1]) ((Blk.new_at (w := ((w7.alloc (.cells #[.int .u64 18446744073709551615] 36)).alloc (.cells #[.int .u64 5] 36))) (g := w7.heap.size + 1 + 1) (by simp) 45 #[.slice (some ⟨w7.heap.size, 0, none⟩) 1 1, .slice (some ⟨w7.heap.size + 1, 0, none⟩) 1 1]).alloc _) (by first | (simp; done) | (simp; omega)) (LA.cons (n := 1) (c := 1) rfl (by decide) (by decide) (lit_at [18446744073709551615] ((((Blk.new_at (w := w7) (g := w7.heap.size) (by simp) 36 #[.int .u64 18446744073709551615]).alloc _).alloc _).alloc _) (by first | (simp; done) | (simp; omega))) (LA.cons (n := 1) (c := 1) rfl (by decide) (by decide) (lit_at [5] (((Blk.new_at (w := (w7.alloc (.cells #[.int .u64 18446744073709551615] 36))) (g := w7.heap.size + 1) (by simp) 36 #[.int .u64 5]).alloc _).alloc _) (by first | (simp; done) | (simp; omega))) LA.nil))) rfl (by decide) (by decide) (u64l (by decide)) (lit_at [0, 0] (Blk.new_at (w := (((w7.alloc (.cells #[.int .u64 18446744073709551615] 36)).alloc (.cells #[.int .u64 5] 36)).alloc (.cells #[.slice (some ⟨w7.heap.size, 0, none⟩) 1 1, .slice (some ⟨w7.heap.size + 1, 0, none⟩) 1 1] 45))) (g := w7.heap.size + 1 + 1 + 1) (by simp) 3 #[.int .i64 0, .int .i64 0]) (by first | (simp; done) | (simp; omega))) rfl (by decide) (by decide) (okT2 ⟨by decide, by decide⟩ ⟨by decide, by decide⟩) (v := 18446744073709551615) (by decide +kernel))) (rfl)).mono ?_
  rintro e w8 ⟨rfl, hK⟩
  have HK' := hide hK
  clear hK HK
  have HK := HK'
  clear HK'
  go_wp2_with fail
  refine (Stab.call (K := (fun W => Below w.heap.size w W ∧ Rd SPart W W.heap.size (some ⟨w.heap.size + 1 + 1 + 1 + 1 + 1, 0, none⟩) bL ∧ Rd (Sh.int .i64) W W.heap.size A1 [1, 0] ∧ Rd (Sh.int .i32) W W.heap.size A2 [10, 1, 1] ∧ Rd (Sh.list (Sh.int .u64)) W W.heap.size A3 [[49, 9], [2]])) (stab_and (stab_below w) (stab_and (stab_rd SPart (some ⟨w.heap.size + 1 + 1 + 1 + 1 + 1, 0, none⟩) bL) (stab_and (stab_rd (Sh.int .i64) A1 [1, 0]) (stab_and (stab_rd (Sh.int .i32) A2 [10, 1, 1]) (stab_rd (Sh.list (Sh.int .u64)) A3 [[49, 9], [2]]))))) HK.out ((Below.refl _ w8).alloc (by first | exact Nat.le_refl _ | (simp; done) | (simp; omega)) (.cells #[.int .i64 1, .int .i64 0] 3)) (.bool true) (calls_drew (sameInts_any A1 (some ⟨w8.heap.size, 0, none⟩) 2 cA1 2 2 [1, 0] [1, 0] _ ((stab_rd (Sh.int .i64) A1 [1, 0]) w8 (w8.alloc (.cells #[.int .i64 1, .int .i64 0] 3)) HK.out.2.2.1 ((Below.refl _ w8).alloc (by first | exact Nat.le_refl _ | (simp; done) | (simp; omega)) (.cells #[.int .i64 1, .int .i64 0] 3))) rfl hnA1 hmA1 (lit_at [1, 0] (Blk.new_at (w := w8) (g := w8.heap.size) (by simp) 3 #[.int .i64 1, .int .i64 0]) (by first | (simp; done) | (simp; omega))) rfl (by decide) (by decide))) (congrArg Value.bool (by decide))).mono ?_
  rintro e w9 ⟨rfl, hK⟩
  have HK' := hide hK
  clear hK HK
  have HK := HK'
  clear HK'
  go_wp2_with fail
  refine (Stab.call (K := (fun W => Below w.heap.size w W ∧ Rd SPart W W.heap.size (some ⟨w.heap.size + 1 + 1 + 1 + 1 + 1, 0, none⟩) bL ∧ Rd (Sh.int .i64) W W.heap.size A1 [1, 0] ∧ Rd (Sh.int .i32) W W.heap.size A2 [10, 1, 1] ∧ Rd (Sh.list (Sh.int .u64)) W W.heap.size A3 [[49, 9], [2]])) (stab_and (stab_below w) (stab_and (stab_rd SPart (some ⟨w.heap.size + 1 + 1 + 1 + 1 + 1, 0, none⟩) bL) (stab_and (stab_rd (Sh.int .i64) A1 [1, 0]) (stab_and (stab_rd (Sh.int .i32) A2 [10, 1, 1]) (stab_rd (Sh.list (Sh.int .u64)) A3 [[49, 9], [2]]))))) HK.out ((Below.refl _ w9).alloc (by first | exact Nat.le_refl _ | (simp; done) | (simp; omega)) (.cells #[.int .i32 10, .int .i32 1, .int .i32 1] 21)) (.bool true) (calls_drew (refSame_any A2 (some ⟨w9.heap.size, 0, none⟩) 3 cA2 3 3 [10, 1, 1] [10, 1, 1] _ ((stab_rd (Sh.int .i32) A2 [10, 1, 1]) w9 (w9.alloc (.cells #[.int .i32 10, .int .i32 1, .int .i32 1] 21)) HK.out.2.2.2.1 ((Below.refl _ w9).alloc (by first | exact Nat.le_refl _ | (simp; done) | (simp; omega)) (.cells #[.int .i32 10, .int .i32 1, .int .i32 1] 21))) rfl hnA2 hmA2 (lit_at [10, 1, 1] (Blk.new_at (w := w9) (g := w9.heap.size) (by simp) 21 #[.int .i32 10, .int .i32 1, .int .i32 1]) (by first | (simp; done) | (simp; omega))) rfl (by decide) (by decide))) (congrArg Value.bool (by decide))).mono ?_
  rintro e w10 ⟨rfl, hK⟩
  have HK' := hide hK
  clear hK HK
  have HK := HK'
  clear HK'
  go_wp2_with fail
  refine (Stab.call (K := (fun W => Below w.heap.size w W ∧ Rd SPart W W.heap.size (some ⟨w.heap.size + 1 + 1 + 1 + 1 + 1, 0, none⟩) bL ∧ Rd (Sh.int .i64) W W.heap.size A1 [1, 0] ∧ Rd (Sh.int .i32) W W.heap.size A2 [10, 1, 1] ∧ Rd (Sh.list (Sh.int .u64)) W W.heap.size A3 [[49, 9], [2]])) (stab_and (stab_below w) (stab_and (stab_rd SPart (some ⟨w.heap.size + 1 + 1 + 1 + 1 + 1, 0, none⟩) bL) (stab_and (stab_rd (Sh.int .i64) A1 [1, 0]) (stab_and (stab_rd (Sh.int .i32) A2 [10, 1, 1]) (stab_rd (Sh.list (Sh.int .u64)) A3 [[49, 9], [2]]))))) HK.out ((((Below.refl _ w10).alloc (by first | exact Nat.le_refl _ | (simp; done) | (simp; omega)) (.cells #[.int .u64 49, .int .u64 9] 36)).alloc (by first | exact Nat.le_refl _ | (simp; done) | (simp; omega)) (.cells #[.int .u64 2] 36)).alloc (by first | exact Nat.le_refl _ | (simp; done) | (simp; omega)) (.cells #[.slice (some ⟨w10.heap.size, 0, none⟩) 2 2, .slice (some ⟨w10.heap.size + 1, 0, none⟩) 1 1] 45)) (.bool true) (calls_drew (sameTable_any A3 (some ⟨w10.heap.size + 1 + 1, 0, none⟩) 2 cA3 2 2 [[49, 9], [2]] [[49, 9], [2]] _ ((stab_rd (Sh.list (Sh.int .u64)) A3 [[49, 9], [2]]) w10 (((w10.alloc (.cells #[.int .u64 49, .int .u64 9] 36)).alloc (.cells #[.int .u64 2] 36)).alloc (.cells #[.slice (some ⟨w10.heap.size, 0, none⟩) 2 2, .slice (some ⟨w10.heap.size + 1, 0, none⟩) 1 1] 45)) HK.out.2.2.2.2 ((((Below.refl _ w10).alloc (by first | exact Nat.le_refl _ | (simp; done) | (simp; omega)) (.cells #[.int .u64 49, .int .u64 9] 36)).alloc (by first | exact Nat.le_refl _ | (simp; done) | (simp; omega)) (.cells #[.int .u64 2] 36)).alloc (by first | exact Nat.le_refl _ | (simp; done) | (simp; omega)) (.cells #[.slice (some ⟨w10.heap.size, 0, none⟩) 2 2, .slice (some ⟨w10.heap.size + 1, 0, none⟩) 1 1] 45))) rfl hnA3 hmA3 (LA.at_ (cs := [.slice (some ⟨w10.heap.size, 0, none⟩) 2 2, .slice (some ⟨w10.heap.size + 1, 0, none⟩) 1 1]) (Blk.new_at (w := ((w10.alloc (.cells #[.int .u64 49, .int .u64 9] 36)).alloc (.cells #[.int .u64 2] 36))) (g := w10.heap.size + 1 + 1) (by simp) 45 #[.slice (some ⟨w10.heap.size, 0, none⟩) 2 2, .slice (some ⟨w10.heap.size + 1, 0, none⟩) 1 1]) (by first | (simp; done) | (simp; omega)) (LA.cons (n := 2) (c := 2) rfl (by decide) (by decide) (lit_at [49, 9] (((Blk.new_at (w := w10) (g := w10.heap.size) (by simp) 36 #[.int .u64 49, .int .u64 9]).alloc _).alloc _) (by first | (simp; done) | (simp; omega))) (LA.cons (n := 1) (c := 1) rfl (by decide) (by decide) (lit_at [2] ((Blk.new_at (w := (w10.alloc (.cells #[.int .u64 49, .int .u64 9] 36))) (g := w10.heap.size + 1) (by simp) 36 #[.int .u64 2]).alloc _) (by first | (simp; done) | (simp; omega))) LA.nil))) rfl (by decide) (by decide))) (congrArg Value.bool (by decide))).mono ?_
  rintro e w11 ⟨rfl, hK⟩
  have HK' := hide hK
  clear hK HK
  have HK := HK'
  clear HK'
  go_wp2_with fail
  refine (Stab.call (K := (fun W => Below w.heap.size w W ∧ Rd SPart W W.heap.size (some ⟨w.heap.size + 1 + 1 + 1 + 1 + 1, 0, none⟩) bL ∧ Rd (Sh.int .i64) W W.heap.size A1 [1, 0] ∧ Rd (Sh.int .i32) W W.heap.size A2 [10, 1, 1] ∧ Rd (Sh.list (Sh.int .u64)) W W.heap.size A3 [[49, 9], [2]])) (stab_and (stab_below w) (stab_and (stab_rd SPart (some ⟨w.heap.size + 1 + 1 + 1 + 1 + 1, 0, none⟩) bL) (stab_and (stab_rd (Sh.int .i64) A1 [1, 0]) (stab_and (stab_rd (Sh.int .i32) A2 [10, 1, 1]) (stab_rd (Sh.list (Sh.int .u64)) A3 [[49, 9], [2]]))))) HK.out (Below.refl _ w11) (.int .i64 3) (qdim_any (some ⟨w.heap.size + 1 + 1 + 1 + 1 + 1, 0, none⟩) 2 2 bL _ ((stab_rd SPart (some ⟨w.heap.size + 1 + 1 + 1 + 1 + 1, 0, none⟩) bL) w11 w11 HK.out.2.1 (Below.refl _ w11)) rfl (by decide) (by decide)) (congrArg (Value.int .i64) (by decide +kernel))).mono ?_
  rintro e w12 ⟨rfl, hK⟩
  have HK' := hide hK
  clear hK HK
  have HK := HK'
  clear HK'
  go_wp2_with fail
  refine (Stab.call (K := (fun W => Below w.heap.size w W ∧ Rd SPart W W.heap.size (some ⟨w.heap.size + 1 + 1 + 1 + 1 + 1, 0, none⟩) bL ∧ Rd (Sh.int .i64) W W.heap.size A1 [1, 0] ∧ Rd (Sh.int .i32) W W.heap.size A2 [10, 1, 1] ∧ Rd (Sh.list (Sh.int .u64)) W W.heap.size A3 [[49, 9], [2]])) (stab_and (stab_below w) (stab_and (stab_rd SPart (some ⟨w.heap.size + 1 + 1 + 1 + 1 + 1, 0, none⟩) bL) (stab_and (stab_rd (Sh.int .i64) A1 [1, 0]) (stab_and (stab_rd (Sh.int .i32) A2 [10, 1, 1]) (stab_rd (Sh.list (Sh.int .u64)) A3 [[49, 9], [2]]))))) HK.out (Below.refl _ w12) (.int .i64 7) (qcheck_any none 0 0 [] _ Rd.start rfl (by decide) (by decide)) (congrArg (Value.int .i64) (by decide +kernel))).mono ?_
  rintro e w13 ⟨rfl, hK⟩
  have HK' := hide hK
  clear hK HK
  have HK := HK'
  clear HK'
  go_wp2_with fail
  refine (Stab.call (K := (fun W => Below w.heap.size w W ∧ Rd SPart W W.heap.size (some ⟨w.heap.size + 1 + 1 + 1 + 1 + 1, 0, none⟩) bL ∧ Rd (Sh.int .i64) W W.heap.size A1 [1, 0] ∧ Rd (Sh.int .i32) W W.heap.size A2 [10, 1, 1] ∧ Rd (Sh.list (Sh.int .u64)) W W.heap.size A3 [[49, 9], [2]])) (stab_and (stab_below w) (stab_and (stab_rd SPart (some ⟨w.heap.size + 1 + 1 + 1 + 1 + 1, 0, none⟩) bL) (stab_and (stab_rd (Sh.int .i64) A1 [1, 0]) (stab_and (stab_rd (Sh.int .i32) A2 [10, 1, 1]) (stab_rd (Sh.list (Sh.int .u64)) A3 [[49, 9], [2]]))))) HK.out (Below.refl _ w13) (.int .i64 0) (qdim_any none 0 0 [] _ Rd.start rfl (by decide) (by decide)) (congrArg (Value.int .i64) (by decide +kernel))).mono ?_
  rintro e w14 ⟨rfl, hK⟩
  have HK' := hide hK
  clear hK HK
  have HK := HK'
  clear HK'
  go_wp2_with fail
  go_ret
  exact ⟨rfl, HK.out.1⟩
end Go.Proofs.Ytojanklgjdjniac
