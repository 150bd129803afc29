/-
  The package explore: the law's own probes (lives). No condition.
-/
import Derived.Test.YtpnekmkbedhooaaExpO
import Derived.Test.YtpnekmkbedhooaaExpM
namespace Go.Proofs.Ytpnekmkbedhooaa
open Go.RowKit

/-! the rows of the triangle, quickly -/
def nxt : Nat → List Nat → List Nat
  | p, [] => [p]
  | p, x :: t => (p + x) :: nxt x t
def prow : Nat → List Nat
  | 0 => [1]
  | n + 1 => nxt 0 (prow n)
theorem nxt_at : ∀ (l : List Nat) (p k : Nat), (nxt p l).getD k 0 = (if k = 0 then p else l.getD (k - 1) 0) + l.getD k 0 := by
  intro l
  induction l with
  | nil => intro p k; cases k <;> simp [nxt]
  | cons x t ih =>
    intro p k
    cases k with
    | zero => simp [nxt]
    | succ k =>
      have h := ih x k
      simp only [nxt, List.getD_cons_succ, Nat.add_sub_cancel, if_neg (Nat.succ_ne_zero k), h]
      cases k <;> simp
theorem prow_at (n k : Nat) : (prow n).getD k 0 = pas n k := by
  induction n generalizing k with
  | zero => cases k <;> simp [prow, pas]
  | succ n ih =>
    rw [prow, nxt_at]
    cases k with
    | zero => rw [if_pos rfl, ih, pas_zero, pas_zero]
    | succ k => rw [if_neg (Nat.succ_ne_zero k), Nat.add_sub_cancel, ih, ih]; rfl
theorem big20 : 18446744073709551615 ≤ multi 0 [20, 20, 20] := by
  show 18446744073709551615 ≤ pas (0 + 20) 20 * (pas (0 + 20 + 20) 20 * (pas (0 + 20 + 20 + 20) 20 * 1))
  rw [← prow_at, ← prow_at, ← prow_at]
  decide +kernel
theorem cnt21 : cntOf [2, 1] = 3 := by
  rw [cntOf_ok (show okT [2, 1] from by unfold okT; decide)]; decide
theorem cnt20 : cntOf [20, 20, 20] = 18446744073709551615 := by
  rw [cntOf_ok (show okT [20, 20, 20] from by unfold okT; decide)]
  exact hN_great big20
theorem cnt65 : cntOf [65] = 0 := cntOf_no (by unfold okT; decide)
theorem cntm1 : cntOf [-1] = 1 := by
  rw [cntOf_ok (show okT [-1] from by unfold okT; decide)]; decide
theorem nth0 : Nth (tn [2, 1]) 0 [0, 0, 1] :=
  .next (w := 0) (by unfold Begins; decide) (.next (w := 0) (by unfold Begins; decide) (.next (w := 1) (by unfold Begins; decide) (.last (by decide))))
theorem nth2 : Nth (tn [2, 1]) 2 [1, 0, 0] :=
  .next (w := 1) (by unfold Begins; decide) (.next (w := 0) (by unfold Begins; decide) (.next (w := 0) (by unfold Begins; decide) (.last (by decide))))
theorem pla010 : plaOf [2, 1] [0, 1, 0] = some 1 := by
  unfold plaOf
  rw [if_pos ⟨by unfold okT; decide, by decide⟩]
  decide
theorem pla011 : plaOf [2, 1] [0, 1, 1] = none := by
  unfold plaOf
  rw [if_pos ⟨by unfold okT; decide, by decide⟩]
  decide
theorem count_lit {A : Option Addr} {n c : Nat} {xs : List Int} {w : World} (hx : I64s w w.heap.size A xs) (hn : xs.length = n) (hc : n ≤ c) (hm : c ≤ 9223372036854775807) {N : Nat} (h : cntOf xs = N) :
    Calls Try.prog 6 #[.slice A n c] w fun e w' => e = .returned (.int .u64 (N : Nat)) ∧ Below w.heap.size w w' := by
  subst h; exact eCount_any A n c xs w hx hn hc hm
theorem nth_lit {A : Option Addr} {n c N : Nat} {xs : List Int} {w : World} (hx : I64s w w.heap.size A xs) (hn : xs.length = n) (hc : n ≤ c) (hm : c ≤ 9223372036854775807) (hN' : N < 18446744073709551616) (h : N < cntOf xs) {o : List Nat} (ho : Nth (tn xs) N o) :
    Calls Try.prog 7 #[.slice A n c, .int .u64 N] w fun e w' => ∃ v, e = .returned (.tuple #[v, .bool true]) ∧ NewInts .i64 w (ni o) v w' :=
  (eNth_any A n c N xs w hx hn hc hm hN').mono fun _ _ g => by
    rcases g with ⟨_, v, o', e, h1, h2⟩ | ⟨hno, _⟩
    · rw [nth_one ho h1]; exact ⟨v, e, h2⟩
    · exact (hno h).elim
theorem nth_lit_no {A : Option Addr} {n c N : Nat} {xs : List Int} {w : World} (hx : I64s w w.heap.size A xs) (hn : xs.length = n) (hc : n ≤ c) (hm : c ≤ 9223372036854775807) (hN' : N < 18446744073709551616) (h : ¬ N < cntOf xs) :
    Calls Try.prog 7 #[.slice A n c, .int .u64 N] w fun e w' => e = .returned (.tuple #[.slice none 0 0, .bool false]) ∧ Below w.heap.size w w' :=
  (eNth_any A n c N xs w hx hn hc hm hN').mono fun _ _ g => by
    rcases g with ⟨hlt, _⟩ | ⟨_, e, h2⟩
    · exact (h hlt).elim
    · exact ⟨e, h2⟩
theorem place_lit {A O : Option Addr} {n c q d : Nat} {xs os : List Int} {w : World} (hx : I64s w w.heap.size A xs) (hn : xs.length = n) (hc : n ≤ c) (hm : c ≤ 9223372036854775807)
    (hy : I64s w w.heap.size O os) (hq : os.length = q) (hd : q ≤ d) (hm' : d ≤ 9223372036854775807) {p : Nat} (h : plaOf xs os = some p) :
    Calls Try.prog 8 #[.slice A n c, .slice O q d] w fun e w' => e = .returned (.tuple #[.int .u64 (p : Nat), .bool true]) ∧ Below w.heap.size w w' :=
  (ePlace_any A O n c q d xs os w hx hn hc hm hy hq hd hm').mono fun _ _ ⟨g, hb⟩ => by
    rcases g with ⟨p', h1, e⟩ | ⟨h1, _⟩
    · rw [h] at h1; injection h1 with h1; rw [h1]; exact ⟨e, hb⟩
    · rw [h] at h1; cases h1
theorem place_lit_no {A O : Option Addr} {n c q d : Nat} {xs os : List Int} {w : World} (hx : I64s w w.heap.size A xs) (hn : xs.length = n) (hc : n ≤ c) (hm : c ≤ 9223372036854775807)
    (hy : I64s w w.heap.size O os) (hq : os.length = q) (hd : q ≤ d) (hm' : d ≤ 9223372036854775807) (h : plaOf xs os = none) :
    Calls Try.prog 8 #[.slice A n c, .slice O q d] w fun e w' => e = .returned (.tuple #[.int .u64 0, .bool false]) ∧ Below w.heap.size w w' :=
  (ePlace_any A O n c q d xs os w hx hn hc hm hy hq hd hm').mono fun _ _ ⟨g, hb⟩ => by
    rcases g with ⟨p', h1, e⟩ | ⟨h1, e⟩
    · rw [h] at h1; cases h1
    · exact ⟨e, hb⟩
/-- what a block of acts has at the head -/
def ActAt (os : List Int) (g : Nat) (w : World) : Prop := g < w.heap.size ∧ Blk w g 39 (vcs (actC os os.length) (os.length * 8))
theorem stab_act (os : List Int) (g : Nat) : Stab (ActAt os g) := fun _ _ h hb => ⟨Nat.lt_of_lt_of_le h.1 hb.size, h.2.below hb h.1⟩

set_option maxHeartbeats 4000000 in
set_option maxRecDepth 100000 in
theorem lives_any (w : World) : Calls Try.prog 5 #[] w fun e w' => e = .returned (.bool true) ∧ Below w.heap.size w w' := by
  have HK := hide (Below.refl w.heap.size w)
  go_enter Try.func5, Try.ntmps5
  go_wp2_with fail
  have RT : Rd (Sh.int .i64) (w.alloc (.cells #[.int .i64 2, .int .i64 1] 3)) (w.alloc (.cells #[.int .i64 2, .int .i64 1] 3)).heap.size (some ⟨w.heap.size, 0, none⟩) [2, 1] := (lit_at [2, 1] (Blk.new_at (w := w) (g := w.heap.size) (by simp) 3 #[.int .i64 2, .int .i64 1]) (by first | (simp; done) | (simp; omega)))
  have hb0 := ((Below.refl _ w).alloc (by first | exact Nat.le_refl _ | (simp; done) | (simp; omega)) (.cells #[.int .i64 2, .int .i64 1] 3))
  generalize (w.alloc (.cells #[.int .i64 2, .int .i64 1] 3)) = w0 at *
  clear HK
  have HK : Hid (Below w.heap.size w w0 ∧ Rd (Sh.int .i64) w0 w0.heap.size (some ⟨w.heap.size, 0, none⟩) [2, 1]) := hide ⟨hb0, RT⟩
  clear RT hb0
  go_wp2_with fail
  refine (nth_lit (xs := [2, 1]) (N := 0) ((stab_rd (Sh.int .i64) (some ⟨w.heap.size, 0, none⟩) [2, 1]) w0 w0 HK.out.2 (Below.refl _ w0)) rfl (by decide) (by decide) (by decide) (by rw [cnt21]; decide) nth0).mono ?_
  rintro e w1 ⟨v, rfl, A1, n1, c1, rfl, hl1, hn1, hm1, hR, hb⟩
  obtain rfl : 3 = n1 := hl1
  have HR := hR.rd (B := w1.heap.size) fun b hb => hb.2
  clear hR
  have HK1 : Hid (Below w.heap.size w w1 ∧ Rd (Sh.int .i64) w1 w1.heap.size (some ⟨w.heap.size, 0, none⟩) [2, 1] ∧ Rd (Sh.int .i64) w1 w1.heap.size A1 [0, 0, 1]) := hide ⟨((stab_below w) w0 w1 HK.out.1 hb), ((stab_rd (Sh.int .i64) (some ⟨w.heap.size, 0, none⟩) [2, 1]) w0 w1 HK.out.2 hb), HR⟩
  clear HK hb
  have HK := HK1
  clear HK1
  clear HR
  go_wp2_with fail
  refine (nth_lit (xs := [2, 1]) (N := 2) ((stab_rd (Sh.int .i64) (some ⟨w.heap.size, 0, none⟩) [2, 1]) w1 w1 HK.out.2.1 (Below.refl _ w1)) rfl (by decide) (by decide) (by decide) (by rw [cnt21]; decide) nth2).mono ?_
  rintro e w2 ⟨v, rfl, A2, n2, c2, rfl, hl2, hn2, hm2, hR, hb⟩
  obtain rfl : 3 = n2 := hl2
  have HR := hR.rd (B := w2.heap.size) fun b hb => hb.2
  clear hR
  have HK1 : Hid (Below w.heap.size w w2 ∧ Rd (Sh.int .i64) w2 w2.heap.size (some ⟨w.heap.size, 0, none⟩) [2, 1] ∧ Rd (Sh.int .i64) w2 w2.heap.size A1 [0, 0, 1] ∧ Rd (Sh.int .i64) w2 w2.heap.size A2 [1, 0, 0]) := hide ⟨((stab_below w) w1 w2 HK.out.1 hb), ((stab_rd (Sh.int .i64) (some ⟨w.heap.size, 0, none⟩) [2, 1]) w1 w2 HK.out.2.1 hb), ((stab_rd (Sh.int .i64) A1 [0, 0, 1]) w1 w2 HK.out.2.2 hb), HR⟩
  clear HK hb
  have HK := HK1
  clear HK1
  clear HR
  go_wp2_with fail
  refine (Stab.call (K := (fun W => Below w.heap.size w W ∧ Rd (Sh.int .i64) W W.heap.size (some ⟨w.heap.size, 0, none⟩) [2, 1] ∧ Rd (Sh.int .i64) W W.heap.size A1 [0, 0, 1] ∧ Rd (Sh.int .i64) W W.heap.size A2 [1, 0, 0])) (stab_and (stab_below w) (stab_and (stab_rd (Sh.int .i64) (some ⟨w.heap.size, 0, none⟩) [2, 1]) (stab_and (stab_rd (Sh.int .i64) A1 [0, 0, 1]) (stab_rd (Sh.int .i64) A2 [1, 0, 0])))) HK.out (Below.refl _ w2) (.tuple #[.slice none 0 0, .bool false]) (nth_lit_no (xs := [2, 1]) (N := 3) ((stab_rd (Sh.int .i64) (some ⟨w.heap.size, 0, none⟩) [2, 1]) w2 w2 HK.out.2.1 (Below.refl _ w2)) rfl (by decide) (by decide) (by decide) (by rw [cnt21]; decide)) (rfl)).mono ?_
  rintro e w3 ⟨rfl, hK⟩
  have HK' := hide hK
  clear hK HK
  have HK := HK'
  clear HK'
  go_wp2_with fail
  refine (Stab.call (K := (fun W => Below w.heap.size w W ∧ Rd (Sh.int .i64) W W.heap.size (some ⟨w.heap.size, 0, none⟩) [2, 1] ∧ Rd (Sh.int .i64) W W.heap.size A1 [0, 0, 1] ∧ Rd (Sh.int .i64) W W.heap.size A2 [1, 0, 0])) (stab_and (stab_below w) (stab_and (stab_rd (Sh.int .i64) (some ⟨w.heap.size, 0, none⟩) [2, 1]) (stab_and (stab_rd (Sh.int .i64) A1 [0, 0, 1]) (stab_rd (Sh.int .i64) A2 [1, 0, 0])))) HK.out ((Below.refl _ w3).alloc (by first | exact Nat.le_refl _ | (simp; done) | (simp; omega)) (.cells #[.int .i64 0, .int .i64 1, .int .i64 0] 3)) (.tuple #[.int .u64 1, .bool true]) (place_lit (xs := [2, 1]) (os := [0, 1, 0]) ((stab_rd (Sh.int .i64) (some ⟨w.heap.size, 0, none⟩) [2, 1]) w3 (w3.alloc (.cells #[.int .i64 0, .int .i64 1, .int .i64 0] 3)) HK.out.2.1 ((Below.refl _ w3).alloc (by first | exact Nat.le_refl _ | (simp; done) | (simp; omega)) (.cells #[.int .i64 0, .int .i64 1, .int .i64 0] 3))) rfl (by decide) (by decide) (lit_at [0, 1, 0] (Blk.new_at (w := w3) (g := w3.heap.size) (by simp) 3 #[.int .i64 0, .int .i64 1, .int .i64 0]) (by first | (simp; done) | (simp; omega))) rfl (by decide) (by decide) pla010) (rfl)).mono ?_
  rintro e w4 ⟨rfl, hK⟩
  have HK' := hide hK
  clear hK HK
  have HK := HK'
  clear HK'
  go_wp2_with fail
  refine (Stab.call (K := (fun W => Below w.heap.size w W ∧ Rd (Sh.int .i64) W W.heap.size (some ⟨w.heap.size, 0, none⟩) [2, 1] ∧ Rd (Sh.int .i64) W W.heap.size A1 [0, 0, 1] ∧ Rd (Sh.int .i64) W W.heap.size A2 [1, 0, 0])) (stab_and (stab_below w) (stab_and (stab_rd (Sh.int .i64) (some ⟨w.heap.size, 0, none⟩) [2, 1]) (stab_and (stab_rd (Sh.int .i64) A1 [0, 0, 1]) (stab_rd (Sh.int .i64) A2 [1, 0, 0])))) HK.out ((Below.refl _ w4).alloc (by first | exact Nat.le_refl _ | (simp; done) | (simp; omega)) (.cells #[.int .i64 0, .int .i64 1, .int .i64 1] 3)) (.tuple #[.int .u64 0, .bool false]) (place_lit_no (xs := [2, 1]) (os := [0, 1, 1]) ((stab_rd (Sh.int .i64) (some ⟨w.heap.size, 0, none⟩) [2, 1]) w4 (w4.alloc (.cells #[.int .i64 0, .int .i64 1, .int .i64 1] 3)) HK.out.2.1 ((Below.refl _ w4).alloc (by first | exact Nat.le_refl _ | (simp; done) | (simp; omega)) (.cells #[.int .i64 0, .int .i64 1, .int .i64 1] 3))) rfl (by decide) (by decide) (lit_at [0, 1, 1] (Blk.new_at (w := w4) (g := w4.heap.size) (by simp) 3 #[.int .i64 0, .int .i64 1, .int .i64 1]) (by first | (simp; done) | (simp; omega))) rfl (by decide) (by decide) pla011) (rfl)).mono ?_
  rintro e w5 ⟨rfl, hK⟩
  have HK' := hide hK
  clear hK HK
  have HK := HK'
  clear HK'
  go_wp2_with fail
  refine (acts_any (some ⟨w5.heap.size, 0, none⟩) 1 1 [3] _ (lit_at [3] (Blk.new_at (w := w5) (g := w5.heap.size) (by simp) 3 #[.int .i64 3]) (by first | (simp; done) | (simp; omega))) rfl (by decide) (by decide) (by decide)).mono ?_
  rintro e w6 ⟨ga, rfl, _, hA, hb⟩
  have hb := Below.step ((Below.refl _ w5).alloc (by first | exact Nat.le_refl _ | (simp; done) | (simp; omega)) (.cells #[.int .i64 3] 3)) hb
  have HA : ActAt [3] ga w6 := ⟨hA.lt, hA⟩
  clear hA
  have HK1 : Hid (Below w.heap.size w w6 ∧ Rd (Sh.int .i64) w6 w6.heap.size (some ⟨w.heap.size, 0, none⟩) [2, 1] ∧ Rd (Sh.int .i64) w6 w6.heap.size A1 [0, 0, 1] ∧ Rd (Sh.int .i64) w6 w6.heap.size A2 [1, 0, 0] ∧ ActAt [3] ga w6) := hide ⟨((stab_below w) w5 w6 HK.out.1 hb), ((stab_rd (Sh.int .i64) (some ⟨w.heap.size, 0, none⟩) [2, 1]) w5 w6 HK.out.2.1 hb), ((stab_rd (Sh.int .i64) A1 [0, 0, 1]) w5 w6 HK.out.2.2.1 hb), ((stab_rd (Sh.int .i64) A2 [1, 0, 0]) w5 w6 HK.out.2.2.2 hb), HA⟩
  clear HK hb
  have HK := HK1
  clear HK1
  clear HA
  go_wp2_with fail
  refine (Stab.call (K := (fun W => Below w.heap.size w W ∧ Rd (Sh.int .i64) W W.heap.size (some ⟨w.heap.size, 0, none⟩) [2, 1] ∧ Rd (Sh.int .i64) W W.heap.size A1 [0, 0, 1] ∧ Rd (Sh.int .i64) W W.heap.size A2 [1, 0, 0] ∧ ActAt [3] ga W)) (stab_and (stab_below w) (stab_and (stab_rd (Sh.int .i64) (some ⟨w.heap.size, 0, none⟩) [2, 1]) (stab_and (stab_rd (Sh.int .i64) A1 [0, 0, 1]) (stab_and (stab_rd (Sh.int .i64) A2 [1, 0, 0]) (stab_act [3] ga))))) HK.out (Below.refl _ w6) (.int .u64 3) (count_lit (xs := [2, 1]) ((stab_rd (Sh.int .i64) (some ⟨w.heap.size, 0, none⟩) [2, 1]) w6 w6 HK.out.2.1 (Below.refl _ w6)) rfl (by decide) (by decide) cnt21) (rfl)).mono ?_
  rintro e w7 ⟨rfl, hK⟩
  have HK' := hide hK
  clear hK HK
  have HK := HK'
  clear HK'
  go_wp2_with fail
  refine (Stab.call (K := (fun W => Below w.heap.size w W ∧ Rd (Sh.int .i64) W W.heap.size (some ⟨w.heap.size, 0, none⟩) [2, 1] ∧ Rd (Sh.int .i64) W W.heap.size A1 [0, 0, 1] ∧ Rd (Sh.int .i64) W W.heap.size A2 [1, 0, 0] ∧ ActAt [3] ga W)) (stab_and (stab_below w) (stab_and (stab_rd (Sh.int .i64) (some ⟨w.heap.size, 0, none⟩) [2, 1]) (stab_and (stab_rd (Sh.int .i64) A1 [0, 0, 1]) (stab_and (stab_rd (Sh.int .i64) A2 [1, 0, 0]) (stab_act [3] ga))))) HK.out ((Below.refl _ w7).alloc (by first | exact Nat.le_refl _ | (simp; done) | (simp; omega)) (.cells #[.int .i64 20, .int .i64 20, .int .i64 20] 3)) (.int .u64 18446744073709551615) (count_lit (xs := [20, 20, 20]) (lit_at [20, 20, 20] (Blk.new_at (w := w7) (g := w7.heap.size) (by simp) 3 #[.int .i64 20, .int .i64 20, .int .i64 20]) (by first | (simp; done) | (simp; omega))) rfl (by decide) (by decide) cnt20) (rfl)).mono ?_
  rintro e w8 ⟨rfl, hK⟩
  have HK' := hide hK
  clear hK HK
  have HK := HK'
  clear HK'
  go_wp2_with fail
  refine (Stab.call (K := (fun W => Below w.heap.size w W ∧ Rd (Sh.int .i64) W W.heap.size (some ⟨w.heap.size, 0, none⟩) [2, 1] ∧ Rd (Sh.int .i64) W W.heap.size A1 [0, 0, 1] ∧ Rd (Sh.int .i64) W W.heap.size A2 [1, 0, 0] ∧ ActAt [3] ga W)) (stab_and (stab_below w) (stab_and (stab_rd (Sh.int .i64) (some ⟨w.heap.size, 0, none⟩) [2, 1]) (stab_and (stab_rd (Sh.int .i64) A1 [0, 0, 1]) (stab_and (stab_rd (Sh.int .i64) A2 [1, 0, 0]) (stab_act [3] ga))))) HK.out ((Below.refl _ w8).alloc (by first | exact Nat.le_refl _ | (simp; done) | (simp; omega)) (.cells #[.int .i64 65] 3)) (.int .u64 0) (count_lit (xs := [65]) (lit_at [65] (Blk.new_at (w := w8) (g := w8.heap.size) (by simp) 3 #[.int .i64 65]) (by first | (simp; done) | (simp; omega))) rfl (by decide) (by decide) cnt65) (rfl)).mono ?_
  rintro e w9 ⟨rfl, hK⟩
  have HK' := hide hK
  clear hK HK
  have HK := HK'
  clear HK'
  go_wp2_with fail
  refine (Stab.call (K := (fun W => Below w.heap.size w W ∧ Rd (Sh.int .i64) W W.heap.size (some ⟨w.heap.size, 0, none⟩) [2, 1] ∧ Rd (Sh.int .i64) W W.heap.size A1 [0, 0, 1] ∧ Rd (Sh.int .i64) W W.heap.size A2 [1, 0, 0] ∧ ActAt [3] ga W)) (stab_and (stab_below w) (stab_and (stab_rd (Sh.int .i64) (some ⟨w.heap.size, 0, none⟩) [2, 1]) (stab_and (stab_rd (Sh.int .i64) A1 [0, 0, 1]) (stab_and (stab_rd (Sh.int .i64) A2 [1, 0, 0]) (stab_act [3] ga))))) HK.out ((Below.refl _ w9).alloc (by first | exact Nat.le_refl _ | (simp; done) | (simp; omega)) (.cells #[.int .i64 (-1)] 3)) (.int .u64 1) (count_lit (xs := [-1]) (lit_at [-1] (Blk.new_at (w := w9) (g := w9.heap.size) (by simp) 3 #[.int .i64 (-1)]) (by first | (simp; done) | (simp; omega))) rfl (by decide) (by decide) cntm1) (rfl)).mono ?_
  rintro e w10 ⟨rfl, hK⟩
  have HK' := hide hK
  clear hK HK
  have HK := HK'
  clear HK'
  go_wp2_with fail
  refine (Stab.call (K := (fun W => Below w.heap.size w W ∧ Rd (Sh.int .i64) W W.heap.size (some ⟨w.heap.size, 0, none⟩) [2, 1] ∧ Rd (Sh.int .i64) W W.heap.size A1 [0, 0, 1] ∧ Rd (Sh.int .i64) W W.heap.size A2 [1, 0, 0] ∧ ActAt [3] ga W)) (stab_and (stab_below w) (stab_and (stab_rd (Sh.int .i64) (some ⟨w.heap.size, 0, none⟩) [2, 1]) (stab_and (stab_rd (Sh.int .i64) A1 [0, 0, 1]) (stab_and (stab_rd (Sh.int .i64) A2 [1, 0, 0]) (stab_act [3] ga))))) HK.out ((Below.refl _ w10).alloc (by first | exact Nat.le_refl _ | (simp; done) | (simp; omega)) (.cells #[.int .i64 0, .int .i64 0, .int .i64 1] 3)) (.bool true) (calls_drew (sameInts_any A1 (some ⟨w10.heap.size, 0, none⟩) 3 c1 3 3 [0, 0, 1] [0, 0, 1] _ ((stab_rd (Sh.int .i64) A1 [0, 0, 1]) w10 (w10.alloc (.cells #[.int .i64 0, .int .i64 0, .int .i64 1] 3)) HK.out.2.2.1 ((Below.refl _ w10).alloc (by first | exact Nat.le_refl _ | (simp; done) | (simp; omega)) (.cells #[.int .i64 0, .int .i64 0, .int .i64 1] 3))) rfl hn1 hm1 (lit_at [0, 0, 1] (Blk.new_at (w := w10) (g := w10.heap.size) (by simp) 3 #[.int .i64 0, .int .i64 0, .int .i64 1]) (by first | (simp; done) | (simp; omega))) rfl (by decide) (by decide))) (congrArg Value.bool (by decide))).mono ?_
  rintro e w11 ⟨rfl, hK⟩
  have HK' := hide hK
  clear hK HK
  have HK := HK'
  clear HK'
  go_wp2_with fail
  refine (Stab.call (K := (fun W => Below w.heap.size w W ∧ Rd (Sh.int .i64) W W.heap.size (some ⟨w.heap.size, 0, none⟩) [2, 1] ∧ Rd (Sh.int .i64) W W.heap.size A1 [0, 0, 1] ∧ Rd (Sh.int .i64) W W.heap.size A2 [1, 0, 0] ∧ ActAt [3] ga W)) (stab_and (stab_below w) (stab_and (stab_rd (Sh.int .i64) (some ⟨w.heap.size, 0, none⟩) [2, 1]) (stab_and (stab_rd (Sh.int .i64) A1 [0, 0, 1]) (stab_and (stab_rd (Sh.int .i64) A2 [1, 0, 0]) (stab_act [3] ga))))) HK.out ((Below.refl _ w11).alloc (by first | exact Nat.le_refl _ | (simp; done) | (simp; omega)) (.cells #[.int .i64 1, .int .i64 0, .int .i64 0] 3)) (.bool true) (calls_drew (sameInts_any A2 (some ⟨w11.heap.size, 0, none⟩) 3 c2 3 3 [1, 0, 0] [1, 0, 0] _ ((stab_rd (Sh.int .i64) A2 [1, 0, 0]) w11 (w11.alloc (.cells #[.int .i64 1, .int .i64 0, .int .i64 0] 3)) HK.out.2.2.2.1 ((Below.refl _ w11).alloc (by first | exact Nat.le_refl _ | (simp; done) | (simp; omega)) (.cells #[.int .i64 1, .int .i64 0, .int .i64 0] 3))) rfl hn2 hm2 (lit_at [1, 0, 0] (Blk.new_at (w := w11) (g := w11.heap.size) (by simp) 3 #[.int .i64 1, .int .i64 0, .int .i64 0]) (by first | (simp; done) | (simp; omega))) rfl (by decide) (by decide))) (congrArg Value.bool (by decide))).mono ?_
  rintro e w12 ⟨rfl, hK⟩
  have HK' := hide hK
  clear hK HK
  have HK := HK'
  clear HK'
  have a0 : w12.cell? ⟨ga, 0, none⟩ = some (.int .i64 3) := by rw [HK.out.2.2.2.2.2.cell]; rfl
  have a1 : w12.cell? ⟨ga, 1, none⟩ = some (.int .i64 0) := by rw [HK.out.2.2.2.2.2.cell]; rfl
  go_wp2_with fail
  go_ret
  exact ⟨rfl, HK.out.1⟩
end Go.Proofs.Ytpnekmkbedhooaa
