/-
  The package quant: which books are right. Conditions: the slices read as books: lists of parts, lists of lists of int32s.
-/
import Derived.Test.YtojanklgjdjniacVecD
import Derived.Test.YtojanklgjdjniacLib3
namespace Go.Proofs.Ytojanklgjdjniac
open Go.RowKit

abbrev Part : Type := List (List Int)
abbrev Book : Type := List Part
abbrev SPart : Sh (List (List Int)) := Sh.list (Sh.list (Sh.int .i32))
/-- a part's components -/
def dim0 (p : Part) : Nat := (p.getD 0 []).length
def rightB (p : Part) : Bool := decide (1 ≤ p.length ∧ p.length ≤ 256) && p.all fun c => vecOk c (dim0 p)
/-- the components of the first k parts -/
def sumK (b : Book) : Nat → Nat
  | 0 => 0
  | k + 1 => sumK b k + dim0 (b.getD k [])
theorem sumK_snoc {b : Book} {k : Nat} {p : Part} (h : b[k]? = some p) : sumK b (k + 1) = sumK b k + dim0 p := by simp [sumK, List.getD_eq_getElem?_getD, h]
theorem sumK_mono (b : Book) {j k : Nat} (h : j ≤ k) : sumK b j ≤ sumK b k := by
  induction k with
  | zero => obtain rfl : j = 0 := by omega
            exact Nat.le_refl _
  | succ k ih =>
    rcases Nat.lt_or_ge j (k + 1) with h' | h'
    · have := ih (by omega); simp only [sumK]; omega
    · obtain rfl : j = k + 1 := by omega
      exact Nat.le_refl _
def chkB (b : Book) : Bool := decide (1 ≤ b.length ∧ b.length ≤ 64) && (b.all rightB && decide (sumK b b.length ≤ 4096))
def chkE (b : Book) : Int := if chkB b then 0 else 7
def dimOf (b : Book) : Nat := if chkB b then sumK b b.length else 0
def fitE (b : Book) (v : List Int) : Int := if chkB b then errOf (vecOk v (dimOf b)) else 7
theorem chk_no_right {b : Book} {k : Nat} {p : Part} (h : b[k]? = some p) (hr : rightB p = false) : chkE b = 7 := by
  have : b.all rightB = false := by rw [List.all_eq_false]; exact ⟨p, List.mem_of_getElem? h, by rw [hr]; simp⟩
  simp [chkE, chkB, this]
theorem chk_no_sum {b : Book} {k : Nat} (hk : k ≤ b.length) (h : 4096 < sumK b k) : chkE b = 7 := by
  have := sumK_mono b hk
  have : decide (sumK b b.length ≤ 4096) = false := decide_eq_false (by omega)
  simp [chkE, chkB, this]
theorem chk_no_len {b : Book} (h : ¬ (1 ≤ b.length ∧ b.length ≤ 64)) : chkE b = 7 := by
  simp only [chkE, chkB, decide_eq_false h, Bool.false_and]; rfl
theorem chk_yes {b : Book} (h : 1 ≤ b.length ∧ b.length ≤ 64) (hr : ∀ (k : Nat) (p : Part), b[k]? = some p → rightB p = true) (hs : sumK b b.length ≤ 4096) : chkE b = 0 := by
  have : b.all rightB = true := by
    rw [List.all_eq_true]; intro p hp
    obtain ⟨k, hk⟩ := List.getElem?_of_mem hp
    exact hr k p hk
  simp only [chkE, chkB, decide_eq_true h, this, decide_eq_true hs]; rfl
theorem right_dim {p : Part} (h : rightB p = true) : ∃ c, p[0]? = some c ∧ c.length = dim0 p ∧ 1 ≤ p.length := by
  unfold rightB at h
  rw [Bool.and_eq_true] at h
  have h1 := of_decide_eq_true h.1
  rcases p with _ | ⟨c, p⟩
  · simp at h1
  · exact ⟨c, rfl, rfl, by simp⟩
theorem chk_right {b : Book} (h : chkB b = true) : (1 ≤ b.length ∧ b.length ≤ 64) ∧ (∀ p ∈ b, rightB p = true) ∧ sumK b b.length ≤ 4096 := by
  unfold chkB at h
  rw [Bool.and_eq_true, Bool.and_eq_true, List.all_eq_true] at h
  exact ⟨of_decide_eq_true h.1, h.2.1, of_decide_eq_true h.2.2⟩
theorem vecOk_len {xs : List Int} {d : Int} (h : vecOk xs d = true) : (xs.length : Int) = d := by
  unfold vecOk at h
  rw [Bool.and_eq_true] at h
  exact (of_decide_eq_true h.1).2.2

set_option maxHeartbeats 1000000 in
theorem right1_any (A : Option Addr) (n c : Nat) (xs : List Int) (b3 d : Nat) (w : World) (h3 : Blk w b3 3 #[.int .i64 (d : Int)]) (hx : I32s w w.heap.size A xs) (hn : xs.length = n) (hc : n ≤ c) (hm : c ≤ 9223372036854775807) :
    Calls Try.prog 31 #[.slice A n c, .pointer (some ⟨b3, 0, none⟩)] w fun e w' => e = .returned (.bool (!vecOk xs d)) ∧ w = w' := by
  have z0 : w.cell? ⟨b3, 0, none⟩ = some (.int .i64 (d : Int)) := h3.cell 0
  by_cases hd : n = d
  · subst hd
    have HC := hide (check_any A n c xs n w hx hn hc hm)
    clear hx h3
    cases hv : vecOk xs n
    · rw [hv] at HC
      go_enter Try.func31, Try.ntmps31
      go_wp2_with (go_at_call 9; refine HC.out.mono ?_; rintro e w1 ⟨rfl, rfl⟩; simp only [errOf])
      go_ret
      exact ⟨rfl, rfl⟩
    · rw [hv] at HC
      go_enter Try.func31, Try.ntmps31
      go_wp2_with (go_at_call 9; refine HC.out.mono ?_; rintro e w1 ⟨rfl, rfl⟩; simp only [errOf])
      go_ret
      exact ⟨rfl, rfl⟩
  · have HV := hide (show vecOk xs d = false from by
      cases h : vecOk xs d with
      | false => rfl
      | true => exact absurd (vecOk_len h) (by omega))
    have hb : ((n : Int) != d) = true := by rw [bne_iff_ne]; omega
    clear hx h3 hn hd
    go_enter Try.func31, Try.ntmps31
    go_wp2
    go_ret
    exact ⟨by rw [HV.out]; rfl, rfl⟩
set_option maxHeartbeats 1000000 in
theorem indexRight_any (A : Option Addr) (n c : Nat) (p : Part) (b3 d : Nat) (w : World) (h3 : Blk w b3 3 #[.int .i64 (d : Int)]) (hx : Rd (Sh.list (Sh.int .i32)) w w.heap.size A p) (hn : p.length = n) (hc : n ≤ c) (hm : c ≤ 9223372036854775807) :
    Calls Try.prog 33 #[.slice A n c, .func (.func 31) #[] #[.pointer (some ⟨b3, 0, none⟩)]] w fun e w' => (∃ r, e = .returned (.int .i64 r) ∧ Idx (p.any fun v => !vecOk v d) r) ∧ w = w' := by
  have HX := hide hx
  have Hn := hide hn
  have H3 := hide h3
  clear hx hn h3
  go_enter Try.func33, Try.ntmps33
  go_wp2
  go_loopw [8] (fun i wr => ∃ k : Nat, k ≤ n ∧ i = .int .i64 k ∧ Hid ((p.take k).any (fun v => !vecOk v d) = false) ∧ w = wr) (fun i _ => n - (intOf i).toNat)
  case atStart => exact ⟨0, by omega, rfl, hide (by simp), by first | rfl | trivial⟩
  case round =>
    obtain ⟨k, hk, rfl, ht, rfl⟩ := hrel
    by_cases hlt : k < n
    · obtain ⟨ad, v, A', c', rfl, _, hv, q0, hl1, hl2, hr⟩ := HX.out.slc (k := k) (by have := Hn.out; omega)
      have h0 : (0 : Int) ≤ k := by omega
      have h1 : (k : Int) < n := by omega
      have CC := hide (right1_any A' v.length c' v b3 d w H3.out hr rfl hl1 hl2)
      generalize hvl : v.length = nv at *
      have HVL := hide hvl
      cases ho : vecOk v d
      · have HF := hide (show p.any (fun v => !vecOk v d) = true from List.any_eq_true.2 ⟨v, List.mem_of_getElem? hv, by rw [ho]; rfl⟩)
        rw [ho] at CC
        clear hr hv ho hvl
        go_wp2_with (go_at_call 31; refine CC.out.mono ?_; rintro e w' ⟨rfl, rfl⟩)
        go_ret
        exact ⟨⟨k, rfl, by unfold Idx; rw [HF.out, decide_eq_true h0]⟩, rfl⟩
      · have HT := hide (show (p.take (k + 1)).any (fun v => !vecOk v d) = false by rw [List.take_add_one, hv]; simp only [List.any_append, ht.out, Bool.false_or]; simp [ho])
        rw [ho] at CC
        clear hr hv ho hvl
        go_wp2_with (go_at_call 31; refine CC.out.mono ?_; rintro e w' ⟨rfl, rfl⟩)
        go_roundw
        case rel => exact ⟨k + 1, by omega, by go_num, HT, by first | rfl | trivial⟩
        case measure => simp [intOf]; omega
    · obtain rfl : k = n := by omega
      have HF := hide (show p.any (fun v => !vecOk v d) = false by have := ht.out; rwa [List.take_of_length_le (by rw [Hn.out]; omega)] at this)
      go_wp2
      go_ret
      exact ⟨⟨-1, rfl, by unfold Idx; rw [HF.out]; rfl⟩, rfl⟩
theorem containsRight_any (A : Option Addr) (n c : Nat) (p : Part) (b3 d : Nat) (w : World) (h3 : Blk w b3 3 #[.int .i64 (d : Int)]) (hx : Rd (Sh.list (Sh.int .i32)) w w.heap.size A p) (hn : p.length = n) (hc : n ≤ c) (hm : c ≤ 9223372036854775807) :
    Calls Try.prog 30 #[.slice A n c, .func (.func 31) #[] #[.pointer (some ⟨b3, 0, none⟩)]] w fun e w' => e = .returned (.bool (p.any fun v => !vecOk v d)) ∧ w = w' := by
  have HC := hide (indexRight_any A n c p b3 d w h3 hx hn hc hm)
  clear hx hn h3
  go_enter Try.func30, Try.ntmps30
  go_wp2_with (go_at_call 33; refine HC.out.mono ?_; rintro e w' ⟨⟨r, rfl, hr⟩, rfl⟩)
  go_ret
  exact ⟨by rw [← hr]; rfl, rfl⟩
theorem rightB_eq {p : Part} (h : 1 ≤ p.length ∧ p.length ≤ 256) : rightB p = !(p.any fun v => !vecOk v (dim0 p)) := by
  unfold rightB
  rw [decide_eq_true h, Bool.true_and, Bool.eq_iff_iff]
  simp
set_option maxHeartbeats 1000000 in
theorem right_any (A : Option Addr) (n c : Nat) (p : Part) (w : World) (hx : Rd (Sh.list (Sh.int .i32)) w w.heap.size A p) (hn : p.length = n) (hc : n ≤ c) (hm : c ≤ 9223372036854775807) :
    Calls Try.prog 21 #[.slice A n c] w fun e w' => e = .returned (.bool (rightB p)) ∧ Below w.heap.size w w' := by
  by_cases h1 : n < 1
  · have HR := hide (show rightB p = false by unfold rightB; rw [decide_eq_false (by omega), Bool.false_and])
    have g1 : (n : Int) < 1 := by omega
    clear hx
    go_enter Try.func21, Try.ntmps21
    go_wp2
    go_ret
    exact ⟨by rw [HR.out]; rfl, Below.refl _ _⟩
  have g1 : ¬ (n : Int) < 1 := by omega
  by_cases h2 : 256 < n
  · have HR := hide (show rightB p = false by unfold rightB; rw [decide_eq_false (by omega), Bool.false_and])
    have g2 : (256 : Int) < n := by omega
    clear hx
    go_enter Try.func21, Try.ntmps21
    go_wp2
    go_ret
    exact ⟨by rw [HR.out]; rfl, Below.refl _ _⟩
  have g2 : ¬ (256 : Int) < n := by omega
  have HR := hide (rightB_eq (p := p) (by omega))
  obtain ⟨ad, v, A', c', rfl, hadl, hv, q0, hl1, hl2, hr⟩ := hx.slc (k := 0) (by omega)
  have e : dim0 p = v.length := by simp [dim0, List.getD_eq_getElem?_getD, hv]
  rw [e] at HR
  generalize v.length = d at *
  have g3 : (0 : Int) < n := by omega
  have HB := hide (below1 w (.cells #[.int .i64 (d : Int)] 3))
  have H3 := hide (Blk.new w 3 #[.int .i64 (d : Int)])
  have HC := hide (containsRight_any (some ad) n c p w.heap.size d (w.alloc (.cells #[.int .i64 (d : Int)] 3)) H3.out ((hx.alloc (Nat.le_refl _) _).more (by simp)) hn hc hm)
  rw [add_zero'] at q0
  clear hr hv hx e hn
  go_enter Try.func21, Try.ntmps21
  go_wp2_with (go_at_call 30; refine HC.out.mono ?_; rintro e w' ⟨rfl, rfl⟩)
  go_ret
  exact ⟨by rw [HR.out]; rfl, HB.out⟩
end Go.Proofs.Ytojanklgjdjniac
