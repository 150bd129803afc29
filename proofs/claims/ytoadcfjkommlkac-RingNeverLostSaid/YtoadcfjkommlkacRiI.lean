/-
  The package ring: the mutexes that are needed, and the document's; New. Conditions: the slice reads as a list of words.
-/
import Derived.Test.YtoadcfjkommlkacRiH
namespace Go.Proofs.Ytoadcfjkommlkac
set_option linter.unusedSimpArgs false
set_option linter.unusedVariables false
open Go.RowKit

/-- what stands at hand of a slot: Next and Prev, or the head's Next -/
def nearW (ws : List Int) (s : Int) : Int × Int := if (atW ws s).1 < 0 then ((atW ws 0).1, -1) else atW ws s
/-- the mutexes -/
def lockW (ws : List Int) (s : Int) : List Int :=
  if s < 1 ∨ (ws.length : Int) ≤ s then [] else ddI (srtI (nnF [0, s, (nearW ws s).1, (nearW ws s).2]))
def refLockW (s n p : Int) : List Int := ((List.range (max (max n p) s + 1).toNat).map Int.ofNat).filter fun i => decide (i = 0 ∨ i = s ∨ i = n ∨ i = p)
theorem ddI_pw {l : List Int} (h : l.Pairwise (· ≤ ·)) : (ddI l).Pairwise (· < ·) := by
  refine snoc_indI (P := fun l => l.Pairwise (· ≤ ·) → (ddI l).Pairwise (· < ·)) ?_ ?_ l h
  · intro _; simp [ddI]
  · intro l x ih h
    rw [List.pairwise_append] at h
    obtain ⟨h1, _, h3⟩ := h
    rw [ddI_snoc]
    split
    · exact ih h1
    · next hne =>
      refine List.pairwise_append.2 ⟨ih h1, by simp, fun y hy z hz => ?_⟩
      rw [List.mem_singleton.1 hz]
      have hy2 := (ddI_mem l y).1 hy
      have hle := h3 y hy2 x (by simp)
      rcases Int.lt_or_eq_of_le hle with h | h
      · exact h
      · exfalso
        subst h
        -- y is in l, the last of l is no less, and no more than y
        obtain ⟨z, hz'⟩ : ∃ z, l.getLast? = some z := by
          cases hl : l.getLast? with
          | none => rw [List.getLast?_eq_none_iff] at hl; subst hl; simp at hy2
          | some z => exact ⟨z, rfl⟩
        have hzl : z ∈ l := List.mem_of_getLast? hz'
        have h4 := h3 z hzl y (by simp)
        have h5 : y ≤ z := by
          rw [List.getLast?_eq_getElem?] at hz'
          obtain ⟨i, hi⟩ := List.getElem?_of_mem hy2
          have hi' := (List.getElem?_eq_some_iff.1 hi)
          have hz2 := (List.getElem?_eq_some_iff.1 hz')
          obtain ⟨a, b⟩ := hi'
          obtain ⟨c, d⟩ := hz2
          by_cases e : i = l.length - 1
          · subst e
            rw [b] at d
            omega
          · have := (List.pairwise_iff_getElem.1 h1) i (l.length - 1) a c (by omega)
            rw [b, d] at this
            exact this
        have : z = y := by omega
        subst this
        rw [ddI_last] at hne
        exact hne hz'
theorem lt_uniq {l m : List Int} (h1 : l.Pairwise (· < ·)) (h2 : m.Pairwise (· < ·)) (h : ∀ x, x ∈ l ↔ x ∈ m) : l = m :=
  List.Perm.eq_of_pairwise (le := fun a b => a < b) (fun a b _ _ x y => by omega) h1 h2 ((List.perm_ext_iff_of_nodup (h1.imp fun h => by omega) (h2.imp fun h => by omega)).2 h)
theorem lock_eq {s n p : Int} (hs : 1 ≤ s) : ddI (srtI (nnF [0, s, n, p])) = refLockW s n p := by
  refine lt_uniq (ddI_pw (srtI_pw _)) ?_ fun x => ?_
  · unfold refLockW
    refine List.Pairwise.sublist List.filter_sublist ?_
    rw [List.pairwise_map]
    exact List.pairwise_lt_range.imp fun h => by simp only [Int.ofNat_eq_natCast]; omega
  · rw [ddI_mem, (srtI_perm _).mem_iff]
    unfold nnF refLockW
    simp only [List.mem_filter, List.mem_cons, List.not_mem_nil, or_false, decide_eq_true_eq, List.mem_map, List.mem_range]
    constructor
    · rintro ⟨h, h0⟩
      refine ⟨⟨x.toNat, by omega, by simp only [Int.ofNat_eq_natCast]; omega⟩, h⟩
    · rintro ⟨⟨a, ha, rfl⟩, h⟩
      exact ⟨h, by simp only [Int.ofNat_eq_natCast]; omega⟩
section
variable (A : Option Addr) (n c : Nat) (ws : List Int) (s : Int) (w : World) (hx : Rd (Sh.int .u64) w w.heap.size A ws) (hn : ws.length = n) (hu : ∀ x ∈ ws, U64 x)
include hx hn hu
set_option maxHeartbeats 4000000 in
theorem locks_any : Calls Try.prog 21 #[.slice A n c, .int .i64 s] w fun e w' => ∃ v, e = .returned v ∧ NewInts .i64 w (lockW ws s) v w' := by
  have HAs := hide (at_any A n c ws s w hx hn hu)
  have HN0 := hide (next_any A n c ws 0 w hx hn hu)
  have HJ := hide (show lockW ws s = _ by unfold lockW nearW; rfl)
  rw [hn] at HJ
  generalize (atW ws 0).1 = m0 at *
  generalize ha : atW ws s = r at *
  obtain ⟨n0, p0⟩ := r
  simp only at *
  clear hx hn hu ha
  by_cases h1 : s < 1
  · have b1 : decide (s < 1) = true := decide_eq_true h1
    have HE := hide (HJ.out.trans (if_pos (.inl h1)))
    rw [HE.out]
    go_enter Try.func21, Try.ntmps21
    go_wp2
    go_ret
    exact ⟨_, rfl, NewInts.nil (Below.refl _ _)⟩
  have b1 : decide (s < 1) = false := decide_eq_false h1
  obtain ⟨k, rfl⟩ : ∃ k : Nat, s = k := ⟨s.toNat, by omega⟩
  by_cases h2 : n ≤ k
  · have b2 : decide (n ≤ k) = true := decide_eq_true h2
    have b3 : decide ((n : Int) ≤ k) = true := decide_eq_true (by omega)
    have HE := hide (HJ.out.trans (if_pos (.inr (by omega))))
    rw [HE.out]
    go_enter Try.func21, Try.ntmps21
    go_wp2
    go_ret
    exact ⟨_, rfl, NewInts.nil (Below.refl _ _)⟩
  have b2 : decide (n ≤ k) = false := decide_eq_false h2
  have b3 : decide ((n : Int) ≤ k) = false := decide_eq_false (by omega)
  have HE := hide (HJ.out.trans (if_neg (fun h => by omega)))
  rw [HE.out]
  by_cases h3 : n0 < 0
  · have b4 : decide (n0 < 0) = true := decide_eq_true h3
    rw [if_pos h3]
    simp only
    have hT : ([0, (k : Int), m0, (-1)] : List Int).length = 4 := rfl
    have HR4 := hide (show RowN (w.alloc (.cells #[.int .i64 0, .int .i64 k, .int .i64 m0, .int .i64 (-1)] 3)) w.heap.size w.heap.size 4 4 [0, (k : Int), m0, (-1)] from own_of_blk (cs := [.int .i64 0, .int .i64 k, .int .i64 m0, .int .i64 (-1)]) (Blk.new w 3 _) (Nat.le_refl _) rfl (by decide))
    have HB4 := hide (below1 w (.cells #[.int .i64 0, .int .i64 k, .int .i64 m0, .int .i64 (-1)] 3))
    have Hml := hide (List.length_filter_le (fun y => decide (0 ≤ y)) [0, (k : Int), m0, (-1)])
    have Hd := hide (ddI_len (srtI (nnF [0, (k : Int), m0, (-1)])))
    generalize hTe : [0, (k : Int), m0, (-1)] = T at *
    have Hsl := hide (srtI_len (nnF T))
    clear hTe h3
    go_enter Try.func21, Try.ntmps21
    go_upto_region 7 with (first
      | (go_at_call 6; refine HAs.out.mono ?_; rintro e _ ⟨rfl, rfl⟩)
      | (go_at_call 27; refine HN0.out.mono ?_; rintro e _ ⟨rfl, rfl⟩)
      | (go_at_call 36; refine (deleteNeg_any w.heap.size w.heap.size 4 4 T _ HR4.out (by omega)).mono ?_; rintro e w5 ⟨rfl, hr5, hb5⟩; have HR5 := hide hr5; have HB5 := hide (Below.trans HB4.out hb5); clear hr5 hb5))
    obtain ⟨m, hm⟩ : ∃ m, (nnF T).length = m := ⟨_, rfl⟩
    have Hm := hide hm
    have hm4 : m ≤ 4 := by have h := Hml.out; unfold nnF at hm; rw [hm] at h; rw [hT] at h; exact h
    rw [hm] at HR5 Hsl ⊢
    have HS5 := hide (show w5.ownsRow w.heap.size 3 1 (.slice (some ⟨w.heap.size, 0, none⟩) m 4) m ((nnF T).map (Value.int .i64)) by have h := HR5.out; unfold RowN at h; rwa [fcsI] at h)
    clear hm
    go_wp2_with (first
      | (go_at_call 38; refine (sortI_any w.heap.size _ m (nnF T) w5 HS5.out (by omega)).mono ?_; rintro e w6 ⟨rfl, ho6, hg6⟩; have HR6 := hide (show RowN w6 w.heap.size w.heap.size m 4 (srtI (nnF T)) by unfold RowN; rw [fcsI]; exact ho6); have HB6 := hide (below_own HB5.out HS5.out HB5.out.size hg6); clear ho6 hg6)
      | (go_at_call 39; refine (compactI_any w.heap.size w.heap.size 4 m (srtI (nnF T)) w6 HR6.out (by omega) (by omega)).mono ?_; rintro e w7 ⟨rfl, hr7, hb7⟩; have HR7 := hide hr7; have HB7 := hide (Below.trans HB6.out hb7); have HZ7 := hide hb7.size; clear hr7 hb7))
    go_ret
    exact ⟨_, rfl, some ⟨w.heap.size, 0, none⟩, _, 4, rfl, rfl, by have := Hd.out; have := Hsl.out; omega, by omega, HR7.out _ ⟨Nat.le_refl _, by have h1 := HR6.out.lt; have h2 := HZ7.out; omega⟩, HB7.out⟩
  · have b4 : decide (n0 < 0) = false := decide_eq_false h3
    rw [if_neg h3]
    simp only
    have hT : ([0, (k : Int), n0, p0] : List Int).length = 4 := rfl
    have HR4 := hide (show RowN (w.alloc (.cells #[.int .i64 0, .int .i64 k, .int .i64 n0, .int .i64 p0] 3)) w.heap.size w.heap.size 4 4 [0, (k : Int), n0, p0] from own_of_blk (cs := [.int .i64 0, .int .i64 k, .int .i64 n0, .int .i64 p0]) (Blk.new w 3 _) (Nat.le_refl _) rfl (by decide))
    have HB4 := hide (below1 w (.cells #[.int .i64 0, .int .i64 k, .int .i64 n0, .int .i64 p0] 3))
    have Hml := hide (List.length_filter_le (fun y => decide (0 ≤ y)) [0, (k : Int), n0, p0])
    have Hd := hide (ddI_len (srtI (nnF [0, (k : Int), n0, p0])))
    generalize hTe : [0, (k : Int), n0, p0] = T at *
    have Hsl := hide (srtI_len (nnF T))
    clear hTe h3
    go_enter Try.func21, Try.ntmps21
    go_upto_region 7 with (first
      | (go_at_call 6; refine HAs.out.mono ?_; rintro e _ ⟨rfl, rfl⟩)
      | (go_at_call 27; refine HN0.out.mono ?_; rintro e _ ⟨rfl, rfl⟩)
      | (go_at_call 36; refine (deleteNeg_any w.heap.size w.heap.size 4 4 T _ HR4.out (by omega)).mono ?_; rintro e w5 ⟨rfl, hr5, hb5⟩; have HR5 := hide hr5; have HB5 := hide (Below.trans HB4.out hb5); clear hr5 hb5))
    obtain ⟨m, hm⟩ : ∃ m, (nnF T).length = m := ⟨_, rfl⟩
    have Hm := hide hm
    have hm4 : m ≤ 4 := by have h := Hml.out; unfold nnF at hm; rw [hm] at h; rw [hT] at h; exact h
    rw [hm] at HR5 Hsl ⊢
    have HS5 := hide (show w5.ownsRow w.heap.size 3 1 (.slice (some ⟨w.heap.size, 0, none⟩) m 4) m ((nnF T).map (Value.int .i64)) by have h := HR5.out; unfold RowN at h; rwa [fcsI] at h)
    clear hm
    go_wp2_with (first
      | (go_at_call 38; refine (sortI_any w.heap.size _ m (nnF T) w5 HS5.out (by omega)).mono ?_; rintro e w6 ⟨rfl, ho6, hg6⟩; have HR6 := hide (show RowN w6 w.heap.size w.heap.size m 4 (srtI (nnF T)) by unfold RowN; rw [fcsI]; exact ho6); have HB6 := hide (below_own HB5.out HS5.out HB5.out.size hg6); clear ho6 hg6)
      | (go_at_call 39; refine (compactI_any w.heap.size w.heap.size 4 m (srtI (nnF T)) w6 HR6.out (by omega) (by omega)).mono ?_; rintro e w7 ⟨rfl, hr7, hb7⟩; have HR7 := hide hr7; have HB7 := hide (Below.trans HB6.out hb7); have HZ7 := hide hb7.size; clear hr7 hb7))
    go_ret
    exact ⟨_, rfl, some ⟨w.heap.size, 0, none⟩, _, 4, rfl, rfl, by have := Hd.out; have := Hsl.out; omega, by omega, HR7.out _ ⟨Nat.le_refl _, by have h1 := HR6.out.lt; have h2 := HZ7.out; omega⟩, HB7.out⟩
end
end Go.Proofs.Ytoadcfjkommlkac
