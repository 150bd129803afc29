/-
  The package recall: those that were not found: the program. Conditions: the slices read as lists of hits, at most 1000 of the truth.
-/
import Derived.Test.YtggbokgacffamabRecN
namespace Go.Proofs.Ytggbokgacffamab
open Go.RowKit ChangeMaps

set_option maxHeartbeats 1000000 in
theorem deleteFunc_own (base n b b5 : Nat) (v : Value) (f t : List Hit) (w : World) (hO : w.ownsRow base 36 2 v n (hcs t)) (hM : MapAt w b f) (h5 : Blk w b5 45 #[.map (some b)]) (hb : b < base) (hb5 : b5 < base) (hbase : base ≤ w.heap.size) (hf : ∀ h ∈ t, wfH h) :
    Calls Try.prog 18 #[v, .func (.func 20) #[] #[.pointer (some ⟨b5, 0, none⟩)]] w fun e w' =>
      ∃ A n' c, e = .returned (.slice A n' c) ∧ (missR f t).length = n' ∧ n' ≤ c ∧ c ≤ 9223372036854775807 ∧ RdR SH w' (Btw base w'.heap.size) A (missR f t) ∧ Below base w w' := by
  have hl := hO.1
  rw [hcs_len] at hl
  have hle := missR_le f t
  rcases hO.2 with ⟨rfl, rfl⟩ | ⟨g, cap, cur, rfl, hg, _, h1, h2, _⟩
  · have ht : t = [] := List.eq_nil_of_length_eq_zero (by omega)
    subst ht
    have HC := hide (Calls.mono (indexFunc_any b b5 f none 0 0 [] w hM h5 RdR.nil rfl (Nat.le_refl _) (by omega) hf) (R' := fun e w' => e = .returned (.int .i64 (-1)) ∧ Below w.heap.size w w') (by
      rintro e w' ⟨h, hb⟩
      refine ⟨?_, hb⟩
      rcases h with ⟨h, _⟩ | ⟨k, x, _, h1, _⟩
      · exact h
      · simp at h1))
    clear hO hM h5 hf hl hle
    go_enter Try.func18, Try.ntmps18
    go_wp2_with (go_at_call 26; refine HC.out.mono ?_; rintro e w1 ⟨rfl, hb1⟩; have HB1 := hide hb1; clear hb1)
    go_ret
    exact ⟨none, 0, 0, rfl, rfl, Nat.le_refl _, by omega, RdR.nil, HB1.out.mono hbase⟩
  · have hR := RowG.of_own hO
    refine (deleteFunc_any g cap n b b5 f t w hR (by omega) (by simpa [maxLen] using h2) hM h5 (by omega) (by omega) hf).mono ?_
    rintro e w' ⟨rfl, h, hb'⟩
    exact ⟨_, _, _, rfl, rfl, by omega, by simpa [maxLen] using h2, h _ ⟨hg, Nat.lt_of_lt_of_le hR.lt hb'.size⟩, hb'.mono hg⟩

set_option maxHeartbeats 1000000 in
theorem eMissing_any (A B : Option Addr) (n c m d : Nat) (f t : List Hit) (w : World) (hx : Rd SH w w.heap.size A f) (hn : f.length = n) (hc : n ≤ c) (hm : c ≤ 9223372036854775807) (hf : ∀ h ∈ f, wfH h)
    (hy : Rd SH w w.heap.size B t) (hn' : t.length = m) (hd : m ≤ d) (hm' : d ≤ 9223372036854775807) (h6 : m ≤ 1000) (ht : ∀ h ∈ t, wfH h) :
    Calls Try.prog 8 #[.slice A n c, .slice B m d] w fun e w' => ∃ v, e = .returned v ∧ NewHits w (missR f t) v w' := by
  have C1 := hide (set_any A n c f w hx hn hc hm hf)
  have HY := hide hy
  have Hm := hide hn'
  have HWt := hide ht
  clear hx hy hn hn' hf ht
  go_enter Try.func8, Try.ntmps8
  go_upto_region 2 with (go_at_call 14; refine C1.out.mono ?_; rintro e w2 ⟨rfl, hMp, hBp⟩; have HM2 := hide hMp; have HB2 := hide hBp; clear hMp hBp)
  have h2l := HM2.out.lt
  have HN := hide (Blk.new w2 45 #[.map (some w.heap.size)])
  have HM3 := hide (HM2.out.below (below1 w2 (.cells #[.map (some w.heap.size)] 45)) h2l)
  have HB3 := hide (HB2.out.trans ((below1 w2 (.cells #[.map (some w.heap.size)] 45)).mono HB2.out.size))
  generalize w2.alloc (.cells #[.map (some w.heap.size)] 45) = w3 at *
  have h3l := HN.out.lt
  have C2 := hide (clone_any B m d t w3 (Rd.at_world HY.out HB3.out) Hm.out hd hm' h6)
  go_wp2_with (first
    | (go_at_call 19; refine C2.out.mono ?_; rintro e w4 ⟨v4, rfl, hO4, hB4⟩; have HO4 := hide hO4; have HM4 := hide (HM3.out.below hB4 HM3.out.lt); have HN4 := hide (HN.out.below hB4 HN.out.lt); have HB4 := hide (HB3.out.trans (hB4.mono HB3.out.size)); have Hs := hide hB4.size; clear hO4 hB4)
    | (go_at_call 18; refine (deleteFunc_own w3.heap.size m w.heap.size w2.heap.size v4 f t _ HO4.out HM4.out HN4.out (by omega) h3l Hs.out HWt.out).mono ?_; rintro e w5 ⟨A5, n5, c5, rfl, h51, h52, h53, h54, h55⟩; have H51 := hide h51; have H52 := hide h52; have H53 := hide h53; have H54 := hide h54; have HB5 := hide (HB4.out.trans (h55.mono HB3.out.size)); clear h51 h52 h53 h54 h55))
  go_ret
  exact ⟨_, rfl, A5, n5, c5, rfl, H51.out, H52.out, H53.out, H54.out.more (fun i h => ⟨Nat.le_trans HB3.out.size h.1, h.2⟩), HB5.out⟩
end Go.Proofs.Ytggbokgacffamab
