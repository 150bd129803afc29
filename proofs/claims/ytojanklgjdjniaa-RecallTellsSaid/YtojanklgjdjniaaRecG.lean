/-
  The package recall: the part of all pairs together: both. Conditions: the slice reads as a list of pairs.
-/
import Derived.Test.YtojanklgjdjniaaRecF
namespace Go.Proofs.Ytojanklgjdjniaa
open Go.RowKit

def SP : Sh (Int × Int) := Sh.pair (Sh.int .i64) (Sh.int .i64)
theorem Rd.pcell {w : World} {B : Nat} {A : Option Addr} {l : List (Int × Int)} (h : Rd SP w B A l) {k : Nat} (hk : k < l.length) : ∃ ad x, A = some ad ∧ ad.block < B ∧ l[k]? = some x ∧ w.cell? (ad.add (k * 2)) = some (.int .i64 x.1) ∧ w.cell? ⟨(ad.add (k * 2)).block, (ad.add (k * 2)).off + 1, none⟩ = some (.int .i64 x.2) := by
  obtain ⟨ad, x, cs, e, hb, hx, hr, hc⟩ := RdR.at_ h hk
  obtain ⟨c, d, rfl, hr1, hr2⟩ := hr
  have h1 : c = [.int .i64 x.1] := hr1
  have h2 : d = [.int .i64 x.2] := hr2
  subst h1 h2
  refine ⟨ad, x, e, hb, hx, by simpa [SP, Sh.pair, Sh.int] using hc 0 _ rfl, ?_⟩
  have := hc 1 _ rfl
  rw [show SP.size = 2 from rfl, ← add_of_add] at this
  exact this
def scoS (s p : Int × Int) : Int × Int := if hB p.2 < 1 then s else (min (s.1 + hA p.1 p.2) 2147483647, min (s.2 + hB p.2) 2147483647)
/-- the sum of the first k pairs -/
def scoK (l : List (Int × Int)) (k : Nat) : Int × Int := (l.take k).foldl scoS (0, 0)
theorem scoK_snoc {l : List (Int × Int)} {k : Nat} {x : Int × Int} (h : l[k]? = some x) : scoK l (k + 1) = scoS (scoK l k) x := by
  unfold scoK; rw [take_snoc h, List.foldl_append]; rfl
theorem scoS_ok {s p : Int × Int} (h : (0 ≤ s.1 ∧ s.1 ≤ 2147483647) ∧ 0 ≤ s.2 ∧ s.2 ≤ 2147483647) : (0 ≤ (scoS s p).1 ∧ (scoS s p).1 ≤ 2147483647) ∧ 0 ≤ (scoS s p).2 ∧ (scoS s p).2 ≤ 2147483647 := by
  have := hA_le p.1 p.2
  unfold scoS; split
  · exact h
  · simp only; omega
theorem scoK_ok (l : List (Int × Int)) (k : Nat) : (0 ≤ (scoK l k).1 ∧ (scoK l k).1 ≤ 2147483647) ∧ 0 ≤ (scoK l k).2 ∧ (scoK l k).2 ≤ 2147483647 := by
  unfold scoK
  have : ∀ (m : List (Int × Int)) (s : Int × Int), ((0 ≤ s.1 ∧ s.1 ≤ 2147483647) ∧ 0 ≤ s.2 ∧ s.2 ≤ 2147483647) → ((0 ≤ (m.foldl scoS s).1 ∧ (m.foldl scoS s).1 ≤ 2147483647) ∧ 0 ≤ (m.foldl scoS s).2 ∧ (m.foldl scoS s).2 ≤ 2147483647) := by
    intro m
    induction m with
    | nil => exact fun s h => h
    | cons x m ih => exact fun s h => ih _ (scoS_ok h)
  exact this _ _ ⟨⟨by decide, by decide⟩, by decide, by decide⟩
/-- the part of all pairs -/
def scoF (l : List (Int × Int)) : Int := perF (hA (scoK l l.length).1 (scoK l l.length).2) (hB (scoK l l.length).2)
theorem i64_eq {a b : Int} (h : a = b) : Value.int .i64 a = Value.int .i64 b := by rw [h]

set_option maxHeartbeats 2000000 in
theorem refScore_any (A : Option Addr) (n c : Nat) (l : List (Int × Int)) (w : World) (hx : Rd SP w w.heap.size A l) (hn : l.length = n) (hc : n ≤ c) (hm : c ≤ 9223372036854775807) :
    Calls Try.prog 15 #[.slice A n c] w fun e w' => e = .returned (.int .i64 (scoF l)) ∧ Below w.heap.size w w' := by
  have HX := hide hx
  have Hn := hide hn
  have HF := hide (show scoF l = perF (hA (scoK l n).1 (scoK l n).2) (hB (scoK l n).2) by rw [← hn]; rfl)
  clear hx hn
  go_enter Try.func15, Try.ntmps15
  go_wp2
  go_loopw [3, 4, 6, 7, 8, 11] (fun u v _ _ _ i wr => ∃ j : Nat, j ≤ n ∧ i = .int .i64 j ∧ u = .int .i64 (scoK l j).1 ∧ v = .int .i64 (scoK l j).2 ∧ Hid (Below w.heap.size w wr)) (fun _ _ _ _ _ i _ => n - (intOf i).toNat)
  case atStart => exact ⟨0, by omega, rfl, rfl, rfl, hide (Below.refl _ _)⟩
  case round =>
    obtain ⟨j, hj, rfl, rfl, rfl, HBl⟩ := hrel
    by_cases hlt : j < n
    · obtain ⟨ad, ⟨x1, x2⟩, rfl, _, hv, q0, q1⟩ := (HX.out.below HBl.out (Nat.le_refl _)).pcell (k := j) (by have := Hn.out; omega)
      simp only at q0 q1
      have g0 : (0 : Int) ≤ j := by omega
      have g1 : (j : Int) < n := by omega
      have HB1 := hide (HBl.out.trans ((below1 wr (.cells #[.int .i64 x1, .int .i64 x2] 36)).mono HBl.out.size))
      have HN := hide (Blk.new wr 36 #[.int .i64 x1, .int .i64 x2])
      have HSn := hide (scoK_snoc hv)
      have hok := scoK_ok l j
      have hok2 := hA_le x1 x2
      have hok3 := hB_le x2
      clear hv
      generalize hCn : scoK l j = s at *
      have HCn := hide hCn
      clear hCn
      obtain ⟨s1, s2⟩ := s
      simp only [scoS] at *
      go_upto_region 5 with fail
      generalize wr.alloc (.cells #[.int .i64 x1, .int .i64 x2] 36) = w2 at *
      have z0 : w2.cell? ⟨wr.heap.size, 0, none⟩ = some (.int .i64 x1) := HN.out.cell 0
      have z1 : w2.cell? ⟨wr.heap.size, 1, none⟩ = some (.int .i64 x2) := HN.out.cell 1
      generalize wr.heap.size = bx at *
      have F1 := fun W => refHeld_any x1 x2 W
      generalize hA x1 x2 = a at *
      generalize hB x2 = b at *
      go_upto_region 6 with (go_at_call 22; refine (F1 _).mono ?_; rintro e w5 ⟨rfl, rfl⟩)
      by_cases hb : b < 1
      · rw [if_pos hb] at HSn
        have d1 : decide (b < 1) = true := by simpa using hb
        go_wp2
        go_roundw
        case rel => exact ⟨j + 1, by omega, by go_num, by rw [HSn.out], by rw [HSn.out], HB1⟩
        case measure => simp [intOf]; omega
      · rw [if_neg hb] at HSn
        have d1 : decide (b < 1) = false := by simpa using hb
        have e1 : IntKind.i64.wrap (s1 + a) = s1 + a := by rw [IntKind.wrap_i64]; omega
        have e2 : IntKind.i64.wrap (s2 + b) = s2 + b := by rw [IntKind.wrap_i64]; omega
        go_wp2
        all_goals refine ⟨⟨j + 1, by omega, by go_num, ?_, ?_, HB1⟩, ?_⟩
        all_goals first
          | (simp [intOf]; omega)
          | (rw [HSn.out]; exact i64_eq (by simp only; omega))
    · obtain rfl : j = n := by omega
      go_wp2_with (go_at_call 8; refine (refPermille_any _ _ _).mono ?_; rintro e w1 ⟨rfl, rfl⟩)
      go_ret
      exact ⟨by rw [HF.out]; rfl, HBl.out⟩
end Go.Proofs.Ytojanklgjdjniaa
