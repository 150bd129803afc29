/-
  The package edges: the farthest neighbour. Conditions: the slices read as lists of ints, of items, and as a vector; at most some hundred thousand ints.
-/
import Derived.Test.YtggbokgacffamaaEdgQ
namespace Go.Proofs.Ytggbokgacffamaa
open Go.RowKit

theorem results_cell_row_tmp {P : Program} {fn : Func} {p u : Tmp} {ty : TypeId} (h : fn.results = #[.cell p ty, .tmp u]) (tmps : Array Value) (w : World) (g : Nat) (t : TypeId) (cs : Array Value) (fr : Nat × Nat) (d : TypeDesc)
    (hp : tmps.getD p undef = .pointer (some ⟨g, 0, none⟩)) (hg : w.heap[g]? = some (.cells cs t fr))
    (hu : P.underlying ty = some d) (hd : (match d with | .struct _ | .array _ _ => true | _ => false) = true) (hi : (P.info? ty).map (·.size) = some cs.size) :
    (results fn tmps).run P w = .ok (.tuple #[.agg cs, tmps.getD u undef]) w := by
  have hp' : tmps[p]?.getD undef = .pointer (some ⟨g, 0, none⟩) := by simpa using hp
  simp [results, h, hp', asAddr, run_loadVar_row w g t ty cs fr d hg hu hd hi]
theorem spot_cell {fn : Func} {p u : Tmp} (h : fn.results = #[.cell p 30, .tmp u]) (tmps : Array Value) (w : World) (g : Nat) (a b c : Int) (hp : tmps.getD p undef = .pointer (some ⟨g, 0, none⟩)) (hg : Blk w g 30 #[.int .u64 a, .int .u64 b, .int .i64 c]) :
    (results fn tmps).run Try.prog w = .ok (.tuple #[.agg #[.int .u64 a, .int .u64 b, .int .i64 c], tmps.getD u undef]) w :=
  results_cell_row_tmp h tmps w g 30 _ (0, 0) _ hp hg Try.underlying30 rfl (by kernel_rfl)
def svF (s : Spt) : Value := .agg #[.int .u64 s.1.1, .int .u64 s.1.2, .int .i64 s.2]
/-- the farthest neighbour, and the zero spot if there is none -/
def farF (q l : List Int) (its : List ItemP) : Spt := (farK (spotsF q l its)).getD ((0, 0), 0)
theorem spotsF_len (q l : List Int) (its : List ItemP) : (spotsF q l its).length = l.length := by simp [spotsF]
set_option maxHeartbeats 2000000 in
theorem eFar_any (A B C : Option Addr) (n c m d p r : Nat) (l q : List Int) (its : List ItemP) (w : World) (hx : Rd (Sh.int .i64) w w.heap.size A l) (hn : l.length = n) (hc : n ≤ c) (hm : c ≤ 9223372036854775807)
    (hy : Rd (Sh.int .i32) w w.heap.size B q) (hn' : q.length = m) (hyi : I32 q) (hd : m ≤ d) (hm' : d ≤ 9223372036854775807)
    (hz : Rd SItem w w.heap.size C its) (hn2 : its.length = p) (hzi : ItsI its) (hd2 : p ≤ r) (hm2 : r ≤ 9223372036854775807) (h6 : n ≤ 400000) :
    Calls Try.prog 6 #[.slice B m d, .slice A n c, .slice C p r] w fun e w' => e = .returned (.tuple #[svF (farF q l its), .bool (decide (0 < n))]) ∧ Below w.heap.size w w' := by
  rcases Nat.eq_zero_or_pos n with h0 | h0
  · subst h0
    obtain rfl := List.eq_nil_of_length_eq_zero hn
    have HF := hide (show svF (farF q [] its) = .agg #[.int .u64 0, .int .u64 0, .int .i64 0] from rfl)
    have HB := hide (below1 w (.cells #[.int .u64 0, .int .u64 0, .int .i64 0] 30))
    clear hx hn hy hn' hyi hz hn2 hzi
    go_enter Try.func6, Try.ntmps6
    go_wp2
    refine bodyPost_ret (spot_cell rfl _ _ w.heap.size 0 0 0 rfl (Blk.new w _ _)) rfl ?_
    exact ⟨by rw [HF.out]; rfl, HB.out⟩
  · have HB1 := hide (below1 w (.cells #[.int .u64 0, .int .u64 0, .int .i64 0] 30))
    have HN1 := hide (Blk.new w 30 #[.int .u64 0, .int .u64 0, .int .i64 0])
    have HC1 := hide (spots_any A B C n c m d p r l q its (w.alloc (.cells #[.int .u64 0, .int .u64 0, .int .i64 0] 30)) ((hx.step HB1.out)) hn hc hm (hy.step HB1.out) hn' hyi hd hm' (hz.step HB1.out) hn2 hzi hd2 hm2 h6)
    have hne : ((n : Int) == 0) = false := by rw [beq_eq_false_iff_ne]; omega
    have g0 : (0 : Int) < n := by omega
    have hdt : decide (0 < n) = true := decide_eq_true h0
    have HSL := hide (show (spotsF q l its).length = n by rw [spotsF_len, hn])
    clear hx hn hy hn' hyi hz hn2 hzi
    go_enter Try.func6, Try.ntmps6
    go_upto_region 3 with fail
    generalize w.alloc (.cells #[.int .u64 0, .int .u64 0, .int .i64 0] 30) = w1 at *
    go_wp2_with (go_at_call 23; refine HC1.out.mono ?_; rintro e w2 ⟨rfl, hr2, hb2⟩; have HR2 := hide hr2; have HB2 := hide hb2; clear hr2 hb2 HC1)
    have HR2' := hide (show Rd SP w2 w2.heap.size (some ⟨w1.heap.size, 0, none⟩) (spotsF q l its) from RdR.rd (flatS.own (base := w1.heap.size) HR2.out) fun b hb => hb.2)
    have HC2 := hide (sort_any (some ⟨w1.heap.size, 0, none⟩) n n (spotsF q l its) w2 HR2'.out HSL.out (Nat.le_refl _) (by omega) (by omega))
    refine HC2.out.mono ?_
    rintro e w3 ⟨v, rfl, hr3, hb3⟩
    obtain ⟨g, cap, rfl, hg, hlt⟩ := hr3.form h0
    have HR3 := hide (show RowS w3 w2.heap.size g n cap (srtS (spotsF q l its)) from hr3)
    have HN3 := hide ((HN1.out.below HB2.out HN1.out.lt).below hb3 ((HN1.out.below HB2.out HN1.out.lt).lt))
    have HB3 := hide (HB1.out.trans ((HB2.out.trans (hb3.mono HB2.out.size)).mono HB1.out.size))
    clear hr3 hb3 HC2 HR2 HR2'
    obtain ⟨x, hx⟩ : ∃ x, (srtS (spotsF q l its))[n - 1]? = some x := ⟨_, List.getElem?_eq_getElem (by rw [srtS_len, HSL.out]; omega)⟩
    have HF := hide (show farF q l its = x by
      unfold farF
      rw [← far_last, List.getLast?_eq_getElem?, srtS_len, HSL.out, hx]; rfl)
    obtain ⟨c0, c1, c2⟩ := HR3.out.cells hx
    obtain ⟨⟨x1, x2⟩, x3⟩ := x
    simp only at c0 c1 c2
    clear hx
    obtain ⟨n, rfl⟩ : ∃ k, n = k + 1 := ⟨n - 1, by omega⟩
    simp only [Nat.add_sub_cancel] at c0 c1 c2
    have g1 : (0 : Int) ≤ n := by omega
    have z0 : w3.cell? ⟨w.heap.size, 0, none⟩ = some (.int .u64 0) := HN3.out.cell 0
    have z1 : w3.cell? ⟨w.heap.size, 1, none⟩ = some (.int .u64 0) := HN3.out.cell 1
    have z2 : w3.cell? ⟨w.heap.size, 2, none⟩ = some (.int .i64 0) := HN3.out.cell 2
    have f0 := HN3.out.frozen 0
    have f1 := HN3.out.frozen 1
    have f2 := HN3.out.frozen 2
    go_wp2
    refine bodyPost_ret (spot_cell rfl _ _ w.heap.size x1 x2 x3 rfl (((HN3.out.set_ 0 _).set_ 1 _).set_ 2 _)) rfl ?_
    exact ⟨by rw [HF.out, hdt]; rfl, ((HB3.out.setCell (Nat.le_refl _) _).setCell (Nat.le_refl _) _).setCell (Nat.le_refl _) _⟩
end Go.Proofs.Ytggbokgacffamaa
