/-
  The law QuantNear. Conditions: the slices read as a book, vectors, a code.
-/
import Derived.Test.YtojanklgjdjniacQuaJ
import Derived.Test.YtojanklgjdjniacQuaK
namespace Go.Proofs.Ytojanklgjdjniac
open Go.RowKit

set_option maxHeartbeats 4000000 in
set_option maxRecDepth 100000 in
theorem near_big1 (A B V C : Option Addr) (cb m d nv cv mc dc : Nat) (b : Book) (q code : List Int) (w : World) (hx : Rd SPart w w.heap.size A b) (hc : b.length ≤ cb) (hm : cb ≤ 9223372036854775807)
    (hy : I32s w w.heap.size B q) (hn' : q.length = m) (hd : m ≤ d) (hm' : d ≤ 9223372036854775807) (hqi : I32 q) (hz : Rd (Sh.int .i64) w w.heap.size C code) (hcn : code.length = mc) (hdc : mc ≤ dc) (hmc : dc ≤ 9223372036854775807) (hb : 300 < nv) :
    Calls Try.prog 3 #[.slice A b.length cb, .slice B m d, .slice V nv cv, .slice C mc dc] w fun e w' => e = .returned (.bool true) ∧ Below w.heap.size w w' := by
  have HX := hide hx
  have HY := hide hy
  have HZ := hide hz
  have Hm := hide hn'
  have Hc := hide hcn
  have HQI := hide hqi
  have g1 : (300 : Int) < nv := by omega
  clear hx hy hz hn' hcn hqi
  go_enter Try.func3, Try.ntmps3
  go_wp2_with (first | (go_at_call 4; refine (lives_any _).mono ?_; rintro e w1 ⟨rfl, hb⟩; have HB1 := hide hb; clear hb) | (go_at_call 5; refine (qsmall_any A b.length cb b w1 (Rd.at_world HX.out HB1.out) rfl hc hm).mono ?_; rintro e w2 ⟨⟨r, rfl⟩, rfl⟩))
  all_goals
    go_ret
    exact ⟨rfl, HB1.out⟩
set_option maxHeartbeats 4000000 in
set_option maxRecDepth 100000 in
theorem near_big2 (A B V C : Option Addr) (cb m d nv cv mc dc : Nat) (b : Book) (q code : List Int) (w : World) (hx : Rd SPart w w.heap.size A b) (hc : b.length ≤ cb) (hm : cb ≤ 9223372036854775807)
    (hy : I32s w w.heap.size B q) (hn' : q.length = m) (hd : m ≤ d) (hm' : d ≤ 9223372036854775807) (hqi : I32 q) (hz : Rd (Sh.int .i64) w w.heap.size C code) (hcn : code.length = mc) (hdc : mc ≤ dc) (hmc : dc ≤ 9223372036854775807) (ha : ¬ 300 < nv) (hb : 300 < m) :
    Calls Try.prog 3 #[.slice A b.length cb, .slice B m d, .slice V nv cv, .slice C mc dc] w fun e w' => e = .returned (.bool true) ∧ Below w.heap.size w w' := by
  have HX := hide hx
  have HY := hide hy
  have HZ := hide hz
  have Hm := hide hn'
  have Hc := hide hcn
  have HQI := hide hqi
  have g1 : ¬ (300 : Int) < nv := by omega
  have g2 : (300 : Int) < m := by omega
  clear hx hy hz hn' hcn hqi
  go_enter Try.func3, Try.ntmps3
  go_wp2_with (first | (go_at_call 4; refine (lives_any _).mono ?_; rintro e w1 ⟨rfl, hb⟩; have HB1 := hide hb; clear hb) | (go_at_call 5; refine (qsmall_any A b.length cb b w1 (Rd.at_world HX.out HB1.out) rfl hc hm).mono ?_; rintro e w2 ⟨⟨r, rfl⟩, rfl⟩))
  all_goals
    go_ret
    exact ⟨rfl, HB1.out⟩
set_option maxHeartbeats 4000000 in
set_option maxRecDepth 100000 in
theorem near_big3 (A B V C : Option Addr) (cb m d nv cv mc dc : Nat) (b : Book) (q code : List Int) (w : World) (hx : Rd SPart w w.heap.size A b) (hc : b.length ≤ cb) (hm : cb ≤ 9223372036854775807)
    (hy : I32s w w.heap.size B q) (hn' : q.length = m) (hd : m ≤ d) (hm' : d ≤ 9223372036854775807) (hqi : I32 q) (hz : Rd (Sh.int .i64) w w.heap.size C code) (hcn : code.length = mc) (hdc : mc ≤ dc) (hmc : dc ≤ 9223372036854775807) (ha : ¬ 300 < nv) (ha2 : ¬ 300 < m) (hb : 100 < mc) :
    Calls Try.prog 3 #[.slice A b.length cb, .slice B m d, .slice V nv cv, .slice C mc dc] w fun e w' => e = .returned (.bool true) ∧ Below w.heap.size w w' := by
  have HX := hide hx
  have HY := hide hy
  have HZ := hide hz
  have Hm := hide hn'
  have Hc := hide hcn
  have HQI := hide hqi
  have g1 : ¬ (300 : Int) < nv := by omega
  have g2 : ¬ (300 : Int) < m := by omega
  have g3 : (100 : Int) < mc := by omega
  clear hx hy hz hn' hcn hqi
  go_enter Try.func3, Try.ntmps3
  go_wp2_with (first | (go_at_call 4; refine (lives_any _).mono ?_; rintro e w1 ⟨rfl, hb⟩; have HB1 := hide hb; clear hb) | (go_at_call 5; refine (qsmall_any A b.length cb b w1 (Rd.at_world HX.out HB1.out) rfl hc hm).mono ?_; rintro e w2 ⟨⟨r, rfl⟩, rfl⟩))
  all_goals
    go_ret
    exact ⟨rfl, HB1.out⟩
set_option maxHeartbeats 4000000 in
set_option maxRecDepth 100000 in
theorem near_bad1 (A B V C : Option Addr) (cb m d nv cv mc dc : Nat) (b : Book) (q code : List Int) (w : World) (hx : Rd SPart w w.heap.size A b) (hc : b.length ≤ cb) (hm : cb ≤ 9223372036854775807)
    (hy : I32s w w.heap.size B q) (hn' : q.length = m) (hd : m ≤ d) (hm' : d ≤ 9223372036854775807) (hqi : I32 q) (hz : Rd (Sh.int .i64) w w.heap.size C code) (hcn : code.length = mc) (hdc : mc ≤ dc) (hmc : dc ≤ 9223372036854775807) (ha : ¬ 300 < nv) (ha2 : ¬ 300 < m) (ha3 : ¬ 100 < mc) (hk : chkB b = false) (hf : fitE b q ≠ 0) :
    Calls Try.prog 3 #[.slice A b.length cb, .slice B m d, .slice V nv cv, .slice C mc dc] w fun e w' => e = .returned (.bool true) ∧ Below w.heap.size w w' := by
  have HX := hide hx
  have HY := hide hy
  have HZ := hide hz
  have Hm := hide hn'
  have Hc := hide hcn
  have HQI := hide hqi
  have g1 : ¬ (300 : Int) < nv := by omega
  have g2 : ¬ (300 : Int) < m := by omega
  have g3 : ¬ (100 : Int) < mc := by omega
  have h1 : (fitE b q != 0) = true := bne_iff_ne.2 hf
  clear hx hy hz hn' hcn hqi
  go_enter Try.func3, Try.ntmps3
  go_wp2_with (first | (go_at_call 4; refine (lives_any _).mono ?_; rintro e w1 ⟨rfl, hb⟩; have HB1 := hide hb; clear hb) | (go_at_call 5; refine (qsmall_any A b.length cb b w1 (Rd.at_world HX.out HB1.out) rfl hc hm).mono ?_; rintro e w2 ⟨⟨r, rfl⟩, rfl⟩))
  any_goals (solve
    | (go_ret
       exact ⟨rfl, HB1.out⟩))
  have HK : Hid (Below w.heap.size w w1 ∧ Rd SPart w1 w1.heap.size A b ∧ Rd (Sh.int .i32) w1 w1.heap.size B q ∧ Rd (Sh.int .i64) w1 w1.heap.size C code) := hide ⟨HB1.out, Rd.at_world HX.out HB1.out, Rd.at_world HY.out HB1.out, Rd.at_world HZ.out HB1.out⟩
  refine (table_any A B b.length cb m d b q w1 ((stab_rd SPart A b) w1 w1 HK.out.2.1 (Below.refl _ w1)) rfl hc hm ((stab_rd (Sh.int .i32) B q) w1 w1 HK.out.2.2.1 (Below.refl _ w1)) Hm.out hd hm').mono ?_
  rintro e w2 ⟨A1, nA1, cA1, rfl, hlA1, hnA1, hmA1, hR, hb⟩
  have HLA1 := hide hlA1
  have HR := hR.rd (B := w2.heap.size) fun b hb => hb.2
  clear hR hlA1
  have HK1 : Hid (Below w.heap.size w w2 ∧ Rd SPart w2 w2.heap.size A b ∧ Rd (Sh.int .i32) w2 w2.heap.size B q ∧ Rd (Sh.int .i64) w2 w2.heap.size C code ∧ Rd (Sh.list (Sh.int .u64)) w2 w2.heap.size A1 (tableOf b q)) := hide (⟨((stab_below w) w1 w2 HK.out.1 hb), ((stab_rd SPart A b) w1 w2 HK.out.2.1 hb), ((stab_rd (Sh.int .i32) B q) w1 w2 HK.out.2.2.1 hb), ((stab_rd (Sh.int .i64) C code) w1 w2 HK.out.2.2.2 hb), HR⟩)
  clear HK hb
  have HK := HK1
  clear HK1
  clear HR
  go_wp2_with fail
  refine (decode_any A C b.length cb mc dc b code w2 ((stab_rd SPart A b) w2 w2 HK.out.2.1 (Below.refl _ w2)) rfl hc hm ((stab_rd (Sh.int .i64) C code) w2 w2 HK.out.2.2.2.1 (Below.refl _ w2)) Hc.out hdc hmc).mono ?_
  rintro e w3 ⟨A2, nA2, cA2, rfl, hlA2, hnA2, hmA2, hR, hb⟩
  have HLA2 := hide hlA2
  have HR := hR.rd (B := w3.heap.size) fun b hb => hb.2
  clear hR hlA2
  have HK1 : Hid (Below w.heap.size w w3 ∧ Rd SPart w3 w3.heap.size A b ∧ Rd (Sh.int .i32) w3 w3.heap.size B q ∧ Rd (Sh.int .i64) w3 w3.heap.size C code ∧ Rd (Sh.list (Sh.int .u64)) w3 w3.heap.size A1 (tableOf b q) ∧ Rd (Sh.int .i32) w3 w3.heap.size A2 (decOf b code)) := hide (⟨((stab_below w) w2 w3 HK.out.1 hb), ((stab_rd SPart A b) w2 w3 HK.out.2.1 hb), ((stab_rd (Sh.int .i32) B q) w2 w3 HK.out.2.2.1 hb), ((stab_rd (Sh.int .i64) C code) w2 w3 HK.out.2.2.2.1 hb), ((stab_rd (Sh.list (Sh.int .u64)) A1 (tableOf b q)) w2 w3 HK.out.2.2.2.2 hb), HR⟩)
  clear HK hb
  have HK := HK1
  clear HK1
  clear HR
  go_wp2_with fail
  refine (Stab.call (K := (fun W => Below w.heap.size w W ∧ Rd SPart W W.heap.size A b ∧ Rd (Sh.int .i32) W W.heap.size B q ∧ Rd (Sh.int .i64) W W.heap.size C code ∧ Rd (Sh.list (Sh.int .u64)) W W.heap.size A1 (tableOf b q) ∧ Rd (Sh.int .i32) W W.heap.size A2 (decOf b code))) (stab_and (stab_below w) (stab_and (stab_rd SPart A b) (stab_and (stab_rd (Sh.int .i32) B q) (stab_and (stab_rd (Sh.int .i64) C code) (stab_and (stab_rd (Sh.list (Sh.int .u64)) A1 (tableOf b q)) (stab_rd (Sh.int .i32) A2 (decOf b code))))))) HK.out (Below.refl _ w3) (.int .i64 7) (qcheck_any A b.length cb b _ ((stab_rd SPart A b) w3 w3 HK.out.2.1 (Below.refl _ w3)) rfl hc hm) (congrArg (Value.int .i64) (by unfold chkE; rw [hk]; rfl))).mono ?_
  rintro e w4 ⟨rfl, hK⟩
  have HK' := hide hK
  clear hK HK
  have HK := HK'
  clear HK'
  go_wp2_with fail
  go_ret
  exact ⟨rfl, HK.out.1⟩
set_option maxHeartbeats 4000000 in
set_option maxRecDepth 100000 in
theorem near_bad2 (A B V C : Option Addr) (cb m d nv cv mc dc : Nat) (b : Book) (q code : List Int) (w : World) (hx : Rd SPart w w.heap.size A b) (hc : b.length ≤ cb) (hm : cb ≤ 9223372036854775807)
    (hy : I32s w w.heap.size B q) (hn' : q.length = m) (hd : m ≤ d) (hm' : d ≤ 9223372036854775807) (hqi : I32 q) (hz : Rd (Sh.int .i64) w w.heap.size C code) (hcn : code.length = mc) (hdc : mc ≤ dc) (hmc : dc ≤ 9223372036854775807) (ha : ¬ 300 < nv) (ha2 : ¬ 300 < m) (ha3 : ¬ 100 < mc) (hk : chkB b = true) (hv : vecOk q (dimOf b) = false) (hf : fitE b q ≠ 0) :
    Calls Try.prog 3 #[.slice A b.length cb, .slice B m d, .slice V nv cv, .slice C mc dc] w fun e w' => e = .returned (.bool true) ∧ Below w.heap.size w w' := by
  have HX := hide hx
  have HY := hide hy
  have HZ := hide hz
  have Hm := hide hn'
  have Hc := hide hcn
  have HQI := hide hqi
  have g1 : ¬ (300 : Int) < nv := by omega
  have g2 : ¬ (300 : Int) < m := by omega
  have g3 : ¬ (100 : Int) < mc := by omega
  have h1 : (fitE b q != 0) = true := bne_iff_ne.2 hf
  clear hx hy hz hn' hcn hqi
  go_enter Try.func3, Try.ntmps3
  go_wp2_with (first | (go_at_call 4; refine (lives_any _).mono ?_; rintro e w1 ⟨rfl, hb⟩; have HB1 := hide hb; clear hb) | (go_at_call 5; refine (qsmall_any A b.length cb b w1 (Rd.at_world HX.out HB1.out) rfl hc hm).mono ?_; rintro e w2 ⟨⟨r, rfl⟩, rfl⟩))
  any_goals (solve
    | (go_ret
       exact ⟨rfl, HB1.out⟩))
  have HK : Hid (Below w.heap.size w w1 ∧ Rd SPart w1 w1.heap.size A b ∧ Rd (Sh.int .i32) w1 w1.heap.size B q ∧ Rd (Sh.int .i64) w1 w1.heap.size C code) := hide ⟨HB1.out, Rd.at_world HX.out HB1.out, Rd.at_world HY.out HB1.out, Rd.at_world HZ.out HB1.out⟩
  refine (table_any A B b.length cb m d b q w1 ((stab_rd SPart A b) w1 w1 HK.out.2.1 (Below.refl _ w1)) rfl hc hm ((stab_rd (Sh.int .i32) B q) w1 w1 HK.out.2.2.1 (Below.refl _ w1)) Hm.out hd hm').mono ?_
  rintro e w2 ⟨A1, nA1, cA1, rfl, hlA1, hnA1, hmA1, hR, hb⟩
  have HLA1 := hide hlA1
  have HR := hR.rd (B := w2.heap.size) fun b hb => hb.2
  clear hR hlA1
  have HK1 : Hid (Below w.heap.size w w2 ∧ Rd SPart w2 w2.heap.size A b ∧ Rd (Sh.int .i32) w2 w2.heap.size B q ∧ Rd (Sh.int .i64) w2 w2.heap.size C code ∧ Rd (Sh.list (Sh.int .u64)) w2 w2.heap.size A1 (tableOf b q)) := hide (⟨((stab_below w) w1 w2 HK.out.1 hb), ((stab_rd SPart A b) w1 w2 HK.out.2.1 hb), ((stab_rd (Sh.int .i32) B q) w1 w2 HK.out.2.2.1 hb), ((stab_rd (Sh.int .i64) C code) w1 w2 HK.out.2.2.2 hb), HR⟩)
  clear HK hb
  have HK := HK1
  clear HK1
  clear HR
  go_wp2_with fail
  refine (decode_any A C b.length cb mc dc b code w2 ((stab_rd SPart A b) w2 w2 HK.out.2.1 (Below.refl _ w2)) rfl hc hm ((stab_rd (Sh.int .i64) C code) w2 w2 HK.out.2.2.2.1 (Below.refl _ w2)) Hc.out hdc hmc).mono ?_
  rintro e w3 ⟨A2, nA2, cA2, rfl, hlA2, hnA2, hmA2, hR, hb⟩
  have HLA2 := hide hlA2
  have HR := hR.rd (B := w3.heap.size) fun b hb => hb.2
  clear hR hlA2
  have HK1 : Hid (Below w.heap.size w w3 ∧ Rd SPart w3 w3.heap.size A b ∧ Rd (Sh.int .i32) w3 w3.heap.size B q ∧ Rd (Sh.int .i64) w3 w3.heap.size C code ∧ Rd (Sh.list (Sh.int .u64)) w3 w3.heap.size A1 (tableOf b q) ∧ Rd (Sh.int .i32) w3 w3.heap.size A2 (decOf b code)) := hide (⟨((stab_below w) w2 w3 HK.out.1 hb), ((stab_rd SPart A b) w2 w3 HK.out.2.1 hb), ((stab_rd (Sh.int .i32) B q) w2 w3 HK.out.2.2.1 hb), ((stab_rd (Sh.int .i64) C code) w2 w3 HK.out.2.2.2.1 hb), ((stab_rd (Sh.list (Sh.int .u64)) A1 (tableOf b q)) w2 w3 HK.out.2.2.2.2 hb), HR⟩)
  clear HK hb
  have HK := HK1
  clear HK1
  clear HR
  go_wp2_with fail
  refine (Stab.call (K := (fun W => Below w.heap.size w W ∧ Rd SPart W W.heap.size A b ∧ Rd (Sh.int .i32) W W.heap.size B q ∧ Rd (Sh.int .i64) W W.heap.size C code ∧ Rd (Sh.list (Sh.int .u64)) W W.heap.size A1 (tableOf b q) ∧ Rd (Sh.int .i32) W W.heap.size A2 (decOf b code))) (stab_and (stab_below w) (stab_and (stab_rd SPart A b) (stab_and (stab_rd (Sh.int .i32) B q) (stab_and (stab_rd (Sh.int .i64) C code) (stab_and (stab_rd (Sh.list (Sh.int .u64)) A1 (tableOf b q)) (stab_rd (Sh.int .i32) A2 (decOf b code))))))) HK.out (Below.refl _ w3) (.int .i64 0) (qcheck_any A b.length cb b _ ((stab_rd SPart A b) w3 w3 HK.out.2.1 (Below.refl _ w3)) rfl hc hm) (congrArg (Value.int .i64) (by unfold chkE; rw [hk]; rfl))).mono ?_
  rintro e w4 ⟨rfl, hK⟩
  have HK' := hide hK
  clear hK HK
  have HK := HK'
  clear HK'
  go_wp2_with fail
  refine (Stab.call (K := (fun W => Below w.heap.size w W ∧ Rd SPart W W.heap.size A b ∧ Rd (Sh.int .i32) W W.heap.size B q ∧ Rd (Sh.int .i64) W W.heap.size C code ∧ Rd (Sh.list (Sh.int .u64)) W W.heap.size A1 (tableOf b q) ∧ Rd (Sh.int .i32) W W.heap.size A2 (decOf b code))) (stab_and (stab_below w) (stab_and (stab_rd SPart A b) (stab_and (stab_rd (Sh.int .i32) B q) (stab_and (stab_rd (Sh.int .i64) C code) (stab_and (stab_rd (Sh.list (Sh.int .u64)) A1 (tableOf b q)) (stab_rd (Sh.int .i32) A2 (decOf b code))))))) HK.out (Below.refl _ w4) (.int .i64 (dimOf b : Nat)) (qdim_any A b.length cb b _ ((stab_rd SPart A b) w4 w4 HK.out.2.1 (Below.refl _ w4)) rfl hc hm) (rfl)).mono ?_
  rintro e w5 ⟨rfl, hK⟩
  have HK' := hide hK
  clear hK HK
  have HK := HK'
  clear HK'
  go_wp2_with fail
  refine (Stab.call (K := (fun W => Below w.heap.size w W ∧ Rd SPart W W.heap.size A b ∧ Rd (Sh.int .i32) W W.heap.size B q ∧ Rd (Sh.int .i64) W W.heap.size C code ∧ Rd (Sh.list (Sh.int .u64)) W W.heap.size A1 (tableOf b q) ∧ Rd (Sh.int .i32) W W.heap.size A2 (decOf b code))) (stab_and (stab_below w) (stab_and (stab_rd SPart A b) (stab_and (stab_rd (Sh.int .i32) B q) (stab_and (stab_rd (Sh.int .i64) C code) (stab_and (stab_rd (Sh.list (Sh.int .u64)) A1 (tableOf b q)) (stab_rd (Sh.int .i32) A2 (decOf b code))))))) HK.out (Below.refl _ w5) (.int .i64 1) (calls_same (check_any B m d q (dimOf b : Nat) _ ((stab_rd (Sh.int .i32) B q) w5 w5 HK.out.2.2.1 (Below.refl _ w5)) Hm.out hd hm')) (congrArg (Value.int .i64) (by rw [hv]; rfl))).mono ?_
  rintro e w6 ⟨rfl, hK⟩
  have HK' := hide hK
  clear hK HK
  have HK := HK'
  clear HK'
  go_wp2_with fail
  go_ret
  exact ⟨rfl, HK.out.1⟩
set_option maxHeartbeats 4000000 in
set_option maxRecDepth 100000 in
theorem near_nocode (A B V C : Option Addr) (cb m d nv cv mc dc : Nat) (b : Book) (q code : List Int) (w : World) (hx : Rd SPart w w.heap.size A b) (hc : b.length ≤ cb) (hm : cb ≤ 9223372036854775807)
    (hy : I32s w w.heap.size B q) (hn' : q.length = m) (hd : m ≤ d) (hm' : d ≤ 9223372036854775807) (hqi : I32 q) (hz : Rd (Sh.int .i64) w w.heap.size C code) (hcn : code.length = mc) (hdc : mc ≤ dc) (hmc : dc ≤ 9223372036854775807) (ha : ¬ 300 < nv) (ha2 : ¬ 300 < m) (ha3 : ¬ 100 < mc) (hf : fitE b q = 0) (he : decE b code ≠ 0) :
    Calls Try.prog 3 #[.slice A b.length cb, .slice B m d, .slice V nv cv, .slice C mc dc] w fun e w' => e = .returned (.bool true) ∧ Below w.heap.size w w' := by
  have HX := hide hx
  have HY := hide hy
  have HZ := hide hz
  have Hm := hide hn'
  have Hc := hide hcn
  have HQI := hide hqi
  have g1 : ¬ (300 : Int) < nv := by omega
  have g2 : ¬ (300 : Int) < m := by omega
  have g3 : ¬ (100 : Int) < mc := by omega
  have HF := hide hf
  have HK9 := hide (fit_yes hf).1
  have HV9 := hide (fit_yes hf).2.1
  have HD0 := hide (show (decOf b code).length = 0 by unfold decOf; rw [if_neg he]; rfl)
  have h2 : (decE b code != 0) = true := bne_iff_ne.2 he
  clear hf
  clear hx hy hz hn' hcn hqi
  go_enter Try.func3, Try.ntmps3
  go_wp2_with (first | (go_at_call 4; refine (lives_any _).mono ?_; rintro e w1 ⟨rfl, hb⟩; have HB1 := hide hb; clear hb) | (go_at_call 5; refine (qsmall_any A b.length cb b w1 (Rd.at_world HX.out HB1.out) rfl hc hm).mono ?_; rintro e w2 ⟨⟨r, rfl⟩, rfl⟩))
  any_goals (solve
    | (go_ret
       exact ⟨rfl, HB1.out⟩))
  have HK : Hid (Below w.heap.size w w1 ∧ Rd SPart w1 w1.heap.size A b ∧ Rd (Sh.int .i32) w1 w1.heap.size B q ∧ Rd (Sh.int .i64) w1 w1.heap.size C code) := hide ⟨HB1.out, Rd.at_world HX.out HB1.out, Rd.at_world HY.out HB1.out, Rd.at_world HZ.out HB1.out⟩
  refine (table_any A B b.length cb m d b q w1 ((stab_rd SPart A b) w1 w1 HK.out.2.1 (Below.refl _ w1)) rfl hc hm ((stab_rd (Sh.int .i32) B q) w1 w1 HK.out.2.2.1 (Below.refl _ w1)) Hm.out hd hm').mono ?_
  rintro e w2 ⟨A1, nA1, cA1, rfl, hlA1, hnA1, hmA1, hR, hb⟩
  rw [HF.out]
  have HLA1 := hide hlA1
  have HR := hR.rd (B := w2.heap.size) fun b hb => hb.2
  clear hR hlA1
  have HK1 : Hid (Below w.heap.size w w2 ∧ Rd SPart w2 w2.heap.size A b ∧ Rd (Sh.int .i32) w2 w2.heap.size B q ∧ Rd (Sh.int .i64) w2 w2.heap.size C code ∧ Rd (Sh.list (Sh.int .u64)) w2 w2.heap.size A1 (tableOf b q)) := hide (⟨((stab_below w) w1 w2 HK.out.1 hb), ((stab_rd SPart A b) w1 w2 HK.out.2.1 hb), ((stab_rd (Sh.int .i32) B q) w1 w2 HK.out.2.2.1 hb), ((stab_rd (Sh.int .i64) C code) w1 w2 HK.out.2.2.2 hb), HR⟩)
  clear HK hb
  have HK := HK1
  clear HK1
  clear HR
  go_wp2_with fail
  refine (decode_any A C b.length cb mc dc b code w2 ((stab_rd SPart A b) w2 w2 HK.out.2.1 (Below.refl _ w2)) rfl hc hm ((stab_rd (Sh.int .i64) C code) w2 w2 HK.out.2.2.2.1 (Below.refl _ w2)) Hc.out hdc hmc).mono ?_
  rintro e w3 ⟨A2, nA2, cA2, rfl, hlA2, hnA2, hmA2, hR, hb⟩
  have HLA2 := hide hlA2
  have HR := hR.rd (B := w3.heap.size) fun b hb => hb.2
  clear hR hlA2
  have HK1 : Hid (Below w.heap.size w w3 ∧ Rd SPart w3 w3.heap.size A b ∧ Rd (Sh.int .i32) w3 w3.heap.size B q ∧ Rd (Sh.int .i64) w3 w3.heap.size C code ∧ Rd (Sh.list (Sh.int .u64)) w3 w3.heap.size A1 (tableOf b q) ∧ Rd (Sh.int .i32) w3 w3.heap.size A2 (decOf b code)) := hide (⟨((stab_below w) w2 w3 HK.out.1 hb), ((stab_rd SPart A b) w2 w3 HK.out.2.1 hb), ((stab_rd (Sh.int .i32) B q) w2 w3 HK.out.2.2.1 hb), ((stab_rd (Sh.int .i64) C code) w2 w3 HK.out.2.2.2.1 hb), ((stab_rd (Sh.list (Sh.int .u64)) A1 (tableOf b q)) w2 w3 HK.out.2.2.2.2 hb), HR⟩)
  clear HK hb
  have HK := HK1
  clear HK1
  clear HR
  obtain rfl : 0 = nA2 := by have := HLA2.out; rwa [HD0.out] at this
  go_wp2_with fail
  refine (Stab.call (K := (fun W => Below w.heap.size w W ∧ Rd SPart W W.heap.size A b ∧ Rd (Sh.int .i32) W W.heap.size B q ∧ Rd (Sh.int .i64) W W.heap.size C code ∧ Rd (Sh.list (Sh.int .u64)) W W.heap.size A1 (tableOf b q) ∧ Rd (Sh.int .i32) W W.heap.size A2 (decOf b code))) (stab_and (stab_below w) (stab_and (stab_rd SPart A b) (stab_and (stab_rd (Sh.int .i32) B q) (stab_and (stab_rd (Sh.int .i64) C code) (stab_and (stab_rd (Sh.list (Sh.int .u64)) A1 (tableOf b q)) (stab_rd (Sh.int .i32) A2 (decOf b code))))))) HK.out (Below.refl _ w3) (.int .i64 0) (qcheck_any A b.length cb b _ ((stab_rd SPart A b) w3 w3 HK.out.2.1 (Below.refl _ w3)) rfl hc hm) (congrArg (Value.int .i64) (by unfold chkE; rw [HK9.out]; rfl))).mono ?_
  rintro e w4 ⟨rfl, hK⟩
  have HK' := hide hK
  clear hK HK
  have HK := HK'
  clear HK'
  go_wp2_with fail
  refine (Stab.call (K := (fun W => Below w.heap.size w W ∧ Rd SPart W W.heap.size A b ∧ Rd (Sh.int .i32) W W.heap.size B q ∧ Rd (Sh.int .i64) W W.heap.size C code ∧ Rd (Sh.list (Sh.int .u64)) W W.heap.size A1 (tableOf b q) ∧ Rd (Sh.int .i32) W W.heap.size A2 (decOf b code))) (stab_and (stab_below w) (stab_and (stab_rd SPart A b) (stab_and (stab_rd (Sh.int .i32) B q) (stab_and (stab_rd (Sh.int .i64) C code) (stab_and (stab_rd (Sh.list (Sh.int .u64)) A1 (tableOf b q)) (stab_rd (Sh.int .i32) A2 (decOf b code))))))) HK.out (Below.refl _ w4) (.int .i64 (dimOf b : Nat)) (qdim_any A b.length cb b _ ((stab_rd SPart A b) w4 w4 HK.out.2.1 (Below.refl _ w4)) rfl hc hm) (rfl)).mono ?_
  rintro e w5 ⟨rfl, hK⟩
  have HK' := hide hK
  clear hK HK
  have HK := HK'
  clear HK'
  go_wp2_with fail
  refine (Stab.call (K := (fun W => Below w.heap.size w W ∧ Rd SPart W W.heap.size A b ∧ Rd (Sh.int .i32) W W.heap.size B q ∧ Rd (Sh.int .i64) W W.heap.size C code ∧ Rd (Sh.list (Sh.int .u64)) W W.heap.size A1 (tableOf b q) ∧ Rd (Sh.int .i32) W W.heap.size A2 (decOf b code))) (stab_and (stab_below w) (stab_and (stab_rd SPart A b) (stab_and (stab_rd (Sh.int .i32) B q) (stab_and (stab_rd (Sh.int .i64) C code) (stab_and (stab_rd (Sh.list (Sh.int .u64)) A1 (tableOf b q)) (stab_rd (Sh.int .i32) A2 (decOf b code))))))) HK.out (Below.refl _ w5) (.int .i64 0) (calls_same (check_any B m d q (dimOf b : Nat) _ ((stab_rd (Sh.int .i32) B q) w5 w5 HK.out.2.2.1 (Below.refl _ w5)) Hm.out hd hm')) (congrArg (Value.int .i64) (by rw [HV9.out]; rfl))).mono ?_
  rintro e w6 ⟨rfl, hK⟩
  have HK' := hide hK
  clear hK HK
  have HK := HK'
  clear HK'
  go_wp2_with fail
  go_ret
  exact ⟨rfl, HK.out.1⟩
theorem far_ok (A C : Option Addr) (n c m d : Nat) (b : Book) (q code : List Int) (w : World) (hx : Rd (Sh.list (Sh.int .u64)) w w.heap.size A (tblK b q b.length)) (hn : (tblK b q b.length).length = n) (hc : n ≤ c) (hm : c ≤ 9223372036854775807)
    (hy : Rd (Sh.int .i64) w w.heap.size C code) (hn' : code.length = m) (hd : m ≤ d) (hm' : d ≤ 9223372036854775807) (hk : chkB b = true) (hok : okC b code) (hq : q.length = sumK b b.length) :
    Calls Try.prog 11 #[.slice A n c, .slice C m d] w fun e w' => e = .returned (.tuple #[.int .u64 (distOf q (decK b code b.length)), .int .i64 0]) ∧ w = w' :=
  (far_any A C n c m d _ code w hx hn hc hm (U64_tbl _) hy hn' hd hm').mono fun e w' h => by
    rcases h.1 with ⟨_, he⟩ | ⟨hno, _⟩
    · refine ⟨?_, h.2⟩
      rw [he, ← hn', hok.1, far_dist hk hok hq]
    · exact absurd (okT_tbl hk hok) hno
set_option maxHeartbeats 4000000 in
set_option maxRecDepth 100000 in
theorem near_main (A B V C : Option Addr) (cb m d nv cv mc dc : Nat) (b : Book) (q code : List Int) (w : World) (hx : Rd SPart w w.heap.size A b) (hc : b.length ≤ cb) (hm : cb ≤ 9223372036854775807)
    (hy : I32s w w.heap.size B q) (hn' : q.length = m) (hd : m ≤ d) (hm' : d ≤ 9223372036854775807) (hqi : I32 q) (hz : Rd (Sh.int .i64) w w.heap.size C code) (hcn : code.length = mc) (hdc : mc ≤ dc) (hmc : dc ≤ 9223372036854775807) (ha : ¬ 300 < nv) (ha2 : ¬ 300 < m) (ha3 : ¬ 100 < mc) (hf : fitE b q = 0) (he : decE b code = 0) :
    Calls Try.prog 3 #[.slice A b.length cb, .slice B m d, .slice V nv cv, .slice C mc dc] w fun e w' => e = .returned (.bool true) ∧ Below w.heap.size w w' := by
  have HX := hide hx
  have HY := hide hy
  have HZ := hide hz
  have Hm := hide hn'
  have Hc := hide hcn
  have HQI := hide hqi
  have g1 : ¬ (300 : Int) < nv := by omega
  have g2 : ¬ (300 : Int) < m := by omega
  have g3 : ¬ (100 : Int) < mc := by omega
  have hk := (fit_yes hf).1
  have hok := (decE_zero he).2
  have hown := enc_ok (q := q) hk
  have hag := enc_ok (q := (decK b code b.length)) hk
  have hxv := dec_vecOk hk hok
  have HF := hide hf
  have HE := hide he
  have HK9 := hide hk
  have HO9 := hide hok
  have HLQ := hide (fit_yes hf).2.2
  have HT := hide (show tableOf b q = tblK b q b.length by unfold tableOf; rw [if_pos hf])
  have HD := hide (show decOf b code = (decK b code b.length) by unfold decOf; rw [if_pos he])
  have HXV := hide hxv
  have HXI := hide (vecOk_I32 hxv)
  have HEN := hide (show encOf b q = ((List.range b.length).map (encL b q)) by unfold encOf; rw [if_pos hf])
  have hE4 := decE_yes hk hown
  have HE4 := hide hE4
  have HD4 := hide (show decOf b ((List.range b.length).map (encL b q)) = (decK b ((List.range b.length).map (encL b q)) b.length) by unfold decOf; rw [if_pos hE4])
  have HYI := hide (vecOk_I32 (dec_vecOk hk hown))
  have hf5 : fitE b (decK b code b.length) = 0 := by unfold fitE; rw [if_pos hk, hxv]; rfl
  have HF5 := hide hf5
  have HEN5 := hide (show encOf b (decK b code b.length) = ((List.range b.length).map (encL b (decK b code b.length))) by unfold encOf; rw [if_pos hf5])
  have hE6 := decE_yes hk hag
  have HE6 := hide hE6
  have HD6 := hide (show decOf b ((List.range b.length).map (encL b (decK b code b.length))) = (decK b ((List.range b.length).map (encL b (decK b code b.length))) b.length) by unfold decOf; rw [if_pos hE6])
  have HLE := hide (show distOf q (decK b ((List.range b.length).map (encL b q)) b.length) ≤ distOf q (decK b code b.length) by
    rw [← far_dist hk hok (fit_yes hf).2.2, ← far_dist hk hown (fit_yes hf).2.2]
    exact held_mono (own_least hk hok _ (Nat.le_refl _)))
  have HSM := hide (again_same hk hok)
  clear hf he hk hok hown hag hxv hE4 hf5 hE6
  clear hx hy hz hn' hcn hqi
  go_enter Try.func3, Try.ntmps3
  go_wp2_with (first | (go_at_call 4; refine (lives_any _).mono ?_; rintro e w1 ⟨rfl, hb⟩; have HB1 := hide hb; clear hb) | (go_at_call 5; refine (qsmall_any A b.length cb b w1 (Rd.at_world HX.out HB1.out) rfl hc hm).mono ?_; rintro e w2 ⟨⟨r, rfl⟩, rfl⟩))
  any_goals (solve
    | (go_ret
       exact ⟨rfl, HB1.out⟩))
  have HK : Hid (Below w.heap.size w w1 ∧ Rd SPart w1 w1.heap.size A b ∧ Rd (Sh.int .i32) w1 w1.heap.size B q ∧ Rd (Sh.int .i64) w1 w1.heap.size C code) := hide ⟨HB1.out, Rd.at_world HX.out HB1.out, Rd.at_world HY.out HB1.out, Rd.at_world HZ.out HB1.out⟩
  refine (table_any A B b.length cb m d b q w1 ((stab_rd SPart A b) w1 w1 HK.out.2.1 (Below.refl _ w1)) rfl hc hm ((stab_rd (Sh.int .i32) B q) w1 w1 HK.out.2.2.1 (Below.refl _ w1)) Hm.out hd hm').mono ?_
  rintro e w2 ⟨A1, nA1, cA1, rfl, hlA1, hnA1, hmA1, hR, hb⟩
  rw [HF.out]
  rw [HT.out] at hlA1 hR
  have HLA1 := hide hlA1
  have HR := hR.rd (B := w2.heap.size) fun b hb => hb.2
  clear hR hlA1
  have HK1 : Hid (Below w.heap.size w w2 ∧ Rd SPart w2 w2.heap.size A b ∧ Rd (Sh.int .i32) w2 w2.heap.size B q ∧ Rd (Sh.int .i64) w2 w2.heap.size C code ∧ Rd (Sh.list (Sh.int .u64)) w2 w2.heap.size A1 (tblK b q b.length)) := hide (⟨((stab_below w) w1 w2 HK.out.1 hb), ((stab_rd SPart A b) w1 w2 HK.out.2.1 hb), ((stab_rd (Sh.int .i32) B q) w1 w2 HK.out.2.2.1 hb), ((stab_rd (Sh.int .i64) C code) w1 w2 HK.out.2.2.2 hb), HR⟩)
  clear HK hb
  have HK := HK1
  clear HK1
  clear HR
  go_wp2_with fail
  refine (decode_any A C b.length cb mc dc b code w2 ((stab_rd SPart A b) w2 w2 HK.out.2.1 (Below.refl _ w2)) rfl hc hm ((stab_rd (Sh.int .i64) C code) w2 w2 HK.out.2.2.2.1 (Below.refl _ w2)) Hc.out hdc hmc).mono ?_
  rintro e w3 ⟨A2, nA2, cA2, rfl, hlA2, hnA2, hmA2, hR, hb⟩
  rw [HE.out]
  rw [HD.out] at hlA2 hR
  have HLA2 := hide hlA2
  have HR := hR.rd (B := w3.heap.size) fun b hb => hb.2
  clear hR hlA2
  have HK1 : Hid (Below w.heap.size w w3 ∧ Rd SPart w3 w3.heap.size A b ∧ Rd (Sh.int .i32) w3 w3.heap.size B q ∧ Rd (Sh.int .i64) w3 w3.heap.size C code ∧ Rd (Sh.list (Sh.int .u64)) w3 w3.heap.size A1 (tblK b q b.length) ∧ Rd (Sh.int .i32) w3 w3.heap.size A2 (decK b code b.length)) := hide (⟨((stab_below w) w2 w3 HK.out.1 hb), ((stab_rd SPart A b) w2 w3 HK.out.2.1 hb), ((stab_rd (Sh.int .i32) B q) w2 w3 HK.out.2.2.1 hb), ((stab_rd (Sh.int .i64) C code) w2 w3 HK.out.2.2.2.1 hb), ((stab_rd (Sh.list (Sh.int .u64)) A1 (tblK b q b.length)) w2 w3 HK.out.2.2.2.2 hb), HR⟩)
  clear HK hb
  have HK := HK1
  clear HK1
  clear HR
  have FAR := hide (fun (W : World) (h : Rd (Sh.list (Sh.int .u64)) W W.heap.size A1 (tblK b q b.length)) (h2 : Rd (Sh.int .i64) W W.heap.size C code) => far_ok A1 C nA1 cA1 mc dc b q code W h HLA1.out hnA1 hmA1 h2 Hc.out hdc hmc HK9.out HO9.out HLQ.out)
  go_wp2_with fail
  refine (Stab.call (K := (fun W => Below w.heap.size w W ∧ Rd SPart W W.heap.size A b ∧ Rd (Sh.int .i32) W W.heap.size B q ∧ Rd (Sh.int .i64) W W.heap.size C code ∧ Rd (Sh.list (Sh.int .u64)) W W.heap.size A1 (tblK b q b.length) ∧ Rd (Sh.int .i32) W W.heap.size A2 (decK b code b.length))) (stab_and (stab_below w) (stab_and (stab_rd SPart A b) (stab_and (stab_rd (Sh.int .i32) B q) (stab_and (stab_rd (Sh.int .i64) C code) (stab_and (stab_rd (Sh.list (Sh.int .u64)) A1 (tblK b q b.length)) (stab_rd (Sh.int .i32) A2 (decK b code b.length))))))) HK.out (Below.refl _ w3) (.tuple #[.int .u64 (distOf q (decK b code b.length)), .int .i64 0]) (calls_same (FAR.out _ ((stab_rd (Sh.list (Sh.int .u64)) A1 (tblK b q b.length)) w3 w3 HK.out.2.2.2.2.1 (Below.refl _ w3)) ((stab_rd (Sh.int .i64) C code) w3 w3 HK.out.2.2.2.1 (Below.refl _ w3)))) (rfl)).mono ?_
  rintro e w4 ⟨rfl, hK⟩
  have HK' := hide hK
  clear hK HK
  have HK := HK'
  clear HK'
  have e1 : (distOf q (decK b code b.length) != distOf q (decK b code b.length)) = false := by simp
  go_wp2_with fail
  refine (Stab.call (K := (fun W => Below w.heap.size w W ∧ Rd SPart W W.heap.size A b ∧ Rd (Sh.int .i32) W W.heap.size B q ∧ Rd (Sh.int .i64) W W.heap.size C code ∧ Rd (Sh.list (Sh.int .u64)) W W.heap.size A1 (tblK b q b.length) ∧ Rd (Sh.int .i32) W W.heap.size A2 (decK b code b.length))) (stab_and (stab_below w) (stab_and (stab_rd SPart A b) (stab_and (stab_rd (Sh.int .i32) B q) (stab_and (stab_rd (Sh.int .i64) C code) (stab_and (stab_rd (Sh.list (Sh.int .u64)) A1 (tblK b q b.length)) (stab_rd (Sh.int .i32) A2 (decK b code b.length))))))) HK.out (Below.refl _ w4) (.int .u64 (distOf q (decK b code b.length))) (calls_same (dist_any B A2 m d nA2 cA2 q (decK b code b.length) _ ((stab_rd (Sh.int .i32) B q) w4 w4 HK.out.2.2.1 (Below.refl _ w4)) Hm.out HQI.out hd hm' ((stab_rd (Sh.int .i32) A2 (decK b code b.length)) w4 w4 HK.out.2.2.2.2.2 (Below.refl _ w4)) HLA2.out HXI.out hnA2 hmA2)) (rfl)).mono ?_
  rintro e w5 ⟨rfl, hK⟩
  have HK' := hide hK
  clear hK HK
  have HK := HK'
  clear HK'
  go_wp2_with fail
  refine (Stab.call (K := (fun W => Below w.heap.size w W ∧ Rd SPart W W.heap.size A b ∧ Rd (Sh.int .i32) W W.heap.size B q ∧ Rd (Sh.int .i64) W W.heap.size C code ∧ Rd (Sh.list (Sh.int .u64)) W W.heap.size A1 (tblK b q b.length) ∧ Rd (Sh.int .i32) W W.heap.size A2 (decK b code b.length))) (stab_and (stab_below w) (stab_and (stab_rd SPart A b) (stab_and (stab_rd (Sh.int .i32) B q) (stab_and (stab_rd (Sh.int .i64) C code) (stab_and (stab_rd (Sh.list (Sh.int .u64)) A1 (tblK b q b.length)) (stab_rd (Sh.int .i32) A2 (decK b code b.length))))))) HK.out (Below.refl _ w5) (.int .i64 (dimOf b : Nat)) (qdim_any A b.length cb b _ ((stab_rd SPart A b) w5 w5 HK.out.2.1 (Below.refl _ w5)) rfl hc hm) (rfl)).mono ?_
  rintro e w6 ⟨rfl, hK⟩
  have HK' := hide hK
  clear hK HK
  have HK := HK'
  clear HK'
  go_wp2_with fail
  refine (Stab.call (K := (fun W => Below w.heap.size w W ∧ Rd SPart W W.heap.size A b ∧ Rd (Sh.int .i32) W W.heap.size B q ∧ Rd (Sh.int .i64) W W.heap.size C code ∧ Rd (Sh.list (Sh.int .u64)) W W.heap.size A1 (tblK b q b.length) ∧ Rd (Sh.int .i32) W W.heap.size A2 (decK b code b.length))) (stab_and (stab_below w) (stab_and (stab_rd SPart A b) (stab_and (stab_rd (Sh.int .i32) B q) (stab_and (stab_rd (Sh.int .i64) C code) (stab_and (stab_rd (Sh.list (Sh.int .u64)) A1 (tblK b q b.length)) (stab_rd (Sh.int .i32) A2 (decK b code b.length))))))) HK.out (Below.refl _ w6) (.int .i64 0) (calls_same (check_any A2 nA2 cA2 (decK b code b.length) (dimOf b : Nat) _ ((stab_rd (Sh.int .i32) A2 (decK b code b.length)) w6 w6 HK.out.2.2.2.2.2 (Below.refl _ w6)) HLA2.out hnA2 hmA2)) (congrArg (Value.int .i64) (by rw [HXV.out]; rfl))).mono ?_
  rintro e w7 ⟨rfl, hK⟩
  have HK' := hide hK
  clear hK HK
  have HK := HK'
  clear HK'
  go_wp2_with fail
  refine (encode_any A B b.length cb m d b q w7 ((stab_rd SPart A b) w7 w7 HK.out.2.1 (Below.refl _ w7)) rfl hc hm ((stab_rd (Sh.int .i32) B q) w7 w7 HK.out.2.2.1 (Below.refl _ w7)) Hm.out hd hm').mono ?_
  rintro e w8 ⟨A3, nA3, cA3, rfl, hlA3, hnA3, hmA3, hR, hb⟩
  rw [HF.out]
  rw [HEN.out] at hlA3 hR
  have HLA3 := hide hlA3
  have HR := hR.rd (B := w8.heap.size) fun b hb => hb.2
  clear hR hlA3
  have HK1 : Hid (Below w.heap.size w w8 ∧ Rd SPart w8 w8.heap.size A b ∧ Rd (Sh.int .i32) w8 w8.heap.size B q ∧ Rd (Sh.int .i64) w8 w8.heap.size C code ∧ Rd (Sh.list (Sh.int .u64)) w8 w8.heap.size A1 (tblK b q b.length) ∧ Rd (Sh.int .i32) w8 w8.heap.size A2 (decK b code b.length) ∧ Rd (Sh.int .i64) w8 w8.heap.size A3 ((List.range b.length).map (encL b q))) := hide (⟨((stab_below w) w7 w8 HK.out.1 hb), ((stab_rd SPart A b) w7 w8 HK.out.2.1 hb), ((stab_rd (Sh.int .i32) B q) w7 w8 HK.out.2.2.1 hb), ((stab_rd (Sh.int .i64) C code) w7 w8 HK.out.2.2.2.1 hb), ((stab_rd (Sh.list (Sh.int .u64)) A1 (tblK b q b.length)) w7 w8 HK.out.2.2.2.2.1 hb), ((stab_rd (Sh.int .i32) A2 (decK b code b.length)) w7 w8 HK.out.2.2.2.2.2 hb), HR⟩)
  clear HK hb
  have HK := HK1
  clear HK1
  clear HR
  go_wp2_with fail
  refine (decode_any A A3 b.length cb nA3 cA3 b ((List.range b.length).map (encL b q)) w8 ((stab_rd SPart A b) w8 w8 HK.out.2.1 (Below.refl _ w8)) rfl hc hm ((stab_rd (Sh.int .i64) A3 ((List.range b.length).map (encL b q))) w8 w8 HK.out.2.2.2.2.2.2 (Below.refl _ w8)) HLA3.out hnA3 hmA3).mono ?_
  rintro e w9 ⟨A4, nA4, cA4, rfl, hlA4, hnA4, hmA4, hR, hb⟩
  rw [HE4.out]
  rw [HD4.out] at hlA4 hR
  have HLA4 := hide hlA4
  have HR := hR.rd (B := w9.heap.size) fun b hb => hb.2
  clear hR hlA4
  have HK1 : Hid (Below w.heap.size w w9 ∧ Rd SPart w9 w9.heap.size A b ∧ Rd (Sh.int .i32) w9 w9.heap.size B q ∧ Rd (Sh.int .i64) w9 w9.heap.size C code ∧ Rd (Sh.list (Sh.int .u64)) w9 w9.heap.size A1 (tblK b q b.length) ∧ Rd (Sh.int .i32) w9 w9.heap.size A2 (decK b code b.length) ∧ Rd (Sh.int .i64) w9 w9.heap.size A3 ((List.range b.length).map (encL b q)) ∧ Rd (Sh.int .i32) w9 w9.heap.size A4 (decK b ((List.range b.length).map (encL b q)) b.length)) := hide (⟨((stab_below w) w8 w9 HK.out.1 hb), ((stab_rd SPart A b) w8 w9 HK.out.2.1 hb), ((stab_rd (Sh.int .i32) B q) w8 w9 HK.out.2.2.1 hb), ((stab_rd (Sh.int .i64) C code) w8 w9 HK.out.2.2.2.1 hb), ((stab_rd (Sh.list (Sh.int .u64)) A1 (tblK b q b.length)) w8 w9 HK.out.2.2.2.2.1 hb), ((stab_rd (Sh.int .i32) A2 (decK b code b.length)) w8 w9 HK.out.2.2.2.2.2.1 hb), ((stab_rd (Sh.int .i64) A3 ((List.range b.length).map (encL b q))) w8 w9 HK.out.2.2.2.2.2.2 hb), HR⟩)
  clear HK hb
  have HK := HK1
  clear HK1
  clear HR
  go_wp2_with fail
  refine (encode_any A A2 b.length cb nA2 cA2 b (decK b code b.length) w9 ((stab_rd SPart A b) w9 w9 HK.out.2.1 (Below.refl _ w9)) rfl hc hm ((stab_rd (Sh.int .i32) A2 (decK b code b.length)) w9 w9 HK.out.2.2.2.2.2.1 (Below.refl _ w9)) HLA2.out hnA2 hmA2).mono ?_
  rintro e w10 ⟨A5, nA5, cA5, rfl, hlA5, hnA5, hmA5, hR, hb⟩
  rw [HF5.out]
  rw [HEN5.out] at hlA5 hR
  have HLA5 := hide hlA5
  have HR := hR.rd (B := w10.heap.size) fun b hb => hb.2
  clear hR hlA5
  have HK1 : Hid (Below w.heap.size w w10 ∧ Rd SPart w10 w10.heap.size A b ∧ Rd (Sh.int .i32) w10 w10.heap.size B q ∧ Rd (Sh.int .i64) w10 w10.heap.size C code ∧ Rd (Sh.list (Sh.int .u64)) w10 w10.heap.size A1 (tblK b q b.length) ∧ Rd (Sh.int .i32) w10 w10.heap.size A2 (decK b code b.length) ∧ Rd (Sh.int .i64) w10 w10.heap.size A3 ((List.range b.length).map (encL b q)) ∧ Rd (Sh.int .i32) w10 w10.heap.size A4 (decK b ((List.range b.length).map (encL b q)) b.length) ∧ Rd (Sh.int .i64) w10 w10.heap.size A5 ((List.range b.length).map (encL b (decK b code b.length)))) := hide (⟨((stab_below w) w9 w10 HK.out.1 hb), ((stab_rd SPart A b) w9 w10 HK.out.2.1 hb), ((stab_rd (Sh.int .i32) B q) w9 w10 HK.out.2.2.1 hb), ((stab_rd (Sh.int .i64) C code) w9 w10 HK.out.2.2.2.1 hb), ((stab_rd (Sh.list (Sh.int .u64)) A1 (tblK b q b.length)) w9 w10 HK.out.2.2.2.2.1 hb), ((stab_rd (Sh.int .i32) A2 (decK b code b.length)) w9 w10 HK.out.2.2.2.2.2.1 hb), ((stab_rd (Sh.int .i64) A3 ((List.range b.length).map (encL b q))) w9 w10 HK.out.2.2.2.2.2.2.1 hb), ((stab_rd (Sh.int .i32) A4 (decK b ((List.range b.length).map (encL b q)) b.length)) w9 w10 HK.out.2.2.2.2.2.2.2 hb), HR⟩)
  clear HK hb
  have HK := HK1
  clear HK1
  clear HR
  go_wp2_with fail
  refine (decode_any A A5 b.length cb nA5 cA5 b ((List.range b.length).map (encL b (decK b code b.length))) w10 ((stab_rd SPart A b) w10 w10 HK.out.2.1 (Below.refl _ w10)) rfl hc hm ((stab_rd (Sh.int .i64) A5 ((List.range b.length).map (encL b (decK b code b.length)))) w10 w10 HK.out.2.2.2.2.2.2.2.2 (Below.refl _ w10)) HLA5.out hnA5 hmA5).mono ?_
  rintro e w11 ⟨A6, nA6, cA6, rfl, hlA6, hnA6, hmA6, hR, hb⟩
  rw [HE6.out]
  rw [HD6.out] at hlA6 hR
  have HLA6 := hide hlA6
  have HR := hR.rd (B := w11.heap.size) fun b hb => hb.2
  clear hR hlA6
  have HK1 : Hid (Below w.heap.size w w11 ∧ Rd SPart w11 w11.heap.size A b ∧ Rd (Sh.int .i32) w11 w11.heap.size B q ∧ Rd (Sh.int .i64) w11 w11.heap.size C code ∧ Rd (Sh.list (Sh.int .u64)) w11 w11.heap.size A1 (tblK b q b.length) ∧ Rd (Sh.int .i32) w11 w11.heap.size A2 (decK b code b.length) ∧ Rd (Sh.int .i64) w11 w11.heap.size A3 ((List.range b.length).map (encL b q)) ∧ Rd (Sh.int .i32) w11 w11.heap.size A4 (decK b ((List.range b.length).map (encL b q)) b.length) ∧ Rd (Sh.int .i64) w11 w11.heap.size A5 ((List.range b.length).map (encL b (decK b code b.length))) ∧ Rd (Sh.int .i32) w11 w11.heap.size A6 (decK b ((List.range b.length).map (encL b (decK b code b.length))) b.length)) := hide (⟨((stab_below w) w10 w11 HK.out.1 hb), ((stab_rd SPart A b) w10 w11 HK.out.2.1 hb), ((stab_rd (Sh.int .i32) B q) w10 w11 HK.out.2.2.1 hb), ((stab_rd (Sh.int .i64) C code) w10 w11 HK.out.2.2.2.1 hb), ((stab_rd (Sh.list (Sh.int .u64)) A1 (tblK b q b.length)) w10 w11 HK.out.2.2.2.2.1 hb), ((stab_rd (Sh.int .i32) A2 (decK b code b.length)) w10 w11 HK.out.2.2.2.2.2.1 hb), ((stab_rd (Sh.int .i64) A3 ((List.range b.length).map (encL b q))) w10 w11 HK.out.2.2.2.2.2.2.1 hb), ((stab_rd (Sh.int .i32) A4 (decK b ((List.range b.length).map (encL b q)) b.length)) w10 w11 HK.out.2.2.2.2.2.2.2.1 hb), ((stab_rd (Sh.int .i64) A5 ((List.range b.length).map (encL b (decK b code b.length)))) w10 w11 HK.out.2.2.2.2.2.2.2.2 hb), HR⟩)
  clear HK hb
  have HK := HK1
  clear HK1
  clear HR
  go_wp2_with fail
  refine (Stab.call (K := (fun W => Below w.heap.size w W ∧ Rd SPart W W.heap.size A b ∧ Rd (Sh.int .i32) W W.heap.size B q ∧ Rd (Sh.int .i64) W W.heap.size C code ∧ Rd (Sh.list (Sh.int .u64)) W W.heap.size A1 (tblK b q b.length) ∧ Rd (Sh.int .i32) W W.heap.size A2 (decK b code b.length) ∧ Rd (Sh.int .i64) W W.heap.size A3 ((List.range b.length).map (encL b q)) ∧ Rd (Sh.int .i32) W W.heap.size A4 (decK b ((List.range b.length).map (encL b q)) b.length) ∧ Rd (Sh.int .i64) W W.heap.size A5 ((List.range b.length).map (encL b (decK b code b.length))) ∧ Rd (Sh.int .i32) W W.heap.size A6 (decK b ((List.range b.length).map (encL b (decK b code b.length))) b.length))) (stab_and (stab_below w) (stab_and (stab_rd SPart A b) (stab_and (stab_rd (Sh.int .i32) B q) (stab_and (stab_rd (Sh.int .i64) C code) (stab_and (stab_rd (Sh.list (Sh.int .u64)) A1 (tblK b q b.length)) (stab_and (stab_rd (Sh.int .i32) A2 (decK b code b.length)) (stab_and (stab_rd (Sh.int .i64) A3 ((List.range b.length).map (encL b q))) (stab_and (stab_rd (Sh.int .i32) A4 (decK b ((List.range b.length).map (encL b q)) b.length)) (stab_and (stab_rd (Sh.int .i64) A5 ((List.range b.length).map (encL b (decK b code b.length)))) (stab_rd (Sh.int .i32) A6 (decK b ((List.range b.length).map (encL b (decK b code b.length))) b.length))))))))))) HK.out (Below.refl _ w11) (.int .u64 (distOf q (decK b ((List.range b.length).map (encL b q)) b.length))) (calls_same (dist_any B A4 m d nA4 cA4 q (decK b ((List.range b.length).map (encL b q)) b.length) _ ((stab_rd (Sh.int .i32) B q) w11 w11 HK.out.2.2.1 (Below.refl _ w11)) Hm.out HQI.out hd hm' ((stab_rd (Sh.int .i32) A4 (decK b ((List.range b.length).map (encL b q)) b.length)) w11 w11 HK.out.2.2.2.2.2.2.2.1 (Below.refl _ w11)) HLA4.out HYI.out hnA4 hmA4)) (rfl)).mono ?_
  rintro e w12 ⟨rfl, hK⟩
  have HK' := hide hK
  clear hK HK
  have HK := HK'
  clear HK'
  have e2 : decide (distOf q (decK b ((List.range b.length).map (encL b q)) b.length) ≤ distOf q (decK b code b.length)) = true := decide_eq_true HLE.out
  go_wp2_with fail
  refine (Stab.call (K := (fun W => Below w.heap.size w W ∧ Rd SPart W W.heap.size A b ∧ Rd (Sh.int .i32) W W.heap.size B q ∧ Rd (Sh.int .i64) W W.heap.size C code ∧ Rd (Sh.list (Sh.int .u64)) W W.heap.size A1 (tblK b q b.length) ∧ Rd (Sh.int .i32) W W.heap.size A2 (decK b code b.length) ∧ Rd (Sh.int .i64) W W.heap.size A3 ((List.range b.length).map (encL b q)) ∧ Rd (Sh.int .i32) W W.heap.size A4 (decK b ((List.range b.length).map (encL b q)) b.length) ∧ Rd (Sh.int .i64) W W.heap.size A5 ((List.range b.length).map (encL b (decK b code b.length))) ∧ Rd (Sh.int .i32) W W.heap.size A6 (decK b ((List.range b.length).map (encL b (decK b code b.length))) b.length))) (stab_and (stab_below w) (stab_and (stab_rd SPart A b) (stab_and (stab_rd (Sh.int .i32) B q) (stab_and (stab_rd (Sh.int .i64) C code) (stab_and (stab_rd (Sh.list (Sh.int .u64)) A1 (tblK b q b.length)) (stab_and (stab_rd (Sh.int .i32) A2 (decK b code b.length)) (stab_and (stab_rd (Sh.int .i64) A3 ((List.range b.length).map (encL b q))) (stab_and (stab_rd (Sh.int .i32) A4 (decK b ((List.range b.length).map (encL b q)) b.length)) (stab_and (stab_rd (Sh.int .i64) A5 ((List.range b.length).map (encL b (decK b code b.length)))) (stab_rd (Sh.int .i32) A6 (decK b ((List.range b.length).map (encL b (decK b code b.length))) b.length))))))))))) HK.out (Below.refl _ w12) (.bool true) (calls_drew (same_any A2 A6 nA2 cA2 nA6 cA6 (decK b code b.length) (decK b ((List.range b.length).map (encL b (decK b code b.length))) b.length) _ ((stab_rd (Sh.int .i32) A2 (decK b code b.length)) w12 w12 HK.out.2.2.2.2.2.1 (Below.refl _ w12)) HLA2.out hnA2 hmA2 ((stab_rd (Sh.int .i32) A6 (decK b ((List.range b.length).map (encL b (decK b code b.length))) b.length)) w12 w12 HK.out.2.2.2.2.2.2.2.2.2 (Below.refl _ w12)) HLA6.out hnA6 hmA6)) (congrArg Value.bool (decide_eq_true HSM.out.symm))).mono ?_
  rintro e w13 ⟨rfl, hK⟩
  have HK' := hide hK
  clear hK HK
  have HK := HK'
  clear HK'
  go_wp2_with fail
  go_ret
  exact ⟨rfl, HK.out.1⟩
theorem near_any (A B V C : Option Addr) (cb m d nv cv mc dc : Nat) (b : Book) (q code : List Int) (w : World) (hx : Rd SPart w w.heap.size A b) (hc : b.length ≤ cb) (hm : cb ≤ 9223372036854775807)
    (hy : I32s w w.heap.size B q) (hn' : q.length = m) (hd : m ≤ d) (hm' : d ≤ 9223372036854775807) (hqi : I32 q) (hz : Rd (Sh.int .i64) w w.heap.size C code) (hcn : code.length = mc) (hdc : mc ≤ dc) (hmc : dc ≤ 9223372036854775807) (hn9 : nv ≤ cv) :
    Calls Try.prog 3 #[.slice A b.length cb, .slice B m d, .slice V nv cv, .slice C mc dc] w fun e w' => e = .returned (.bool true) ∧ Below w.heap.size w w' := by
  by_cases h1 : 300 < nv
  · exact near_big1 A B V C cb m d nv cv mc dc b q code w hx hc hm hy hn' hd hm' hqi hz hcn hdc hmc h1
  by_cases h2 : 300 < m
  · exact near_big2 A B V C cb m d nv cv mc dc b q code w hx hc hm hy hn' hd hm' hqi hz hcn hdc hmc h1 h2
  by_cases h3 : 100 < mc
  · exact near_big3 A B V C cb m d nv cv mc dc b q code w hx hc hm hy hn' hd hm' hqi hz hcn hdc hmc h1 h2 h3
  by_cases hf : fitE b q = 0
  · by_cases he : decE b code = 0
    · exact near_main A B V C cb m d nv cv mc dc b q code w hx hc hm hy hn' hd hm' hqi hz hcn hdc hmc h1 h2 h3 hf he
    · exact near_nocode A B V C cb m d nv cv mc dc b q code w hx hc hm hy hn' hd hm' hqi hz hcn hdc hmc h1 h2 h3 hf he
  · cases hk : chkB b with
    | false => exact near_bad1 A B V C cb m d nv cv mc dc b q code w hx hc hm hy hn' hd hm' hqi hz hcn hdc hmc h1 h2 h3 hk hf
    | true =>
      cases hv : vecOk q (dimOf b) with
      | false => exact near_bad2 A B V C cb m d nv cv mc dc b q code w hx hc hm hy hn' hd hm' hqi hz hcn hdc hmc h1 h2 h3 hk hv hf
      | true => exact absurd (by unfold fitE; rw [if_pos hk, hv]; rfl) hf
end Go.Proofs.Ytojanklgjdjniac
