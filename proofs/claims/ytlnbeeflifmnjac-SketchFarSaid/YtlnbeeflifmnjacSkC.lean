/-
  math/bits.OnesCount64: how many bits a word has.
-/
import Derived.Test.YtlnbeeflifmnjacSkP
namespace Go.Proofs.Ytlnbeeflifmnjac
set_option linter.unusedSimpArgs false
set_option linter.unusedVariables false
open Go.RowKit

/-- a number by its bytes -/
def dg : List Nat → Nat
  | [] => 0
  | b :: l => b + 256 * dg l
theorem and_dg {b c : Nat} (hb : b < 256) (hc : c < 256) (Y Z : Nat) : (b + 256 * Y) &&& (c + 256 * Z) = (b &&& c) + 256 * (Y &&& Z) := by
  have h1 := Nat.and_mod_two_pow (a := b + 256 * Y) (b := c + 256 * Z) (n := 8)
  have h2 := Nat.and_div_two_pow (a := b + 256 * Y) (b := c + 256 * Z) (n := 8)
  have e : (2 : Nat) ^ 8 = 256 := by decide
  rw [e] at h1 h2
  rw [show (b + 256 * Y) % 256 = b by omega, show (c + 256 * Z) % 256 = c by omega] at h1
  rw [show (b + 256 * Y) / 256 = Y by omega, show (c + 256 * Z) / 256 = Z by omega] at h2
  generalize (b + 256 * Y) &&& (c + 256 * Z) = q at *
  generalize b &&& c = q1 at *
  generalize Y &&& Z = q2 at *
  omega
def g1 (b : Nat) : Nat := (b / 2 &&& 85) + (b &&& 85)
def g2 (b : Nat) : Nat := (b / 4 &&& 51) + (b &&& 51)
def g3 (b : Nat) : Nat := (b / 16 + b) &&& 15
set_option maxRecDepth 100000 in
theorem d1 : ∀ (b : Fin 256) (e : Fin 2), ((b.val / 2 + 128 * e.val) &&& 85) = (b.val / 2 &&& 85) := by decide +kernel
set_option maxRecDepth 100000 in
theorem d2 : ∀ (b : Fin 256) (e : Fin 4), ((b.val / 4 + 64 * e.val) &&& 51) = (b.val / 4 &&& 51) := by decide +kernel
set_option maxRecDepth 100000 in
theorem d3 : ∀ (b : Fin 69) (e : Fin 5), ((b.val / 16 + b.val + 16 * e.val) &&& 15) = g3 b.val := by decide +kernel
set_option maxRecDepth 100000 in
theorem d4 : ∀ b : Fin 256, g1 b.val < 256 ∧ g2 (g1 b.val) < 69 ∧ g2 (g1 b.val) % 16 < 5 ∧ g3 (g2 (g1 b.val)) = (List.range 8).countP b.val.testBit := by decide +kernel
theorem s1 : ∀ l : List Nat, (∀ b ∈ l, b < 256) → (dg l / 2 &&& dg (l.map fun _ => 85)) + (dg l &&& dg (l.map fun _ => 85)) = dg (l.map g1)
  | [], _ => rfl
  | b :: l, h => by
    have hb := h b (List.mem_cons_self ..)
    have ih := s1 l fun x hx => h x (List.mem_cons_of_mem _ hx)
    simp only [dg, List.map_cons]
    generalize dg (l.map fun _ => 85) = M at *
    generalize dg (l.map g1) = G at *
    generalize dg l = Y at *
    have e : (b + 256 * Y) / 2 = (b / 2 + 128 * (Y % 2)) + 256 * (Y / 2) := by omega
    rw [e, and_dg (by omega) (by omega), and_dg hb (by omega)]
    have := d1 ⟨b, hb⟩ ⟨Y % 2, by omega⟩
    simp only at this
    rw [this]
    unfold g1
    generalize b / 2 &&& 85 = q1 at *
    generalize b &&& 85 = q2 at *
    omega
theorem s2 : ∀ l : List Nat, (∀ b ∈ l, b < 256) → (dg l / 4 &&& dg (l.map fun _ => 51)) + (dg l &&& dg (l.map fun _ => 51)) = dg (l.map g2)
  | [], _ => rfl
  | b :: l, h => by
    have hb := h b (List.mem_cons_self ..)
    have ih := s2 l fun x hx => h x (List.mem_cons_of_mem _ hx)
    simp only [dg, List.map_cons]
    generalize dg (l.map fun _ => 51) = M at *
    generalize dg (l.map g2) = G at *
    generalize dg l = Y at *
    have e : (b + 256 * Y) / 4 = (b / 4 + 64 * (Y % 4)) + 256 * (Y / 4) := by omega
    rw [e, and_dg (by omega) (by omega), and_dg hb (by omega)]
    have := d2 ⟨b, hb⟩ ⟨Y % 4, by omega⟩
    simp only at this
    rw [this]
    unfold g2
    generalize b / 4 &&& 51 = q1 at *
    generalize b &&& 51 = q2 at *
    omega
theorem dg_low : ∀ (l : List Nat), (∀ b ∈ l, b < 69 ∧ b % 16 < 5) → dg l % 16 < 5
  | [], _ => by decide
  | b :: l, h => by have := h b (List.mem_cons_self ..); simp only [dg]; omega
theorem s3 : ∀ l : List Nat, (∀ b ∈ l, b < 69 ∧ b % 16 < 5) → ((dg l / 16 + dg l) &&& dg (l.map fun _ => 15)) = dg (l.map g3)
  | [], _ => rfl
  | b :: l, h => by
    have hb := (h b (List.mem_cons_self ..)).1
    have ih := s3 l fun x hx => h x (List.mem_cons_of_mem _ hx)
    have hlow := dg_low l fun x hx => h x (List.mem_cons_of_mem _ hx)
    simp only [dg, List.map_cons]
    generalize dg (l.map fun _ => 15) = M at *
    generalize dg (l.map g3) = G at *
    generalize dg l = Y at *
    have e : (b + 256 * Y) / 16 + (b + 256 * Y) = (b / 16 + b + 16 * (Y % 16)) + 256 * (Y / 16 + Y) := by omega
    rw [e, and_dg (by omega) (by omega)]
    have := d3 ⟨b, hb⟩ ⟨Y % 16, hlow⟩
    simp only at this
    rw [this, ih]
theorem cnt_dg : ∀ l : List Nat, (∀ b ∈ l, b < 256) → (List.range (8 * l.length)).countP (dg l).testBit = (l.map fun b => (List.range 8).countP b.testBit).sum
  | [], _ => rfl
  | b :: l, h => by
    have hb := h b (List.mem_cons_self ..)
    have ih := cnt_dg l fun x hx => h x (List.mem_cons_of_mem _ hx)
    rw [List.length_cons, show 8 * (l.length + 1) = 8 + 8 * l.length by omega, List.range_add, List.countP_append, List.countP_map, List.map_cons, List.sum_cons, ← ih]
    have hh : ∀ j, (dg (b :: l)).testBit j = if j < 8 then b.testBit j else (dg l).testBit (j - 8) := fun j => by
      have := Nat.testBit_two_pow_mul_add (dg l) (show b < 2 ^ 8 by omega) j
      rw [← this]
      congr 1
      simp only [dg]
      omega
    have c1 : List.countP (dg (b :: l)).testBit (List.range 8) = List.countP b.testBit (List.range 8) := List.countP_congr fun j hj => by
      rw [hh, if_pos (List.mem_range.1 hj)]
    have c2 : List.countP ((dg (b :: l)).testBit ∘ fun x => 8 + x) (List.range (8 * l.length)) = List.countP (dg l).testBit (List.range (8 * l.length)) := List.countP_congr fun j hj => by
      simp only [Function.comp_apply]
      rw [hh, if_neg (by omega), show 8 + j - 8 = j by omega]
    rw [c1, c2]
theorem bytes8 (x : Nat) (h : x < 18446744073709551616) : ∃ a b c d e f g i : Nat, x = dg [a, b, c, d, e, f, g, i] ∧ ∀ z ∈ [a, b, c, d, e, f, g, i], z < 256 := by
  refine ⟨x % 256, x / 256 % 256, x / 65536 % 256, x / 16777216 % 256, x / 4294967296 % 256, x / 1099511627776 % 256, x / 281474976710656 % 256, x / 72057594037927936, ?_, ?_⟩
  · simp only [dg]; omega
  · intro z hz
    simp only [List.mem_cons, List.not_mem_nil, or_false] at hz
    omega
def on1 (x : Int) : Int := IntKind.u64.wrap (bits .and .u64 (x / 2) 6148914691236517205 + bits .and .u64 x 6148914691236517205)
def on2 (x : Int) : Int := IntKind.u64.wrap (bits .and .u64 (x / 4) 3689348814741910323 + bits .and .u64 x 3689348814741910323)
def on3 (x : Int) : Int := bits .and .u64 (IntKind.u64.wrap (x / 16 + x)) 1085102592571150095
def on4 (x : Int) : Int := IntKind.u64.wrap (x + x / 256)
def on5 (x : Int) : Int := IntKind.u64.wrap (x + x / 65536)
def on6 (x : Int) : Int := IntKind.u64.wrap (x + x / 4294967296)
theorem on1_dg {l : List Nat} (hl : l.length = 8) (h : ∀ b ∈ l, b < 256) (hx : dg l < 18446744073709551616) (hy : dg (l.map g1) < 18446744073709551616) : on1 (dg l : Nat) = (dg (l.map g1) : Nat) := by
  have hm : dg (l.map fun _ => 85) = 6148914691236517205 := by
    rw [show (l.map fun _ => 85) = List.replicate 8 85 by rw [List.map_const', hl]]; decide
  have h1 := s1 l h
  rw [hm] at h1
  unfold on1
  rw [show ((dg l : Nat) : Int) / 2 = ((dg l / 2 : Nat) : Int) by omega, show (6148914691236517205 : Int) = ((6148914691236517205 : Nat) : Int) by rfl,
    u64_and_nat _ _ (by omega) (by omega), u64_and_nat _ _ hx (by omega), IntKind.wrap_u64]
  omega
theorem on2_dg {l : List Nat} (hl : l.length = 8) (h : ∀ b ∈ l, b < 256) (hx : dg l < 18446744073709551616) (hy : dg (l.map g2) < 18446744073709551616) : on2 (dg l : Nat) = (dg (l.map g2) : Nat) := by
  have hm : dg (l.map fun _ => 51) = 3689348814741910323 := by
    rw [show (l.map fun _ => 51) = List.replicate 8 51 by rw [List.map_const', hl]]; decide
  have h1 := s2 l h
  rw [hm] at h1
  unfold on2
  rw [show ((dg l : Nat) : Int) / 4 = ((dg l / 4 : Nat) : Int) by omega, show (3689348814741910323 : Int) = ((3689348814741910323 : Nat) : Int) by rfl,
    u64_and_nat _ _ (by omega) (by omega), u64_and_nat _ _ hx (by omega), IntKind.wrap_u64]
  omega
theorem on3_dg {l : List Nat} (hl : l.length = 8) (h : ∀ b ∈ l, b < 69 ∧ b % 16 < 5) (hx : dg l / 16 + dg l < 18446744073709551616) : on3 (dg l : Nat) = (dg (l.map g3) : Nat) := by
  have hm : dg (l.map fun _ => 15) = 1085102592571150095 := by
    rw [show (l.map fun _ => 15) = List.replicate 8 15 by rw [List.map_const', hl]]; decide
  have h1 := s3 l h
  rw [hm] at h1
  unfold on3
  rw [show IntKind.u64.wrap (((dg l : Nat) : Int) / 16 + (dg l : Nat)) = ((dg l / 16 + dg l : Nat) : Int) by rw [IntKind.wrap_u64]; omega, show (1085102592571150095 : Int) = ((1085102592571150095 : Nat) : Int) by rfl,
    u64_and_nat _ _ hx (by omega), h1]
theorem wr_add (X D Y : Nat) (h : X / D = Y) (hb : X + Y < 18446744073709551616) : IntKind.u64.wrap ((X : Int) + (X : Int) / (D : Int)) = ((X + Y : Nat) : Int) := by
  have e : (X : Int) / (D : Int) = ((X / D : Nat) : Int) := by rw [Int.natCast_ediv]
  rw [e, h, IntKind.wrap_u64]
  omega
theorem dg_div (b : Nat) (l : List Nat) (hb : b < 256) : dg (b :: l) / 256 = dg l := by simp only [dg]; omega
theorem on_end {a b c d e f g i : Nat} (h : ∀ z ∈ [a, b, c, d, e, f, g, i], z ≤ 8) : ∃ n : Nat, on6 (on5 (on4 (dg [a, b, c, d, e, f, g, i] : Nat))) = (n : Int) ∧ n < 9223372036854775808 ∧ n % 128 = [a, b, c, d, e, f, g, i].sum := by
  have ha := h a (by simp)
  have hb := h b (by simp)
  have hc := h c (by simp)
  have hd := h d (by simp)
  have he := h e (by simp)
  have hf := h f (by simp)
  have hg := h g (by simp)
  have hi := h i (by simp)
  have e4 : on4 (dg [a, b, c, d, e, f, g, i] : Nat) = (dg [a + b, b + c, c + d, d + e, e + f, f + g, g + i, i] : Nat) := by
    have := wr_add (dg [a, b, c, d, e, f, g, i]) 256 _ (dg_div a _ (by omega)) (by simp only [dg]; omega)
    unfold on4
    refine this.trans (congrArg Nat.cast ?_)
    simp only [dg]
    omega
  have e5 : on5 (dg [a + b, b + c, c + d, d + e, e + f, f + g, g + i, i] : Nat) = (dg [a + b + (c + d), b + c + (d + e), c + d + (e + f), d + e + (f + g), e + f + (g + i), f + g + i, g + i, i] : Nat) := by
    have := wr_add (dg [a + b, b + c, c + d, d + e, e + f, f + g, g + i, i]) 65536 _ (by rw [show 65536 = 256 * 256 by rfl, ← Nat.div_div_eq_div_mul, dg_div _ _ (by omega), dg_div _ _ (by omega)]) (by simp only [dg]; omega)
    unfold on5
    refine this.trans (congrArg Nat.cast ?_)
    simp only [dg]
    omega
  have e6 : on6 (dg [a + b + (c + d), b + c + (d + e), c + d + (e + f), d + e + (f + g), e + f + (g + i), f + g + i, g + i, i] : Nat) = ((dg [a + b + (c + d), b + c + (d + e), c + d + (e + f), d + e + (f + g), e + f + (g + i), f + g + i, g + i, i] + dg [e + f + (g + i), f + g + i, g + i, i] : Nat) : Int) := by
    have := wr_add (dg [a + b + (c + d), b + c + (d + e), c + d + (e + f), d + e + (f + g), e + f + (g + i), f + g + i, g + i, i]) 4294967296 (dg [e + f + (g + i), f + g + i, g + i, i]) (by rw [show 4294967296 = 256 * 256 * 256 * 256 by rfl, ← Nat.div_div_eq_div_mul, ← Nat.div_div_eq_div_mul, ← Nat.div_div_eq_div_mul, dg_div _ _ (by omega), dg_div _ _ (by omega), dg_div _ _ (by omega), dg_div _ _ (by omega)]) (by simp only [dg]; omega)
    unfold on6
    exact this
  refine ⟨_, by rw [e4, e5, e6], ?_, ?_⟩
  · simp only [dg]; omega
  · simp only [dg, List.sum_cons, List.sum_nil]
    omega
set_option maxHeartbeats 1000000 in
theorem ones_oc (x : Int) (hx : 0 ≤ x ∧ x < 18446744073709551616) : ∃ n : Nat, on6 (on5 (on4 (on3 (on2 (on1 x))))) = (n : Int) ∧ n < 9223372036854775808 ∧ n % 128 = oc x := by
  obtain ⟨n, rfl⟩ : ∃ n : Nat, x = n := ⟨x.toNat, by omega⟩
  obtain ⟨a, b, c, d, e, f, g, i, rfl, hl⟩ := bytes8 n (by omega)
  have hk : ∀ z ∈ [a, b, c, d, e, f, g, i], g1 z < 256 ∧ g2 (g1 z) < 69 ∧ g2 (g1 z) % 16 < 5 ∧ g3 (g2 (g1 z)) = (List.range 8).countP z.testBit := fun z hz => d4 ⟨z, hl z hz⟩
  have hc := cnt_dg _ hl
  obtain ⟨l, hll⟩ : ∃ l, [a, b, c, d, e, f, g, i] = l := ⟨_, rfl⟩
  have hbig : ∀ q : Nat → Nat, (∀ z ∈ l, q z < 256) → dg (l.map q) < 18446744073709551616 := fun q hq => by
    subst hll
    have h1 := hq a (by simp)
    have h2 := hq b (by simp)
    have h3 := hq c (by simp)
    have h4 := hq d (by simp)
    have h5 := hq e (by simp)
    have h6 := hq f (by simp)
    have h7 := hq g (by simp)
    have h8 := hq i (by simp)
    simp only [List.map_cons, List.map_nil, dg]
    omega
  rw [hll] at hl hk hc hx ⊢
  have hlen : l.length = 8 := by rw [← hll]; rfl
  rw [on1_dg hlen hl (by omega) (hbig g1 fun z hz => (hk z hz).1)]
  rw [on2_dg (by rw [List.length_map, hlen]) (fun z hz => by obtain ⟨y, hy, rfl⟩ := List.mem_map.1 hz; exact (hk y hy).1) (hbig g1 fun z hz => (hk z hz).1) (by rw [List.map_map]; exact hbig (g2 ∘ g1) fun z hz => by have := (hk z hz).2.1; simp only [Function.comp_apply]; omega)]
  have hz3 : ∀ z ∈ (l.map g1).map g2, z < 69 ∧ z % 16 < 5 := fun z hz => by
    rw [List.map_map] at hz
    obtain ⟨y, hy, rfl⟩ := List.mem_map.1 hz
    exact ⟨(hk y hy).2.1, (hk y hy).2.2.1⟩
  rw [on3_dg (by rw [List.length_map, List.length_map, hlen]) hz3 (by
    rw [List.map_map]
    have h1 : dg (l.map (g2 ∘ g1)) < 18446744073709551616 / 2 := by
      subst hll
      have h1 := (hk a (by simp)).2.1
      have h2 := (hk b (by simp)).2.1
      have h3 := (hk c (by simp)).2.1
      have h4 := (hk d (by simp)).2.1
      have h5 := (hk e (by simp)).2.1
      have h6 := (hk f (by simp)).2.1
      have h7 := (hk g (by simp)).2.1
      have h8 := (hk i (by simp)).2.1
      simp only [List.map_cons, List.map_nil, dg, Function.comp_apply]
      omega
    omega)]
  have hmap : ((l.map g1).map g2).map g3 = l.map fun z => (List.range 8).countP z.testBit := by
    rw [List.map_map, List.map_map]
    exact List.map_congr_left fun z hz => (hk z hz).2.2.2
  rw [hmap]
  have h8 : ∀ z ∈ l.map (fun z : Nat => (List.range 8).countP z.testBit), z ≤ 8 := fun z hz => by
    obtain ⟨y, hy, rfl⟩ := List.mem_map.1 hz
    have h := List.countP_le_length (p := y.testBit) (l := List.range 8)
    rw [List.length_range] at h
    exact h
  have hoc : oc (dg l : Nat) = (l.map fun z : Nat => (List.range 8).countP z.testBit).sum := by
    rw [← hc, hlen]
    rfl
  rw [hoc]
  subst hll
  exact on_end h8
theorem and127 (n : Nat) (h : n < 9223372036854775808) : bits .and .i64 (wrap64 (n : Int)) 127 = ((n % 128 : Nat) : Int) := by
  rw [wrap64_i64]
  have e : IntKind.i64.wrap (n : Int) = n := by rw [IntKind.wrap_i64]; omega
  have k := bits_mask .i64 63 (by decide) (fun m h0 h1 => by rw [IntKind.wrap_i64]; omega) 7 (by omega) (n : Int) (by omega) (by omega)
  rw [e]
  have e2 : (2 : Int) ^ 7 = 128 := by decide
  rw [e2] at k
  exact k
theorem ones_any (x : Int) (hx : 0 ≤ x ∧ x < 18446744073709551616) (w : World) : Calls Try.prog 31 #[.int .u64 x] w fun e w' => e = .returned (.int .i64 (oc x : Nat)) ∧ w = w' := by
  obtain ⟨n, h1, h2, h3⟩ := ones_oc x hx
  have h := and127 n h2
  rw [← h1, h3] at h
  rw [← h]
  clear h h1 h2 h3
  go_enter Try.func31, Try.ntmps31
  go_wp2
  go_ret
  exact ⟨rfl, rfl⟩
end Go.Proofs.Ytlnbeeflifmnjac
