/-
  Texts of one part, put together. No condition.
-/
import Derived.Test.YtgiplahhalgbdaaGreatWlkP
import Derived.Test.YtgiplahhalgbdaaGreatMgE
import Derived.Test.YtgiplahhalgbdaaGreatMapI
/-
  Planes, plainly: who lives, the ring. No program in sight.
-/
namespace Go.Proofs.YtgiplahhalgbdaaGreat
set_option linter.unusedSimpArgs false
set_option linter.unusedVariables false

/-- the slots that are there, of the first k -/
def liveK (ns : List NodeP) : Nat → List Int
  | 0 => []
  | k + 1 => liveK ns k ++ if thereF ns (k : Int) = true then [(k : Int)] else []
def liveF (ns : List NodeP) : List Int := liveK ns ns.length
theorem liveK_yes {ns : List NodeP} {k : Nat} (h : thereF ns (k : Int) = true) : liveK ns (k + 1) = liveK ns k ++ [(k : Int)] := by
  show liveK ns k ++ _ = _
  rw [if_pos h]
theorem liveK_no {ns : List NodeP} {k : Nat} (h : thereF ns (k : Int) = false) : liveK ns (k + 1) = liveK ns k := by
  show liveK ns k ++ _ = _
  rw [if_neg (by rw [h]; simp), List.append_nil]
theorem liveK_len (ns : List NodeP) : ∀ k, (liveK ns k).length ≤ k
  | 0 => by simp [liveK]
  | k + 1 => by
    have := liveK_len ns k
    unfold liveK
    rw [List.length_append]
    split <;> simp <;> omega
theorem liveK_mem {ns : List NodeP} {x : Int} : ∀ {k : Nat}, x ∈ liveK ns k ↔ thereF ns x = true ∧ x < k
  | 0 => by
    simp only [liveK, List.not_mem_nil, false_iff, not_and]
    intro h
    have := there_lt h
    omega
  | k + 1 => by
    have ih := liveK_mem (ns := ns) (x := x) (k := k)
    rcases hk : thereF ns (k : Int) with _ | _
    · rw [liveK_no hk, ih]
      constructor
      · rintro ⟨a, b⟩; exact ⟨a, by omega⟩
      · rintro ⟨a, b⟩
        refine ⟨a, ?_⟩
        have : x ≠ k := fun e => by rw [e, hk] at a; cases a
        omega
    · rw [liveK_yes hk, List.mem_append, List.mem_singleton, ih]
      constructor
      · rintro (⟨a, b⟩ | rfl)
        · exact ⟨a, by omega⟩
        · exact ⟨hk, by omega⟩
      · rintro ⟨a, b⟩
        by_cases e : x = k
        · exact .inr e
        · exact .inl ⟨a, by omega⟩
theorem live_mem {ns : List NodeP} {x : Int} : x ∈ liveF ns ↔ thereF ns x = true := by
  unfold liveF
  rw [liveK_mem]
  exact ⟨fun h => h.1, fun h => ⟨h, (there_lt h).2⟩⟩
theorem liveK_nodup (ns : List NodeP) : ∀ k, (liveK ns k).Nodup
  | 0 => by simp [liveK]
  | k + 1 => by
    unfold liveK
    refine List.nodup_append.2 ⟨liveK_nodup ns k, by split <;> simp, fun a ha b hb e => ?_⟩
    subst e
    split at hb
    · rw [List.mem_singleton.1 hb, liveK_mem] at ha
      omega
    · simp at hb
def nodeF (ns : List NodeP) (s : Int) : NodeP := (ns[s.toNat]?).getD ((0, [], 0), 0, [], 0, 0)
def nextF (ns : List NodeP) (s : Int) : Int := (nodeF ns s).2.2.2.1
def prevF (ns : List NodeP) (s : Int) : Int := (nodeF ns s).2.2.2.2
/-- on from a slot, as long as it was not met -/
def runN (ns : List NodeP) : Nat → List Int → Int → List Int
  | 0, out, _ => out
  | k + 1, out, a => if thereF ns a = true ∧ a ∉ out then runN ns k (out ++ [a]) (nextF ns a) else out
def ringF (ns : List NodeP) : List Int := runN ns (ns.length + 1) [] (nextF ns 0)
theorem runN_stop {ns : List NodeP} {k : Nat} {out : List Int} {a : Int} (h : ¬ (thereF ns a = true ∧ a ∉ out)) : runN ns k out a = out := by
  cases k with
  | zero => rfl
  | succ k => unfold runN; rw [if_neg h]
theorem runN_go {ns : List NodeP} {k : Nat} {out : List Int} {a : Int} (h : thereF ns a = true ∧ a ∉ out) : runN ns (k + 1) out a = runN ns k (out ++ [a]) (nextF ns a) := by
  conv => lhs; unfold runN
  rw [if_pos h]
theorem nextF_at {ns : List NodeP} {k : Nat} {x : NodeP} (h : ns[k]? = some x) : nextF ns (k : Int) = x.2.2.2.1 := by
  unfold nextF nodeF
  rw [show ((k : Int)).toNat = k by omega, h]; rfl
theorem prevF_at {ns : List NodeP} {k : Nat} {x : NodeP} (h : ns[k]? = some x) : prevF ns (k : Int) = x.2.2.2.2 := by
  unfold prevF nodeF
  rw [show ((k : Int)).toNat = k by omega, h]; rfl
/-- the slots met: each once, each there -/
structure MetN (ns : List NodeP) (out : List Int) : Prop where
  nd : out.Nodup
  th : ∀ x ∈ out, thereF ns x = true
theorem MetN.nil {ns : List NodeP} : MetN ns [] := ⟨by simp, by simp⟩
theorem MetN.snoc {ns : List NodeP} {out : List Int} (h : MetN ns out) {a : Int} (h0 : thereF ns a = true) (hn : a ∉ out) : MetN ns (out ++ [a]) := by
  refine ⟨List.nodup_append.2 ⟨h.nd, by simp, fun x hx y hy e => hn ?_⟩, fun x hx => ?_⟩
  · rw [List.mem_singleton.1 hy] at e
    exact e ▸ hx
  · rcases List.mem_append.1 hx with hx | hx
    · exact h.th x hx
    · rw [List.mem_singleton.1 hx]; exact h0
theorem nodup_le {l : List Int} : ∀ {n : Nat}, l.Nodup → (∀ x ∈ l, 0 < x ∧ x < (n : Int)) → l.length ≤ n := by
  intro n hnd h
  have h1 : ∀ (n : Nat) (l : List Int), l.Nodup → (∀ x ∈ l, 0 ≤ x ∧ x < (n : Int)) → l.length ≤ n := by
    intro n
    induction n with
    | zero =>
      intro l _ h
      cases l with
      | nil => simp
      | cons x l => have := h x (by simp); omega
    | succ n ih =>
      intro l hn h
      have h2 := ih (l.filter fun x => decide (x ≠ (n : Int))) (hn.sublist List.filter_sublist) fun x hx => by
        obtain ⟨a, b⟩ := List.mem_filter.1 hx
        have := h x a
        have : x ≠ (n : Int) := by simpa using b
        omega
      have h3 : l.length ≤ (l.filter fun x => decide (x ≠ (n : Int))).length + 1 := by
        clear h h2 ih
        induction l with
        | nil => simp
        | cons x l ih =>
          obtain ⟨a, b⟩ := List.nodup_cons.1 hn
          by_cases e : x = (n : Int)
          · rw [List.filter_cons, if_neg (by simp [e]), List.filter_eq_self.2 fun y hy => by
              have : y ≠ x := fun e2 => a (e2 ▸ hy)
              rw [e] at this
              simpa using this]
            simp
          · rw [List.filter_cons, if_pos (by simpa using e)]
            have := ih b
            simp only [List.length_cons]
            omega
      omega
  exact h1 n l hnd fun x hx => by have := h x hx; omega
theorem MetN.len {ns : List NodeP} {out : List Int} (h : MetN ns out) : out.length ≤ ns.length := nodup_le h.nd fun x hx => there_lt (h.th x hx)
end Go.Proofs.YtgiplahhalgbdaaGreat

/-
  The package plane: Live, Ring. Conditions: the slice of nodes reads as a list, its numbers are small.
-/
namespace Go.Proofs.YtgiplahhalgbdaaGreat
set_option linter.unusedSimpArgs false
set_option linter.unusedVariables false
open Go.RowKit

def lenOf : Value → Nat | .slice _ n _ => n | _ => 0
/-- a plane that came in -/
structure PlN (w : World) (N : Option Addr) (nn : Nat) (ns : List NodeP) : Prop where
  nd : Rd SNode w w.heap.size N ns
  len : ns.length = nn
  ok : ∀ x ∈ ns, OkN x
  sm : ∀ x ∈ ns, SmN x
  n20 : nn ≤ 20
  idw : ∀ x ∈ ns, (Lit.int .u64 x.1.1).wf = true
theorem PlN.at_ {w W : World} {N : Option Addr} {nn : Nat} {ns : List NodeP} (h : PlN w N nn ns) (hb : Below w.heap.size w W) : PlN W N nn ns := ⟨h.nd.at_world hb, h.len, h.ok, h.sm, h.n20, h.idw⟩
/-- the plane's variable -/
structure PlB (w : World) (b : Nat) (cs : Array Value) (W : World) : Prop where
  bel : Below w.heap.size w W
  pl : Blk W b 24 cs
theorem PlB.step {w W W' : World} {b : Nat} {cs : Array Value} (h : PlB w b cs W) (hb : Below W.heap.size W W') : PlB w b cs W' := ⟨Below.step h.bel hb, h.pl.below hb h.pl.lt⟩
theorem PlB.start (w : World) (cs : Array Value) : PlB w w.heap.size cs (w.alloc (.cells cs 24)) := ⟨below1 _ _, Blk.new _ _ _⟩
theorem PlB.cells {w W : World} {b : Nat} {N : Option Addr} {nn cN : Nat} {en top : Int} (h : PlB w b #[.slice N nn cN, .int .i64 en, .int .i64 top] W) : W.cell? ⟨b, 0, none⟩ = some (.slice N nn cN) ∧ W.cell? ⟨b, 1, none⟩ = some (.int .i64 en) ∧ W.cell? ⟨b, 2, none⟩ = some (.int .i64 top) := by
  have p0 := h.pl.cell 0
  have p1 := h.pl.cell 1
  have p2 := h.pl.cell 2
  simp at p0 p1 p2
  exact ⟨p0, p1, p2⟩
theorem GivesN.own {w w' : World} {A : Option Addr} {n c : Nat} {l : List Int} (ho : w'.ownsRow w.heap.size 3 1 (.slice A n c) n (fcs encI l)) (h1 : l.length = n) (h2 : n ≤ c) (h3 : c ≤ 9223372036854775807) (hb : Below w.heap.size w w') : GivesN w l (.returned (.slice A n c)) w' :=
  ⟨A, n, c, rfl, h1, h2, h3, flatI.own ho, hb⟩
theorem fcsI_snoc (l : List Int) (x : Int) : fcs encI (l ++ [x]) = fcs encI l ++ [.int .i64 x] := by
  unfold fcs
  rw [List.flatMap_append]
  simp [encI]
section
variable {w : World} {N : Option Addr} {nn cN : Nat} {ns : List NodeP} {en top : Int}
set_option maxHeartbeats 4000000 in
theorem live_any (hp : PlN w N nn ns) : Calls Tryz.prog 15 #[.agg #[.slice N nn cN, .int .i64 en, .int .i64 top]] w (GivesN w (liveF ns)) := by
  have HP := hide hp
  have h20 := hp.n20
  have Hl := hide hp.len
  have HS := hide (PlB.start w #[.slice N nn cN, .int .i64 en, .int .i64 top])
  clear hp
  go_enter Tryz.func15, Tryz.ntmps15
  go_upto_region 2 with fail
  generalize World.alloc w _ = w1 at *
  generalize hb1 : w.heap.size = b1 at HS ⊢
  have Hb1 := hide hb1
  clear hb1
  obtain ⟨p0, p1, p2⟩ := HS.out.cells
  go_upto_region 3 with fail
  clear p0 p1 p2
  go_loopw [3, 8, 13] (fun o i _ wr => ∃ (k m : Nat) (A : Option Addr) (c : Nat), k ≤ nn ∧ m ≤ k ∧ i = .int .i64 k ∧ o = .slice A m c ∧ m ≤ c ∧ c ≤ 9223372036854775807 ∧ Hid ((liveK ns k).length = m) ∧ Hid (wr.ownsRow w.heap.size 3 1 (.slice A m c) m (fcs encI (liveK ns k))) ∧ Hid (PlB w b1 #[.slice N nn cN, .int .i64 en, .int .i64 top] wr)) (fun _ i _ _ => nn - (intOf i).toNat)
  case atStart => exact ⟨0, 0, none, 0, by omega, by omega, rfl, rfl, by omega, by omega, hide rfl, hide (World.ownsRow_nil _ _ _ _), HS⟩
  case round =>
    obtain ⟨k, m, A, c, hk, hm, rfl, rfl, h1, h2, HL, HO, HB⟩ := hrel
    clear HS
    by_cases hlt : k < nn
    · have g0 : (0 : Int) ≤ k := by omega
      have g1 : (k : Int) < nn := by omega
      obtain ⟨p0, p1, p2⟩ := HB.out.cells
      have CT := hide (there_any (nn := nn) (cN := cN) (en := en) (top := top) (HP.out.at_ HB.out.bel).nd Hl.out (k : Int))
      rcases ht : thereF ns (k : Int) with _ | _
      · rw [ht] at CT
        have HSn := hide (liveK_no ht)
        clear ht
        go_wp2_with (go_at_call 17; refine CT.out.mono ?_; rintro e w2 ⟨rfl, hb⟩; have HB2 := hide (HB.out.step hb); have HO2 := hide (own_keep HO.out fun g hg => hb.block g (HO.out.lt g hg).2); clear hb)
        go_roundw
        case rel => exact ⟨k + 1, m, A, c, by omega, by omega, by go_num, rfl, h1, h2, by rw [HSn.out]; exact HL, by rw [HSn.out]; exact HO2, HB2⟩
        case measure => simp [intOf]; omega
      · rw [ht] at CT
        have HSn := hide (liveK_yes ht)
        clear ht
        go_wp2_with (first
          | (go_at_call 17; refine CT.out.mono ?_; rintro e w2 ⟨rfl, hb⟩; have HB2 := hide (HB.out.step hb); have HO2 := hide (own_keep HO.out fun g hg => hb.block g (HO.out.lt g hg).2); clear hb p0 p1 p2 CT)
          | (at_builtin; refine wpList_append_elem rfl (.tmp 14) (.tmp 16) 47 rfl w.heap.size Tryz.underlying47 info_intE rfl (by decide) (.slice A m c) m _ rfl HO2.out _ _ rfl rfl (by simp [Value.oneCell']) (by simp only [maxLen]; omega) (by omega) HB2.out.bel.size ?_; intro v9 w9 hown9 hgr9 hat9; have HO9 := hide (show w9.ownsRow w.heap.size 3 1 v9 (m + 1) (fcs encI (liveK ns (k + 1))) by rw [HSn.out, fcsI_snoc]; exact hown9); have HB9 := hide (show PlB w b1 #[.slice N nn cN, .int .i64 en, .int .i64 top] w9 from ⟨below_own HB2.out.bel HO2.out HB2.out.bel.size hgr9, HB2.out.pl.grown hgr9 (fun e => own_blk_ne HO2.out HB2.out.pl (by decide) e.symm)⟩); obtain ⟨A8, c8, rfl, l1, l2⟩ := own_form hown9; clear hown9 hgr9 hat9))
        go_roundw
        case rel => exact ⟨k + 1, m + 1, A8, c8, by omega, by omega, by go_num, rfl, l1, l2, hide (by rw [HSn.out, List.length_append, HL.out]; rfl), HO9, HB9⟩
        case measure => simp [intOf]; omega
    · obtain rfl : nn = k := by omega
      go_wp2
      go_ret
      refine GivesN.own ?_ ?_ h1 h2 HB.out.bel
      · have h := HO.out; unfold liveF; rw [Hl.out]; exact h
      · have h := HL.out; unfold liveF; rw [Hl.out]; exact h
set_option maxHeartbeats 8000000 in
theorem pRing_any (hp : PlN w N nn ns) : Calls Tryz.prog 33 #[.agg #[.slice N nn cN, .int .i64 en, .int .i64 top]] w (GivesN w (ringF ns)) := by
  have HP := hide hp
  have h20 := hp.n20
  have Hl := hide hp.len
  have HS := hide (PlB.start w #[.slice N nn cN, .int .i64 en, .int .i64 top])
  clear hp
  have hmm := @run_makeMap Tryz.prog
  go_enter Tryz.func33, Tryz.ntmps33
  go_upto_region 1 with fail
  generalize World.alloc w _ = w1 at *
  generalize hb1 : w.heap.size = b1 at HS ⊢
  have Hb1 := hide hb1
  clear hb1
  by_cases h0 : nn = 0
  · have e0 : ((nn : Int) == 0) = true := by subst h0; rfl
    have HF := hide (show ringF ns = [] from by
      have h := Hl.out
      rw [h0] at h
      rw [List.eq_nil_of_length_eq_zero h]; decide)
    obtain ⟨p0, p1, p2⟩ := HS.out.cells
    clear h0
    go_wp2
    go_ret
    rw [HF.out]
    exact ⟨none, 0, 0, rfl, rfl, by omega, by omega, RdR.nil, HS.out.bel⟩
  have e0 : ((nn : Int) == 0) = false := by rw [beq_eq_false_iff_ne]; omega
  have g00 : (0 : Int) < nn := by omega
  obtain ⟨p0, p1, p2⟩ := HS.out.cells
  go_upto_region 5 with fail
  have HM := hide (MapA.new (kd := .i64) (enc := Value.int .i64) (β := Int) w1)
  have HB := hide (HS.out.step (below1 w1 (.map #[] 0)))
  have Hw1 := hide (show w.heap.size ≤ w1.heap.size from HS.out.bel.size)
  clear p0 p1 p2
  generalize World.alloc w1 _ = w2 at *
  generalize hbq : w1.heap.size = b at HM Hw1 ⊢
  have Hbq := hide hbq
  clear hbq HS
  obtain ⟨p0, p1, p2⟩ := HB.out.cells
  obtain ⟨ad, x0, V, cV, L, cL, hA, hbl, hkx, hc⟩ := (HP.out.at_ HB.out.bel).nd.node (k := 0) (by have := Hl.out; omega)
  have HN0 := hide (nextF_at hkx)
  have HW0 := hide (HP.out.ok x0 (List.mem_of_getElem? hkx)).n
  have HAd := hide hA
  have q5 : w2.cell? ⟨ad.block, ad.off + 5, none⟩ = some (.int .i64 x0.2.2.2.1) := by have h := hc.c5; simpa [Addr.add] using h
  clear hkx hbl hA hc
  have hA := HAd.out
  subst hA
  go_wp2
  go_loopw [3, 5] (fun v a wr => ∃ (out : List Int) (A : Option Addr) (c : Nat) (x : Int), a = .int .i64 x ∧ v = .slice A out.length c ∧ out.length ≤ c ∧ c ≤ 9223372036854775807 ∧ Hid (MetN ns out) ∧ Hid (runN ns (ns.length + 1 - out.length) out x = ringF ns) ∧ Hid ((Lit.int .i64 x).wf = true) ∧ Hid (wr.ownsRow w.heap.size 3 1 (.slice A out.length c) out.length (fcs encI out)) ∧ Hid (MapA .i64 (Value.int .i64) wr b (ones out)) ∧ Hid (PlB w b1 #[.slice (some ad) nn cN, .int .i64 en, .int .i64 top] wr)) (fun v _ _ => nn + 1 - lenOf v)
  case atStart => exact ⟨[], none, 0, _, rfl, rfl, by simp, by omega, hide MetN.nil, hide (by rw [show x0.2.2.2.1 = nextF ns 0 from HN0.out.symm]; rfl), HW0, hide (World.ownsRow_nil _ _ _ _), HM, HB⟩
  case round =>
    obtain ⟨out, A, c, x, rfl, rfl, h1, h2, HMet, HR, HW, HO, HMp, HBr⟩ := hrel
    clear HM HB p0 p1 p2 q5
    have hml : out.length ≤ 20 := by have := HMet.out.len; have := Hl.out; omega
    have hw := HW.out
    obtain ⟨p0, p1, p2⟩ := HBr.out.cells
    have CT := hide (there_any (nn := nn) (cN := cN) (en := en) (top := top) (HP.out.at_ HBr.out.bel).nd Hl.out x)
    rcases ht : thereF ns x with _ | _
    · rw [ht] at CT
      have HF := hide (HR.out.symm.trans (runN_stop fun h => by rw [ht] at h; cases h.1))
      clear ht hw
      go_wp2_with (go_at_call 17; refine CT.out.mono ?_; rintro e w2 ⟨rfl, hb⟩; have HB2 := hide (HBr.out.step hb); have HO2 := hide (own_keep HO.out fun g hg => hb.block g (HO.out.lt g hg).2); clear hb)
      go_ret
      rw [HF.out]
      exact GivesN.own HO2.out rfl h1 h2 HB2.out.bel
    · rw [ht] at CT
      by_cases hx : x ∈ out
      · have HF := hide (HR.out.symm.trans (runN_stop fun h => h.2 hx))
        have HLk := hide (show (lookF (ones out) x).getD 0 = 1 by rw [look_ones, if_pos hx]; rfl)
        clear ht hx
        go_wp2_with (go_at_call 17; refine CT.out.mono ?_; rintro e w2 ⟨rfl, hb⟩; have HB2 := hide (HBr.out.step hb); have HO2 := hide (own_keep HO.out fun g hg => hb.block g (HO.out.lt g hg).2); have L := (HMp.out.block (hb.block b HMp.out.lt)).atI hw; rw [HLk.out] at L; clear hb)
        go_ret
        rw [HF.out]
        exact GivesN.own HO2.out rfl h1 h2 HB2.out.bel
      · have hsn := HMet.out.snoc ht hx
        have hlen := hsn.len
        rw [List.length_append] at hlen
        simp only [List.length_cons, List.length_nil] at hlen
        have HF := hide (show runN ns (ns.length + 1 - (out ++ [x]).length) (out ++ [x]) (nextF ns x) = ringF ns by
          rw [← HR.out, show ns.length + 1 - out.length = (ns.length + 1 - (out ++ [x]).length) + 1 by simp; omega, runN_go ⟨ht, hx⟩])
        have HSn := hide hsn
        have HPut := hide (put_ones hx)
        have HLk := hide (show (lookF (ones out) x).getD 0 = 0 by rw [look_ones, if_neg hx]; rfl)
        obtain ⟨k, rfl⟩ : ∃ k : Nat, x = k := ⟨x.toNat, by have := there_lt ht; omega⟩
        have hrg := there_lt ht
        have g0 : (0 : Int) ≤ k := by omega
        have g1 : (k : Int) < nn := by have := Hl.out; omega
        have hk : k < ns.length := by omega
        clear ht hx hsn hrg
        go_wp2_with (first
          | (go_at_call 17; refine CT.out.mono ?_; rintro e w3 ⟨rfl, hb⟩; have HB2 := hide (HBr.out.step hb); have HO2 := hide (own_keep HO.out fun g hg => hb.block g (HO.out.lt g hg).2); have HM2 := hide (HMp.out.block (hb.block b HMp.out.lt)); have L := HM2.out.atI hw; rw [HLk.out] at L; obtain ⟨w5, hrun, hm5, hp5⟩ := HM2.out.setI hw 1; rw [HPut.out] at hm5; have HM5 := hide hm5; have HO5 := hide (own_put HO2.out HM2.out hp5); have HB5 := hide (show PlB w b1 #[.slice (some ad) nn cN, .int .i64 en, .int .i64 top] w5 from ⟨hp5.below HB2.out.bel Hw1.out, (hp5.2.2.2.2 b1 (fun e => blk_ne_map HB2.out.pl HM2.out e)).trans HB2.out.pl⟩); clear hb hm5 hp5 p0 p1 p2 CT)
          | (at_builtin; refine wpList_append_elem rfl (.tmp 35) (.tmp 37) 47 rfl w.heap.size Tryz.underlying47 info_intE rfl (by decide) (.slice A out.length c) out.length _ rfl HO5.out _ _ rfl rfl (by simp [Value.oneCell']) (by simp only [maxLen]; omega) (by omega) HB5.out.bel.size ?_; intro v9 w9 hown9 hgr9 hat9; have HO9 := hide (show w9.ownsRow w.heap.size 3 1 v9 (out ++ [(k : Int)]).length (fcs encI (out ++ [(k : Int)])) by rw [fcsI_snoc, List.length_append]; exact hown9); have HB9 := hide (show PlB w b1 #[.slice (some ad) nn cN, .int .i64 en, .int .i64 top] w9 from ⟨below_own HB5.out.bel HO5.out HB5.out.bel.size hgr9, HB5.out.pl.grown hgr9 (fun e => own_blk_ne HO5.out HB5.out.pl (by decide) e.symm)⟩); have HM9 := hide (map_grown HM5.out HO5.out hgr9); obtain ⟨A8, c8, rfl, l1, l2⟩ := own_form hown9; obtain ⟨p0, p1, p2⟩ := HB9.out.cells; obtain ⟨ad9, xk, V9, cV9, L9, cL9, hA9, hbl9, hkx9, hc9⟩ := (HP.out.at_ HB9.out.bel).nd.node (k := k) hk; have HN9 := hide (nextF_at hkx9); have HW9 := hide (HP.out.ok xk (List.mem_of_getElem? hkx9)).n; injection hA9 with hA9; subst hA9; have q9 := hc9.c5; clear hown9 hgr9 hat9 hkx9 hc9 hbl9))
        go_roundw
        case rel => exact ⟨out ++ [(k : Int)], A8, c8, _, rfl, by rw [List.length_append]; rfl, by rw [List.length_append]; exact l1, l2, HSn, hide (by rw [show xk.2.2.2.1 = nextF ns (k : Int) from HN9.out.symm]; exact HF.out), HW9, hide (by have h := HO9.out; rw [List.length_append] at h ⊢; exact h), HM9, HB9⟩
        case measure => simp [lenOf]; have := Hl.out; omega
end
end Go.Proofs.YtgiplahhalgbdaaGreat
