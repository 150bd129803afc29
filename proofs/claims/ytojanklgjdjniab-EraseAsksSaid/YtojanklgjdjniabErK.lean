/-
  The law EraseAsks. Conditions: the call's vector reads as a list of int32s, the answers as a list of answers.
-/
import Derived.Test.YtojanklgjdjniabErJ
namespace Go.Proofs.Ytojanklgjdjniab
open Go.RowKit

/-- what is held while both tasks are made -/
def ES (w : World) (bc : Nat) (cs : Array Value) (A : Option Addr) (xs : List Int) (W : World) : Prop := Blk W bc 27 cs ∧ Below w.heap.size w W ∧ Rd (Sh.int .i32) W w.heap.size A xs
theorem ES.step {w W W' : World} {bc : Nat} {cs : Array Value} {A : Option Addr} {xs : List Int} (hb : Below W.heap.size W W') (h : ES w bc cs A xs W) : ES w bc cs A xs W' :=
  ⟨h.1.below hb h.1.lt, Below.step h.2.1 hb, Rd.below h.2.2 hb h.2.1.size⟩
theorem ES.rd {w W : World} {bc : Nat} {cs : Array Value} {A : Option Addr} {xs : List Int} (h : ES w bc cs A xs W) : Rd (Sh.int .i32) W W.heap.size A xs := Rd.more h.2.2 h.2.1.size
theorem ES.setRow {w W : World} {bc : Nat} {cs : Array Value} {A : Option Addr} {xs : List Int} (h : ES w bc cs A xs W) {g : Nat} (hg : w.heap.size ≤ g) (hne : bc ≠ g) (cs' : Array Value) : ES w bc cs A xs (W.setRow g cs') :=
  ⟨h.1.setRow_far hne _, below_setRow h.2.1 hg _, RdR.keepBlocks h.2.2 fun b hb => setRow_other W g b cs' (by have : b < w.heap.size := hb; omega)⟩
/-- blocks that the law itself never writes again -/
def EN (N g g8 b : Nat) : Prop := b < N ∧ b ≠ g ∧ b ≠ g8
/-- both tasks, made -/
def Made (w : World) (k id : Int) (A : Option Addr) (n c : Nat) (tg kk ef dr : Int) (dim : Int) (xs : List Int) (g g8 : Nat) (A2 : Option Addr) (c2 : Nat) (A3 : Option Addr) (c3 : Nat) (W : World) : Prop :=
  Blk W g 56 (tskC k id A2 n c2 tg kk ef dr dim .a) ∧ Blk W g8 39 (rfC k id A3 n c3 tg kk ef dr dim .a) ∧ g ≠ g8 ∧ w.heap.size ≤ g ∧ w.heap.size ≤ g8 ∧ (n ≤ c2 ∧ c2 ≤ 9223372036854775807) ∧ (n ≤ c3 ∧ c3 ≤ 9223372036854775807) ∧
    RdR (Sh.int .i32) W (EN W.heap.size g g8) A2 xs ∧ RdR (Sh.int .i32) W (EN W.heap.size g g8) A3 xs ∧ Below w.heap.size w W
theorem Made.store {w W : World} {k id : Int} {A : Option Addr} {n c : Nat} {tg kk ef dr : Int} {dim : Int} {xs : List Int} {g g8 : Nat} {A2 : Option Addr} {c2 : Nat} {A3 : Option Addr} {c3 : Nat} (hT : Blk W g 56 (tskC k id A2 n c2 tg kk ef dr dim .a)) (r2 : RdR (Sh.int .i32) W (EN W.heap.size g g8) A2 xs) (r3 : RdR (Sh.int .i32) W (EN W.heap.size g g8) A3 xs)
    (hne : g ≠ g8) (hg : w.heap.size ≤ g) (hg8 : w.heap.size ≤ g8) (h2 : n ≤ c2 ∧ c2 ≤ 9223372036854775807) (h3 : n ≤ c3 ∧ c3 ≤ 9223372036854775807) (hb : Below w.heap.size w W) (hZ : g8 < W.heap.size) {old : Array Value} (hZ' : Blk W g8 39 old) :
    Made w k id A n c tg kk ef dr dim xs g g8 A2 c2 A3 c3 (W.setRow g8 (rfC k id A3 n c3 tg kk ef dr dim .a)) :=
  have e : (W.setRow g8 (rfC k id A3 n c3 tg kk ef dr dim .a)).heap.size = W.heap.size := size_setRow ..
  ⟨hT.setRow_far hne _, hZ'.setRow _, hne, hg, hg8, h2, h3, by rw [e]; exact r2.keepBlocks fun b hb => setRow_other W g8 b _ hb.2.2, by rw [e]; exact r3.keepBlocks fun b hb => setRow_other W g8 b _ hb.2.2, below_setRow hb hg8 _⟩
/-- what stays, whatever the law's two tasks do -/
def EK (w : World) (g g8 N : Nat) (A2 A3 AL : Option Addr) (xs : List Int) (l : List GotR) (W : World) : Prop :=
  Below w.heap.size w W ∧ N ≤ W.heap.size ∧ RdR (Sh.int .i32) W (EN N g g8) A2 xs ∧ RdR (Sh.int .i32) W (EN N g g8) A3 xs ∧ RdR SG W (EN N g g8) AL l
section
variable {w W W' : World} {g g8 N : Nat} {A2 A3 AL : Option Addr} {xs : List Int} {l : List GotR}
theorem EK.grown (h : EK w g g8 N A2 A3 AL xs l W) (hg : W.grownBy W' (some g)) (hw : w.heap.size ≤ g) : EK w g g8 N A2 A3 AL xs l W' := by
  have k : ∀ b, EN N g g8 b → W'.heap[b]? = W.heap[b]? := fun b hb => hg.block b (Nat.lt_of_lt_of_le hb.1 h.2.1) (by have := hb.2.1; simpa using this)
  exact ⟨gb_below h.1 hg hw, Nat.le_trans h.2.1 hg.size, h.2.2.1.keepBlocks k, h.2.2.2.1.keepBlocks k, h.2.2.2.2.keepBlocks k⟩
theorem EK.step (h : EK w g g8 N A2 A3 AL xs l W) (hb : Below W.heap.size W W') : EK w g g8 N A2 A3 AL xs l W' := by
  have k : ∀ b, EN N g g8 b → W'.heap[b]? = W.heap[b]? := fun b hb' => hb.block b (Nat.lt_of_lt_of_le hb'.1 h.2.1)
  exact ⟨Below.step h.1 hb, Nat.le_trans h.2.1 hb.size, h.2.2.1.keepBlocks k, h.2.2.2.1.keepBlocks k, h.2.2.2.2.keepBlocks k⟩
theorem EK.setRow (h : EK w g g8 N A2 A3 AL xs l W) (hw : w.heap.size ≤ g8) (cs : Array Value) : EK w g g8 N A2 A3 AL xs l (W.setRow g8 cs) := by
  have k : ∀ b, EN N g g8 b → (W.setRow g8 cs).heap[b]? = W.heap[b]? := fun b hb => setRow_other W g8 b cs hb.2.2
  exact ⟨below_setRow h.1 hw _, by rw [size_setRow]; exact h.2.1, h.2.2.1.keepBlocks k, h.2.2.2.1.keepBlocks k, h.2.2.2.2.keepBlocks k⟩
theorem EK.setNew (h : EK w g g8 N A2 A3 AL xs l W) {b : Nat} (hb : N ≤ b) (hw : w.heap.size ≤ b) (cs : Array Value) : EK w g g8 N A2 A3 AL xs l (W.setRow b cs) := by
  have k : ∀ i, EN N g g8 i → (W.setRow b cs).heap[i]? = W.heap[i]? := fun i hi => setRow_other W b i cs (by have := hi.1; omega)
  exact ⟨below_setRow h.1 hw _, by rw [size_setRow]; exact h.2.1, h.2.2.1.keepBlocks k, h.2.2.2.1.keepBlocks k, h.2.2.2.2.keepBlocks k⟩
theorem EK.rd2 (h : EK w g g8 N A2 A3 AL xs l W) : Rd (Sh.int .i32) W W.heap.size A2 xs := h.2.2.1.more fun b hb => Nat.lt_of_lt_of_le hb.1 h.2.1
theorem EK.rd3 (h : EK w g g8 N A2 A3 AL xs l W) : Rd (Sh.int .i32) W W.heap.size A3 xs := h.2.2.2.1.more fun b hb => Nat.lt_of_lt_of_le hb.1 h.2.1
end
/-- what is held while a round's answers are compared -/
def RS (w : World) (g g8 N : Nat) (k id : Int) (A2 : Option Addr) (n c2 : Nat) (tg kk ef dr dim : Int) (A3 : Option Addr) (c3 : Nat) (AL : Option Addr) (xs : List Int) (l : List GotR) (s2 : TS) (b14 b12 : Nat) (pk pa pid : Int) (W : World) : Prop :=
  Blk W b14 44 (opC pk pa pid) ∧ Blk W b12 44 (opC pk pa pid) ∧ Blk W g 56 (tskC k id A2 n c2 tg kk ef dr dim s2) ∧ Blk W g8 39 (rfC k id A3 n c3 tg kk ef dr dim s2) ∧ EK w g g8 N A2 A3 AL xs l W
theorem RS.step {w W W' : World} {g g8 N : Nat} {k id : Int} {A2 : Option Addr} {n c2 : Nat} {tg kk ef dr dim : Int} {A3 : Option Addr} {c3 : Nat} {AL : Option Addr} {xs : List Int} {l : List GotR} {s2 : TS} {b14 b12 : Nat} {pk pa pid : Int} (h : RS w g g8 N k id A2 n c2 tg kk ef dr dim A3 c3 AL xs l s2 b14 b12 pk pa pid W) (hb : Below W.heap.size W W') : RS w g g8 N k id A2 n c2 tg kk ef dr dim A3 c3 AL xs l s2 b14 b12 pk pa pid W' :=
  ⟨h.1.below hb h.1.lt, h.2.1.below hb h.2.1.lt, h.2.2.1.below hb h.2.2.1.lt, h.2.2.2.1.below hb h.2.2.2.1.lt, h.2.2.2.2.step hb⟩
def gz : GotR := ⟨false, 0, 0, none, 0, 0, 0, none, 0, 0, 0⟩
theorem gotsR_own {w : World} {base : Nat} {e : TypeId} {A : Option Addr} {n c : Nat} {l : List GotR} (h : w.ownsRow base e 7 (.slice A n c) n (gcs l)) : RdR SG w (Btw base w.heap.size) A l := fun hne => by
  have hl : l.length = n := by have := h.1; rw [gcs_len] at this; omega
  obtain ⟨g, cap, hv, hg, hlt⟩ := h.form (by have := List.length_pos_iff.2 hne; omega)
  have hA : A = some ⟨g, 0, none⟩ := by injection hv
  subst hA
  exact gotsR_mk (R := Btw base w.heap.size) (ad := ⟨g, 0, none⟩) ⟨hg, hlt⟩ (fun j u hu => h.cells (g := g) rfl j _ hu) hne
theorem info_got : (Try.prog.info? 42).map (fun i => (i.zero, i.size, decide (i.bytes ≤ 1000))) = some (some (.agg #[.bool false, .int .i64 0, .int .i64 0, .slice none 0 0, .int .u64 0, .slice none 0 0, .int .u64 0]), 7, true) := by kernel_rfl
theorem infoCall : (Try.prog.info? 27).map (·.size) = some 7 := by kernel_rfl
theorem ztC_one : (#[.int .i64 0, .int .u64 0, .slice none 0 0, .int .u64 0, .int .i64 0, .int .i64 0, .int .u64 0, .int .i64 0, .int .i64 0, .int .i64 0, .int .i64 0, .int .i64 0, .int .i64 0, .int .u64 0, .slice none 0 0, .int .u64 0, .int .i64 0, .int .i64 0, .int .u64 0, .int .i64 0, .int .u64 0, .slice none 0 0, .int .u64 0, .slice none 0 0, .int .i64 0, .int .i64 0, .slice none 0 0, .int .i64 0] : Array Value).all (·.oneCell') = true := by simp [Value.oneCell']

set_option maxHeartbeats 4000000 in
set_option maxRecDepth 100000 in
theorem asks_any (k id : Int) (A : Option Addr) (n c : Nat) (tg kk ef dr : Int) (dim : Int) (xs : List Int) (AL : Option Addr) (nl cl : Nat) (l : List GotR) (w : World) (hx : I32s w w.heap.size A xs) (hn : xs.length = n) (hc : n ≤ c) (hm : c ≤ 9223372036854775807) (hy : Rd SG w w.heap.size AL l) (hn' : l.length = nl) (hd : nl ≤ cl) (hm' : cl ≤ 9223372036854775807) :
    Calls Try.prog 3 #[.agg (callC k id A n c tg kk ef dr), .int .i64 dim, .slice AL nl cl] w fun e w' => e = .returned (.bool true) ∧ Below w.heap.size w w' := by
  have HX := hide hx
  have HY := hide hy
  have Hn := hide hn
  have Hl := hide hn'
  have HC1 := hide (Blk.new w 27 #[.int .i64 k, .int .u64 id, .slice A n c, .int .u64 tg, .int .i64 kk, .int .i64 ef, .int .u64 dr])
  have HB1 := hide (below1 w (.cells #[.int .i64 k, .int .u64 id, .slice A n c, .int .u64 tg, .int .i64 kk, .int .i64 ef, .int .u64 dr] 27))
  have S1 := hide (small_any k id A n c tg kk ef dr AL nl cl l (w.alloc (.cells #[.int .i64 k, .int .u64 id, .slice A n c, .int .u64 tg, .int .i64 kk, .int .i64 ef, .int .u64 dr] 27)) ((hy.alloc (Nat.le_refl _) _).more (by simp)) hn' hd hm')
  clear hx hy hn hn'
  unfold callC at S1
  show Calls Try.prog 3 #[.agg #[.int .i64 k, .int .u64 id, .slice A n c, .int .u64 tg, .int .i64 kk, .int .i64 ef, .int .u64 dr], .int .i64 dim, .slice AL nl cl] w _
  go_enter Try.func3, Try.ntmps3
  go_upto_region 1 with fail
  generalize w.alloc (.cells #[.int .i64 k, .int .u64 id, .slice A n c, .int .u64 tg, .int .i64 kk, .int .i64 ef, .int .u64 dr] 27) = w1 at *
  have z0 : w1.cell? ⟨w.heap.size, 0, none⟩ = some (.int .i64 k) := HC1.out.cell 0
  have z1 : w1.cell? ⟨w.heap.size, 1, none⟩ = some (.int .u64 id) := HC1.out.cell 1
  have z2 : w1.cell? ⟨w.heap.size, 2, none⟩ = some (.slice A n c) := HC1.out.cell 2
  have z3 : w1.cell? ⟨w.heap.size, 3, none⟩ = some (.int .u64 tg) := HC1.out.cell 3
  have z4 : w1.cell? ⟨w.heap.size, 4, none⟩ = some (.int .i64 kk) := HC1.out.cell 4
  have z5 : w1.cell? ⟨w.heap.size, 5, none⟩ = some (.int .i64 ef) := HC1.out.cell 5
  have z6 : w1.cell? ⟨w.heap.size, 6, none⟩ = some (.int .u64 dr) := HC1.out.cell 6
  go_upto_if 19 with (go_at_call 4; refine S1.out.mono ?_; rintro e w2 ⟨⟨r, rfl, hr⟩, hb⟩; have HR := hide hr; have HB2 := hide (HB1.out.trans (hb.mono HB1.out.size)); have HC2 := hide (HC1.out.below hb HC1.out.lt); clear hr hb z0 z1 z2 z3 z4 z5 z6)
  rcases HR.out with rfl | ⟨rfl, h4, h5⟩
  · go_wp2_with (go_at_call 5; refine (lives_any _).mono ?_; rintro e w3 ⟨rfl, hb⟩; have HB3 := hide (HB2.out.trans (hb.mono HB2.out.size)); clear hb)
    go_ret
    exact ⟨rfl, HB3.out⟩
  clear HR
  have HES := hide (show ES w w.heap.size (callC k id A n c tg kk ef dr) A xs w2 from ⟨HC2.out, HB2.out, Rd.below HX.out HB2.out (Nat.le_refl _)⟩)
  go_upto_region 3 with fail
  go_cut [7, 8] (fun s7 s8 wx => ∃ g g8 A2 c2 A3 c3, s7 = .pointer (some ⟨g, 0, none⟩) ∧ s8 = .pointer (some ⟨g8, 0, none⟩) ∧ Made w k id A n c tg kk ef dr dim xs g g8 A2 c2 A3 c3 wx)
  case first =>
    have hw0 : w.heap.size ≤ w2.drew.heap.size := HB2.out.size
    refine wp_region_held_drew (S := fun W => ES w w.heap.size (callC k id A n c tg kk ef dr) A xs W) (by kernel_rfl) (show ES w w.heap.size (callC k id A n c tg kk ef dr) A xs w2.drew from HES.out.step (below_drewN (Below.refl _ _) 1)) (fun hHeld => ?_)
    have hbc : w.heap.size < w2.drew.heap.size := HES.out.1.lt
    generalize w2.drew = wd at *
    refine wpAnyH_take (i := 0) (v := .agg (callC k id A n c tg kk ef dr)) rfl (by kernel_rfl) (by kernel_rfl) (by kernel_rfl) (fun _ _ _ h => h) (yieldsIf_load_row (by rfl) 27 _ rfl w.heap.size rfl 27 _ (0, 0) _ (fun _ h => h.1) Try.underlying27 rfl infoCall) hHeld ?_
    try simp only [Act.put, List.setIfInBounds_toArray, List.set_cons_zero, List.set_cons_succ, List.getElem_toArray, List.getElem_cons_zero, List.getElem_cons_succ]
    refine wpAnyH_take (i := 1) (v := .int .i64 dim) rfl (by kernel_rfl) (by kernel_rfl) (by kernel_rfl) (fun _ _ _ h => h) (Or.inl ⟨by rfl, fun W hS => by clear hS hHeld; go_simp⟩) hHeld ?_
    try simp only [Act.put, List.setIfInBounds_toArray, List.set_cons_zero, List.set_cons_succ, List.getElem_toArray, List.getElem_cons_zero, List.getElem_cons_succ]
    refine wpAnyH_take (i := 3) (v := .agg (callC k id A n c tg kk ef dr)) rfl (by kernel_rfl) (by kernel_rfl) (by kernel_rfl) (fun _ _ _ h => h) (yieldsIf_load_row (by rfl) 27 _ rfl w.heap.size rfl 27 _ (0, 0) _ (fun _ h => h.1) Try.underlying27 rfl infoCall) hHeld ?_
    try simp only [Act.put, List.setIfInBounds_toArray, List.set_cons_zero, List.set_cons_succ, List.getElem_toArray, List.getElem_cons_zero, List.getElem_cons_succ]
    refine wpAnyH_take (i := 4) (v := .int .i64 dim) rfl (by kernel_rfl) (by kernel_rfl) (by kernel_rfl) (fun _ _ _ h => h) (Or.inl ⟨by rfl, fun W hS => by clear hS hHeld; go_simp⟩) hHeld ?_
    try simp only [Act.put, List.setIfInBounds_toArray, List.set_cons_zero, List.set_cons_succ, List.getElem_toArray, List.getElem_cons_zero, List.getElem_cons_succ]
    refine wpAnyH_ready (rs := [2, 6]) (by kernel_rfl) (by simp) ?_
    refine AllReadyH.cons rfl (fun K hK => ?_) ?_
    · try simp only [Act.put, List.setIfInBounds_toArray, List.set_cons_zero, List.set_cons_succ, List.getElem_toArray, List.getElem_cons_zero, List.getElem_cons_succ]
      go_simp
      go_at_call 6
      refine (new_any k id A n c tg kk ef dr dim xs _ hHeld.rd Hn.out (by omega)).mono ?_
      rintro e w6 ⟨g, A2, c2, rfl, hg6, hT6, hn6, hm6, hr6, hb6⟩
      have HT6 := hide (show Blk w6 g 56 (tskC k id A2 n c2 tg kk ef dr dim .a) from hT6)
      have hs6 := hb6.size
      have hgl6 := hT6.lt
      clear hT6
      refine hK.out _ _ (hHeld.step hb6) (fun hHeld2 => ?_)
      clear hK K hHeld
      have hHeld := hHeld2
      clear hHeld2
      try simp only [Act.put, List.setIfInBounds_toArray, List.set_cons_zero, List.set_cons_succ, List.getElem_toArray, List.getElem_cons_zero, List.getElem_cons_succ]
      refine wpAnyH_ready (rs := [5, 6]) (by kernel_rfl) (by simp) ?_
      refine AllReadyH.cons rfl (fun K hK => ?_) ?_
      · try simp only [Act.put, List.setIfInBounds_toArray, List.set_cons_zero, List.set_cons_succ, List.getElem_toArray, List.getElem_cons_zero, List.getElem_cons_succ]
        go_simp
        go_at_call 7
        refine (refNew_any k id A n c tg kk ef dr dim xs _ hHeld.rd Hn.out hc hm (by omega)).mono ?_
        rintro e w7 ⟨A3, c3, rfl, hn7, hm7, hr7, hb7⟩
        have hs7 := hb7.size
        refine hK.out _ _ (hHeld.step hb7) (fun hHeld2 => ?_)
        clear hK K hHeld
        have hHeld := hHeld2
        clear hHeld2
        try simp only [Act.put, List.setIfInBounds_toArray, List.set_cons_zero, List.set_cons_succ, List.getElem_toArray, List.getElem_cons_zero, List.getElem_cons_succ]
        refine wpAnyH_ready (rs := [6]) (by kernel_rfl) (by simp) ?_
        refine AllReadyH.cons rfl (fun K hK => ?_) AllReadyH.nil
        try simp only [Act.put, List.setIfInBounds_toArray, List.set_cons_zero, List.set_cons_succ, List.getElem_toArray, List.getElem_cons_zero, List.getElem_cons_succ]
        go_simp
        refine hK.out _ _ (hHeld.step (below1 _ _)) (fun hHeld2 => ?_)
        clear hK K hHeld
        have hHeld := hHeld2
        clear hHeld2
        try simp only [Act.put, List.setIfInBounds_toArray, List.set_cons_zero, List.set_cons_succ, List.getElem_toArray, List.getElem_cons_zero, List.getElem_cons_succ]
        have hsa : (w7.alloc (.cells #[.int .i64 0, .int .u64 0, .slice none 0 0, .int .u64 0, .int .i64 0, .int .i64 0, .int .u64 0, .int .i64 0, .int .i64 0, .int .i64 0, .int .i64 0, .int .i64 0, .int .i64 0, .int .u64 0, .slice none 0 0, .int .u64 0, .int .i64 0, .int .i64 0, .int .u64 0, .int .i64 0, .int .u64 0, .slice none 0 0, .int .u64 0, .slice none 0 0, .int .i64 0, .int .i64 0, .slice none 0 0, .int .i64 0] 39)).heap.size = w7.heap.size + 1 := by simp
        refine wpAnyH_take (i := 7) (v := .pointer (some ⟨g, 0, none⟩)) rfl (by kernel_rfl) (by kernel_rfl) (by kernel_rfl) (fun _ _ _ h => h) (Or.inl ⟨by rfl, fun W hS => by clear hS hHeld; go_simp⟩) hHeld ?_
        try simp only [Act.put, List.setIfInBounds_toArray, List.set_cons_zero, List.set_cons_succ, List.getElem_toArray, List.getElem_cons_zero, List.getElem_cons_succ]
        have HTf : Blk (w7.alloc (.cells #[.int .i64 0, .int .u64 0, .slice none 0 0, .int .u64 0, .int .i64 0, .int .i64 0, .int .u64 0, .int .i64 0, .int .i64 0, .int .i64 0, .int .i64 0, .int .i64 0, .int .i64 0, .int .u64 0, .slice none 0 0, .int .u64 0, .int .i64 0, .int .i64 0, .int .u64 0, .int .i64 0, .int .u64 0, .slice none 0 0, .int .u64 0, .slice none 0 0, .int .i64 0, .int .i64 0, .slice none 0 0, .int .i64 0] 39)) g 56 (tskC k id A2 n c2 tg kk ef dr dim .a) := (HT6.out.below hb7 hgl6).alloc _
        have HZf : Blk (w7.alloc (.cells #[.int .i64 0, .int .u64 0, .slice none 0 0, .int .u64 0, .int .i64 0, .int .i64 0, .int .u64 0, .int .i64 0, .int .i64 0, .int .i64 0, .int .i64 0, .int .i64 0, .int .i64 0, .int .u64 0, .slice none 0 0, .int .u64 0, .int .i64 0, .int .i64 0, .int .u64 0, .int .i64 0, .int .u64 0, .slice none 0 0, .int .u64 0, .slice none 0 0, .int .i64 0, .int .i64 0, .slice none 0 0, .int .i64 0] 39)) (w7.heap.size) 39 #[.int .i64 0, .int .u64 0, .slice none 0 0, .int .u64 0, .int .i64 0, .int .i64 0, .int .u64 0, .int .i64 0, .int .i64 0, .int .i64 0, .int .i64 0, .int .i64 0, .int .i64 0, .int .u64 0, .slice none 0 0, .int .u64 0, .int .i64 0, .int .i64 0, .int .u64 0, .int .i64 0, .int .u64 0, .slice none 0 0, .int .u64 0, .slice none 0 0, .int .i64 0, .int .i64 0, .slice none 0 0, .int .i64 0] := Blk.new w7 39 #[.int .i64 0, .int .u64 0, .slice none 0 0, .int .u64 0, .int .i64 0, .int .i64 0, .int .u64 0, .int .i64 0, .int .i64 0, .int .i64 0, .int .i64 0, .int .i64 0, .int .i64 0, .int .u64 0, .slice none 0 0, .int .u64 0, .int .i64 0, .int .i64 0, .int .u64 0, .int .i64 0, .int .u64 0, .slice none 0 0, .int .u64 0, .slice none 0 0, .int .i64 0, .int .i64 0, .slice none 0 0, .int .i64 0]
        have R2f : RdR (Sh.int .i32) (w7.alloc (.cells #[.int .i64 0, .int .u64 0, .slice none 0 0, .int .u64 0, .int .i64 0, .int .i64 0, .int .u64 0, .int .i64 0, .int .i64 0, .int .i64 0, .int .i64 0, .int .i64 0, .int .i64 0, .int .u64 0, .slice none 0 0, .int .u64 0, .int .i64 0, .int .i64 0, .int .u64 0, .int .i64 0, .int .u64 0, .slice none 0 0, .int .u64 0, .slice none 0 0, .int .i64 0, .int .i64 0, .slice none 0 0, .int .i64 0] 39)) (EN (w7.alloc (.cells #[.int .i64 0, .int .u64 0, .slice none 0 0, .int .u64 0, .int .i64 0, .int .i64 0, .int .u64 0, .int .i64 0, .int .i64 0, .int .i64 0, .int .i64 0, .int .i64 0, .int .i64 0, .int .u64 0, .slice none 0 0, .int .u64 0, .int .i64 0, .int .i64 0, .int .u64 0, .int .i64 0, .int .u64 0, .slice none 0 0, .int .u64 0, .slice none 0 0, .int .i64 0, .int .i64 0, .slice none 0 0, .int .i64 0] 39)).heap.size g (w7.heap.size)) A2 xs := ((RdR.below hr6 hb7 (fun b hb => by have := hb.1; have := hb.2; first | omega | (simp at *; omega))).below (below1 w7 (.cells #[.int .i64 0, .int .u64 0, .slice none 0 0, .int .u64 0, .int .i64 0, .int .i64 0, .int .u64 0, .int .i64 0, .int .i64 0, .int .i64 0, .int .i64 0, .int .i64 0, .int .i64 0, .int .u64 0, .slice none 0 0, .int .u64 0, .int .i64 0, .int .i64 0, .int .u64 0, .int .i64 0, .int .u64 0, .slice none 0 0, .int .u64 0, .slice none 0 0, .int .i64 0, .int .i64 0, .slice none 0 0, .int .i64 0] 39)) (fun b hb => by have := hb.1; have := hb.2; first | omega | (simp at *; omega))).more (fun b hb => ⟨by first | (have := hb.1; have := hb.2; omega) | (have := hb.1; have := hb.2; simp; omega), by have := hb.1; have := hb.2; first | omega | (simp at *; omega), by have := hb.1; have := hb.2; first | omega | (simp at *; omega)⟩)
        have R3f : RdR (Sh.int .i32) (w7.alloc (.cells #[.int .i64 0, .int .u64 0, .slice none 0 0, .int .u64 0, .int .i64 0, .int .i64 0, .int .u64 0, .int .i64 0, .int .i64 0, .int .i64 0, .int .i64 0, .int .i64 0, .int .i64 0, .int .u64 0, .slice none 0 0, .int .u64 0, .int .i64 0, .int .i64 0, .int .u64 0, .int .i64 0, .int .u64 0, .slice none 0 0, .int .u64 0, .slice none 0 0, .int .i64 0, .int .i64 0, .slice none 0 0, .int .i64 0] 39)) (EN (w7.alloc (.cells #[.int .i64 0, .int .u64 0, .slice none 0 0, .int .u64 0, .int .i64 0, .int .i64 0, .int .u64 0, .int .i64 0, .int .i64 0, .int .i64 0, .int .i64 0, .int .i64 0, .int .i64 0, .int .u64 0, .slice none 0 0, .int .u64 0, .int .i64 0, .int .i64 0, .int .u64 0, .int .i64 0, .int .u64 0, .slice none 0 0, .int .u64 0, .slice none 0 0, .int .i64 0, .int .i64 0, .slice none 0 0, .int .i64 0] 39)).heap.size g (w7.heap.size)) A3 xs := (RdR.below hr7 (below1 w7 (.cells #[.int .i64 0, .int .u64 0, .slice none 0 0, .int .u64 0, .int .i64 0, .int .i64 0, .int .u64 0, .int .i64 0, .int .i64 0, .int .i64 0, .int .i64 0, .int .i64 0, .int .i64 0, .int .u64 0, .slice none 0 0, .int .u64 0, .int .i64 0, .int .i64 0, .int .u64 0, .int .i64 0, .int .u64 0, .slice none 0 0, .int .u64 0, .slice none 0 0, .int .i64 0, .int .i64 0, .slice none 0 0, .int .i64 0] 39)) (fun b hb => by have := hb.1; have := hb.2; first | omega | (simp at *; omega))).more (fun b hb => ⟨by first | (have := hb.1; have := hb.2; omega) | (have := hb.1; have := hb.2; simp; omega), by have := hb.1; have := hb.2; first | omega | (simp at *; omega), by have := hb.1; have := hb.2; first | omega | (simp at *; omega)⟩)
        have HMf := hide (Made.store (w := w) (A := A) (c := c) (g := g) (g8 := w7.heap.size) HTf R2f R3f (by omega) (by omega) (by omega) ⟨hn6, hm6⟩ ⟨hn7, hm7⟩ hHeld.2.1 HZf.lt HZf)
        have HZg := hide HZf
        clear HTf HZf R2f R3f hr6 hr7
        refine wpAnyH_ready (rs := [8]) (by kernel_rfl) (by simp) ?_
        refine AllReadyH.cons rfl (fun K hK => ?_) AllReadyH.nil
        refine stepH_store_row (by rfl) 39 _ _ rfl (w7.heap.size) rfl 39 _ (rfC k id A3 n c3 tg kk ef dr dim .a) rfl HZg.out infoT rfl (refC_one ..) ?_
        refine hK.out _ _ (hHeld.setRow (by omega) (by omega) _) (fun hHeld2 => ?_)
        clear hK K hHeld
        have hHeld := hHeld2
        clear hHeld2
        try simp only [Act.put, List.setIfInBounds_toArray, List.set_cons_zero, List.set_cons_succ, List.getElem_toArray, List.getElem_cons_zero, List.getElem_cons_succ]
        refine wpAnyH_done (by kernel_rfl) ?_ _
        go_wp2_with fail
        go_meet
        case rel => exact ⟨g, w7.heap.size, A2, c2, A3, c3, rfl, rfl, HMf.out⟩
      refine AllReadyH.cons rfl (fun K hK => ?_) AllReadyH.nil
      try simp only [Act.put, List.setIfInBounds_toArray, List.set_cons_zero, List.set_cons_succ, List.getElem_toArray, List.getElem_cons_zero, List.getElem_cons_succ]
      go_simp
      refine hK.out _ _ (hHeld.step (below1 _ _)) (fun hHeld2 => ?_)
      clear hK K hHeld
      have hHeld := hHeld2
      clear hHeld2
      try simp only [Act.put, List.setIfInBounds_toArray, List.set_cons_zero, List.set_cons_succ, List.getElem_toArray, List.getElem_cons_zero, List.getElem_cons_succ]
      have hsa : (w6.alloc (.cells #[.int .i64 0, .int .u64 0, .slice none 0 0, .int .u64 0, .int .i64 0, .int .i64 0, .int .u64 0, .int .i64 0, .int .i64 0, .int .i64 0, .int .i64 0, .int .i64 0, .int .i64 0, .int .u64 0, .slice none 0 0, .int .u64 0, .int .i64 0, .int .i64 0, .int .u64 0, .int .i64 0, .int .u64 0, .slice none 0 0, .int .u64 0, .slice none 0 0, .int .i64 0, .int .i64 0, .slice none 0 0, .int .i64 0] 39)).heap.size = w6.heap.size + 1 := by simp
      refine wpAnyH_ready (rs := [5]) (by kernel_rfl) (by simp) ?_
      refine AllReadyH.cons rfl (fun K hK => ?_) AllReadyH.nil
      try simp only [Act.put, List.setIfInBounds_toArray, List.set_cons_zero, List.set_cons_succ, List.getElem_toArray, List.getElem_cons_zero, List.getElem_cons_succ]
      go_simp
      go_at_call 7
      refine (refNew_any k id A n c tg kk ef dr dim xs _ hHeld.rd Hn.out hc hm (by omega)).mono ?_
      rintro e w7 ⟨A3, c3, rfl, hn7, hm7, hr7, hb7⟩
      have hs7 := hb7.size
      refine hK.out _ _ (hHeld.step hb7) (fun hHeld2 => ?_)
      clear hK K hHeld
      have hHeld := hHeld2
      clear hHeld2
      try simp only [Act.put, List.setIfInBounds_toArray, List.set_cons_zero, List.set_cons_succ, List.getElem_toArray, List.getElem_cons_zero, List.getElem_cons_succ]
      refine wpAnyH_take (i := 7) (v := .pointer (some ⟨g, 0, none⟩)) rfl (by kernel_rfl) (by kernel_rfl) (by kernel_rfl) (fun _ _ _ h => h) (Or.inl ⟨by rfl, fun W hS => by clear hS hHeld; go_simp⟩) hHeld ?_
      try simp only [Act.put, List.setIfInBounds_toArray, List.set_cons_zero, List.set_cons_succ, List.getElem_toArray, List.getElem_cons_zero, List.getElem_cons_succ]
      have HTf : Blk (w7) g 56 (tskC k id A2 n c2 tg kk ef dr dim .a) := (HT6.out.alloc _).below hb7 (by omega)
      have HZf : Blk (w7) (w6.heap.size) 39 #[.int .i64 0, .int .u64 0, .slice none 0 0, .int .u64 0, .int .i64 0, .int .i64 0, .int .u64 0, .int .i64 0, .int .i64 0, .int .i64 0, .int .i64 0, .int .i64 0, .int .i64 0, .int .u64 0, .slice none 0 0, .int .u64 0, .int .i64 0, .int .i64 0, .int .u64 0, .int .i64 0, .int .u64 0, .slice none 0 0, .int .u64 0, .slice none 0 0, .int .i64 0, .int .i64 0, .slice none 0 0, .int .i64 0] := (Blk.new w6 39 #[.int .i64 0, .int .u64 0, .slice none 0 0, .int .u64 0, .int .i64 0, .int .i64 0, .int .u64 0, .int .i64 0, .int .i64 0, .int .i64 0, .int .i64 0, .int .i64 0, .int .i64 0, .int .u64 0, .slice none 0 0, .int .u64 0, .int .i64 0, .int .i64 0, .int .u64 0, .int .i64 0, .int .u64 0, .slice none 0 0, .int .u64 0, .slice none 0 0, .int .i64 0, .int .i64 0, .slice none 0 0, .int .i64 0]).below hb7 (by omega)
      have R2f : RdR (Sh.int .i32) (w7) (EN (w7).heap.size g (w6.heap.size)) A2 xs := ((RdR.below hr6 (below1 w6 (.cells #[.int .i64 0, .int .u64 0, .slice none 0 0, .int .u64 0, .int .i64 0, .int .i64 0, .int .u64 0, .int .i64 0, .int .i64 0, .int .i64 0, .int .i64 0, .int .i64 0, .int .i64 0, .int .u64 0, .slice none 0 0, .int .u64 0, .int .i64 0, .int .i64 0, .int .u64 0, .int .i64 0, .int .u64 0, .slice none 0 0, .int .u64 0, .slice none 0 0, .int .i64 0, .int .i64 0, .slice none 0 0, .int .i64 0] 39)) (fun b hb => by have := hb.1; have := hb.2; first | omega | (simp at *; omega))).below hb7 (fun b hb => by have := hb.1; have := hb.2; first | omega | (simp at *; omega))).more (fun b hb => ⟨by first | (have := hb.1; have := hb.2; omega) | (have := hb.1; have := hb.2; simp; omega), by have := hb.1; have := hb.2; first | omega | (simp at *; omega), by have := hb.1; have := hb.2; first | omega | (simp at *; omega)⟩)
      have R3f : RdR (Sh.int .i32) (w7) (EN (w7).heap.size g (w6.heap.size)) A3 xs := RdR.more hr7 (fun b hb => ⟨by first | (have := hb.1; have := hb.2; omega) | (have := hb.1; have := hb.2; simp; omega), by have := hb.1; have := hb.2; first | omega | (simp at *; omega), by have := hb.1; have := hb.2; first | omega | (simp at *; omega)⟩)
      have HMf := hide (Made.store (w := w) (A := A) (c := c) (g := g) (g8 := w6.heap.size) HTf R2f R3f (by omega) (by omega) (by omega) ⟨hn6, hm6⟩ ⟨hn7, hm7⟩ hHeld.2.1 HZf.lt HZf)
      have HZg := hide HZf
      clear HTf HZf R2f R3f hr6 hr7
      refine wpAnyH_ready (rs := [8]) (by kernel_rfl) (by simp) ?_
      refine AllReadyH.cons rfl (fun K hK => ?_) AllReadyH.nil
      refine stepH_store_row (by rfl) 39 _ _ rfl (w6.heap.size) rfl 39 _ (rfC k id A3 n c3 tg kk ef dr dim .a) rfl HZg.out infoT rfl (refC_one ..) ?_
      refine hK.out _ _ (hHeld.setRow (by omega) (by omega) _) (fun hHeld2 => ?_)
      clear hK K hHeld
      have hHeld := hHeld2
      clear hHeld2
      try simp only [Act.put, List.setIfInBounds_toArray, List.set_cons_zero, List.set_cons_succ, List.getElem_toArray, List.getElem_cons_zero, List.getElem_cons_succ]
      refine wpAnyH_done (by kernel_rfl) ?_ _
      go_wp2_with fail
      go_meet
      case rel => exact ⟨g, w6.heap.size, A2, c2, A3, c3, rfl, rfl, HMf.out⟩
    refine AllReadyH.cons rfl (fun K hK => ?_) AllReadyH.nil
    try simp only [Act.put, List.setIfInBounds_toArray, List.set_cons_zero, List.set_cons_succ, List.getElem_toArray, List.getElem_cons_zero, List.getElem_cons_succ]
    go_simp
    refine hK.out _ _ (hHeld.step (below1 _ _)) (fun hHeld2 => ?_)
    clear hK K hHeld
    have hHeld := hHeld2
    clear hHeld2
    try simp only [Act.put, List.setIfInBounds_toArray, List.set_cons_zero, List.set_cons_succ, List.getElem_toArray, List.getElem_cons_zero, List.getElem_cons_succ]
    have hsa : (wd.alloc (.cells #[.int .i64 0, .int .u64 0, .slice none 0 0, .int .u64 0, .int .i64 0, .int .i64 0, .int .u64 0, .int .i64 0, .int .i64 0, .int .i64 0, .int .i64 0, .int .i64 0, .int .i64 0, .int .u64 0, .slice none 0 0, .int .u64 0, .int .i64 0, .int .i64 0, .int .u64 0, .int .i64 0, .int .u64 0, .slice none 0 0, .int .u64 0, .slice none 0 0, .int .i64 0, .int .i64 0, .slice none 0 0, .int .i64 0] 39)).heap.size = wd.heap.size + 1 := by simp
    refine wpAnyH_ready (rs := [2]) (by kernel_rfl) (by simp) ?_
    refine AllReadyH.cons rfl (fun K hK => ?_) AllReadyH.nil
    try simp only [Act.put, List.setIfInBounds_toArray, List.set_cons_zero, List.set_cons_succ, List.getElem_toArray, List.getElem_cons_zero, List.getElem_cons_succ]
    go_simp
    go_at_call 6
    refine (new_any k id A n c tg kk ef dr dim xs _ hHeld.rd Hn.out (by omega)).mono ?_
    rintro e w6 ⟨g, A2, c2, rfl, hg6, hT6, hn6, hm6, hr6, hb6⟩
    have HT6 := hide (show Blk w6 g 56 (tskC k id A2 n c2 tg kk ef dr dim .a) from hT6)
    have hs6 := hb6.size
    have hgl6 := hT6.lt
    clear hT6
    refine hK.out _ _ (hHeld.step hb6) (fun hHeld2 => ?_)
    clear hK K hHeld
    have hHeld := hHeld2
    clear hHeld2
    try simp only [Act.put, List.setIfInBounds_toArray, List.set_cons_zero, List.set_cons_succ, List.getElem_toArray, List.getElem_cons_zero, List.getElem_cons_succ]
    refine wpAnyH_ready (rs := [5]) (by kernel_rfl) (by simp) ?_
    refine AllReadyH.cons rfl (fun K hK => ?_) AllReadyH.nil
    try simp only [Act.put, List.setIfInBounds_toArray, List.set_cons_zero, List.set_cons_succ, List.getElem_toArray, List.getElem_cons_zero, List.getElem_cons_succ]
    go_simp
    go_at_call 7
    refine (refNew_any k id A n c tg kk ef dr dim xs _ hHeld.rd Hn.out hc hm (by omega)).mono ?_
    rintro e w7 ⟨A3, c3, rfl, hn7, hm7, hr7, hb7⟩
    have hs7 := hb7.size
    refine hK.out _ _ (hHeld.step hb7) (fun hHeld2 => ?_)
    clear hK K hHeld
    have hHeld := hHeld2
    clear hHeld2
    try simp only [Act.put, List.setIfInBounds_toArray, List.set_cons_zero, List.set_cons_succ, List.getElem_toArray, List.getElem_cons_zero, List.getElem_cons_succ]
    refine wpAnyH_take (i := 7) (v := .pointer (some ⟨g, 0, none⟩)) rfl (by kernel_rfl) (by kernel_rfl) (by kernel_rfl) (fun _ _ _ h => h) (Or.inl ⟨by rfl, fun W hS => by clear hS hHeld; go_simp⟩) hHeld ?_
    try simp only [Act.put, List.setIfInBounds_toArray, List.set_cons_zero, List.set_cons_succ, List.getElem_toArray, List.getElem_cons_zero, List.getElem_cons_succ]
    have HTf : Blk (w7) g 56 (tskC k id A2 n c2 tg kk ef dr dim .a) := HT6.out.below hb7 hgl6
    have HZf : Blk (w7) (wd.heap.size) 39 #[.int .i64 0, .int .u64 0, .slice none 0 0, .int .u64 0, .int .i64 0, .int .i64 0, .int .u64 0, .int .i64 0, .int .i64 0, .int .i64 0, .int .i64 0, .int .i64 0, .int .i64 0, .int .u64 0, .slice none 0 0, .int .u64 0, .int .i64 0, .int .i64 0, .int .u64 0, .int .i64 0, .int .u64 0, .slice none 0 0, .int .u64 0, .slice none 0 0, .int .i64 0, .int .i64 0, .slice none 0 0, .int .i64 0] := ((Blk.new wd 39 #[.int .i64 0, .int .u64 0, .slice none 0 0, .int .u64 0, .int .i64 0, .int .i64 0, .int .u64 0, .int .i64 0, .int .i64 0, .int .i64 0, .int .i64 0, .int .i64 0, .int .i64 0, .int .u64 0, .slice none 0 0, .int .u64 0, .int .i64 0, .int .i64 0, .int .u64 0, .int .i64 0, .int .u64 0, .slice none 0 0, .int .u64 0, .slice none 0 0, .int .i64 0, .int .i64 0, .slice none 0 0, .int .i64 0]).below hb6 (by omega)).below hb7 (by omega)
    have R2f : RdR (Sh.int .i32) (w7) (EN (w7).heap.size g (wd.heap.size)) A2 xs := (RdR.below hr6 hb7 (fun b hb => by have := hb.1; have := hb.2; first | omega | (simp at *; omega))).more (fun b hb => ⟨by first | (have := hb.1; have := hb.2; omega) | (have := hb.1; have := hb.2; simp; omega), by have := hb.1; have := hb.2; first | omega | (simp at *; omega), by have := hb.1; have := hb.2; first | omega | (simp at *; omega)⟩)
    have R3f : RdR (Sh.int .i32) (w7) (EN (w7).heap.size g (wd.heap.size)) A3 xs := RdR.more hr7 (fun b hb => ⟨by first | (have := hb.1; have := hb.2; omega) | (have := hb.1; have := hb.2; simp; omega), by have := hb.1; have := hb.2; first | omega | (simp at *; omega), by have := hb.1; have := hb.2; first | omega | (simp at *; omega)⟩)
    have HMf := hide (Made.store (w := w) (A := A) (c := c) (g := g) (g8 := wd.heap.size) HTf R2f R3f (by omega) (by omega) (by omega) ⟨hn6, hm6⟩ ⟨hn7, hm7⟩ hHeld.2.1 HZf.lt HZf)
    have HZg := hide HZf
    clear HTf HZf R2f R3f hr6 hr7
    refine wpAnyH_ready (rs := [8]) (by kernel_rfl) (by simp) ?_
    refine AllReadyH.cons rfl (fun K hK => ?_) AllReadyH.nil
    refine stepH_store_row (by rfl) 39 _ _ rfl (wd.heap.size) rfl 39 _ (rfC k id A3 n c3 tg kk ef dr dim .a) rfl HZg.out infoT rfl (refC_one ..) ?_
    refine hK.out _ _ (hHeld.setRow (by omega) (by omega) _) (fun hHeld2 => ?_)
    clear hK K hHeld
    have hHeld := hHeld2
    clear hHeld2
    try simp only [Act.put, List.setIfInBounds_toArray, List.set_cons_zero, List.set_cons_succ, List.getElem_toArray, List.getElem_cons_zero, List.getElem_cons_succ]
    refine wpAnyH_done (by kernel_rfl) ?_ _
    go_wp2_with fail
    go_meet
    case rel => exact ⟨g, wd.heap.size, A2, c2, A3, c3, rfl, rfl, HMf.out⟩
  case rest =>
    obtain ⟨g, g8, A2, c2, A3, c3, rfl, rfl, hT, hZ, hne, hg, hg8, hq2, hq3, r2, r3, hb⟩ := hcut
    have HT0 := hide hT
    have HZ0 := hide hZ
    have hgl := hT.lt
    have hg8l := hZ.lt
    have HGO := hide (show (wc.alloc (.cells #[.bool false, .int .i64 0, .int .i64 0, .slice none 0 0, .int .u64 0, .slice none 0 0, .int .u64 0] 42)).ownsRow wc.heap.size 42 7 (.slice (some ⟨wc.heap.size, 0, none⟩) 1 1) 1 (gcs [gz]) from ⟨rfl, .inr ⟨wc.heap.size, 1, #[.bool false, .int .i64 0, .int .i64 0, .slice none 0 0, .int .u64 0, .slice none 0 0, .int .u64 0], rfl, Nat.le_refl _, heap_alloc_new _ _, Nat.le_refl _, by simp [maxLen], rfl, rfl⟩⟩)
    have HGR := hide (gots_reads (w := wc.alloc (.cells #[.bool false, .int .i64 0, .int .i64 0, .slice none 0 0, .int .u64 0, .slice none 0 0, .int .u64 0] 42)) (((Rd.below HY.out hb (Nat.le_refl _)).alloc hb.size _).more hb.size) Hl.out)
    have HGB := hide (below1 wc (.cells #[.bool false, .int .i64 0, .int .i64 0, .slice none 0 0, .int .u64 0, .slice none 0 0, .int .u64 0] 42))
    obtain ⟨i0, hi, hi2⟩ := Option.map_eq_some_iff.1 info_got
    simp only [Prod.mk.injEq] at hi2
    obtain ⟨hz0, hs0, hy0⟩ := hi2
    have hy1 := of_decide_eq_true hy0
    have HI := hide hi
    have HIZ := hide hz0
    have HIS := hide hs0
    have HIY := hide hy1
    have HM := hide (show RdR (Sh.int .i32) wc (EN wc.heap.size g g8) A2 xs ∧ RdR (Sh.int .i32) wc (EN wc.heap.size g g8) A3 xs ∧ Below w.heap.size w wc from ⟨r2, r3, hb⟩)
    clear hT hZ r2 r3 hb hi hz0 hs0 hy0 hy1 HES HB2 HC2 S1 HB1 HC1
    go_upto_region 7 with (at_builtin; refine wpList_append_any _ rfl _ _ 28 rfl wc.heap.size 42 i0 _ 7 i0.bytes Try.underlying28 HI.out HIZ.out HIS.out rfl rfl (by decide) _ 1 (gcs [gz]) rfl HGO.out wc.heap.size AL nl cl (gcs l) rfl HGR.out (gcs_one l) (by simp only [maxLen]; omega) (by have := HIY.out; have := Nat.mul_le_mul (show 1 + nl ≤ 401 by omega) this; omega) HGB.out.size ?_; intro v' w9 hown9 hgr9 _; obtain ⟨A9, c9, rfl, o1, o2⟩ := own_form hown9; have HO9 := hide (show w9.ownsRow wc.heap.size 42 7 (.slice A9 (1 + nl) c9) (1 + nl) (gcs (gz :: l)) from hown9); have HB9 := hide (below_own HGB.out HGO.out HGB.out.size hgr9); clear hown9 hgr9; generalize hNL : 1 + nl = nL at *; have HNLe := hide hNL; clear hNL)
    have HT9 := hide (HT0.out.below HB9.out hgl)
    have HZ9 := hide (HZ0.out.below HB9.out hg8l)
    have HSZ := hide HB9.out.size
    have HE9 := hide (show EK w g g8 w9.heap.size A2 A3 A9 xs (gz :: l) w9 from ⟨HM.out.2.2.trans (HB9.out.mono HM.out.2.2.size), Nat.le_refl _, (RdR.below HM.out.1 HB9.out (fun b hb => hb.1)).more (fun b hb => ⟨by have := HSZ.out; have := hb.1; omega, hb.2⟩), (RdR.below HM.out.2.1 HB9.out (fun b hb => hb.1)).more (fun b hb => ⟨by have := HSZ.out; have := hb.1; omega, hb.2⟩), (gotsR_own HO9.out).more (fun b hb => ⟨hb.2, by have := hb.1; omega, by have := hb.1; omega⟩)⟩)
    have HLL := hide (show (gz :: l).length = nL by rw [List.length_cons, Hl.out, Nat.add_comm]; exact HNLe.out)
    have HNL := hide (show nL ≤ 9223372036854775807 by have := HNLe.out; omega)
    have HG9 := hide (show g < w9.heap.size by have := HSZ.out; omega)
    have HG89 := hide (show g8 < w9.heap.size by have := HSZ.out; omega)
    clear HGO HGR HGB HI HIZ HIS HIY HO9 HM HT0 HZ0 HX HY Hl hgl hg8l HB9 HSZ o1 o2
    generalize gz :: l = gl at *
    generalize hN : w9.heap.size = N at *
    have HN := hide hN
    clear hN
    go_loopw [10, 11, 12, 13, 14, 15, 34] (fun _ _ _ _ _ _ i wr => ∃ (j : Nat) (s : TS), j ≤ nL ∧ i = .int .i64 j ∧ Hid (Blk wr g 56 (tskC k id A2 n c2 tg kk ef dr dim s)) ∧ Hid (Blk wr g8 39 (rfC k id A3 n c3 tg kk ef dr dim s)) ∧ Hid (EK w g g8 N A2 A3 A9 xs gl wr)) (fun _ _ _ _ _ _ i _ => nL - (intOf i).toNat)
    case atStart => exact ⟨0, .a, by omega, rfl, HT9, HZ9, HE9⟩
    case round =>
      clear HT9 HZ9 HE9
      obtain ⟨j, s, hj, rfl, HT, HZ, HE⟩ := hrel
      by_cases hlt : j < nL
      · obtain ⟨ad, x, rfl, _, hv, q0, q1, q2, q3, q4, q5, q6⟩ := HE.out.2.2.2.2.gcell (k := j) (by have := HLL.out; omega)
        have g0 : (0 : Int) ≤ j := by omega
        have g1 : (j : Int) < nL := by omega
        obtain ⟨ok, gn, gm, LA, ln, lc, gi, VA, vn, vc, gt⟩ := x
        simp only at q0 q1 q2 q3 q4 q5 q6
        clear hv
        have HGt := hide (Blk.new wr 42 #[.bool ok, .int .i64 gn, .int .i64 gm, .slice LA ln lc, .int .u64 gi, .slice VA vn vc, .int .u64 gt])
        have HTa := hide (HT.out.alloc (.cells #[.bool ok, .int .i64 gn, .int .i64 gm, .slice LA ln lc, .int .u64 gi, .slice VA vn vc, .int .u64 gt] 42))
        have HZa := hide (HZ.out.alloc (.cells #[.bool ok, .int .i64 gn, .int .i64 gm, .slice LA ln lc, .int .u64 gi, .slice VA vn vc, .int .u64 gt] 42))
        have HEa := hide (HE.out.step (below1 wr (.cells #[.bool ok, .int .i64 gn, .int .i64 gm, .slice LA ln lc, .int .u64 gi, .slice VA vn vc, .int .u64 gt] 42)))
        have hNr := HE.out.2.1
        have hsr : (wr.alloc (.cells #[.bool ok, .int .i64 gn, .int .i64 gm, .slice LA ln lc, .int .u64 gi, .slice VA vn vc, .int .u64 gt] 42)).heap.size = wr.heap.size + 1 := by simp
        have hg9 := HG9.out
        have hg89 := HG89.out
        go_upto_region 9 with fail
        generalize wr.alloc (.cells #[.bool ok, .int .i64 gn, .int .i64 gm, .slice LA ln lc, .int .u64 gi, .slice VA vn vc, .int .u64 gt] 42) = wa at *
        clear q0 q1 q2 q3 q4 q5 q6 HT HZ HE
        have hbt : wr.heap.size < wa.heap.size := by omega
        clear hsr
        generalize wr.heap.size = bt at *
        have y0 : wa.cell? ⟨bt, 0, none⟩ = some (.bool ok) := HGt.out.cell 0
        have y1 : wa.cell? ⟨bt, 1, none⟩ = some (.int .i64 gn) := HGt.out.cell 1
        have y2 : wa.cell? ⟨bt, 2, none⟩ = some (.int .i64 gm) := HGt.out.cell 2
        have y3 : wa.cell? ⟨bt, 3, none⟩ = some (.slice LA ln lc) := HGt.out.cell 3
        have y4 : wa.cell? ⟨bt, 4, none⟩ = some (.int .u64 gi) := HGt.out.cell 4
        have y5 : wa.cell? ⟨bt, 5, none⟩ = some (.slice VA vn vc) := HGt.out.cell 5
        have y6 : wa.cell? ⟨bt, 6, none⟩ = some (.int .u64 gt) := HGt.out.cell 6
        have R1 := hide (refNext_any k id A3 n c3 tg kk ef dr dim ok gn gm LA ln lc gi VA vn vc gt s wa)
        have P1 := hide (fun (W : World) (h : Blk W g 56 (tskC k id A2 n c2 tg kk ef dr dim s)) => next_any k id A2 n c2 tg kk ef dr dim ok gn gm LA ln lc gi VA vn vc gt s g W h)
        unfold gotC at R1 P1
        generalize TS.op s ok gn id = p at *
        generalize TS.next s ok gn = s2 at *
        generalize TS.on s ok = on at *
        obtain ⟨pk, pa, pid⟩ := p
        simp only [opV] at R1 P1
        go_upto_region 10 with (first
          | (refine wpList_load_row rfl 39 (.tmp 8) rfl g8 rfl 39 (rfC k id A3 n c3 tg kk ef dr dim s) (0, 0) _ HZa.out Try.underlying39 rfl infoT ?_)
          | (go_at_call 8; refine R1.out.mono ?_; rintro e wb ⟨rfl, hb⟩; have HTb := hide (HTa.out.below hb HTa.out.lt); have HZb := hide (HZa.out.below hb HZa.out.lt); have HEb := hide (HEa.out.step hb); have HGb := hide (HGt.out.below hb HGt.out.lt); have hsb := hb.size; clear hb y0 y1 y2 y3 y4 y5 y6)
          | (refine wpList_store_row rfl 39 (.tmp 11) (.tmp 42) rfl wb.heap.size rfl 39 _ (rfC k id A3 n c3 tg kk ef dr dim s2) rfl ((Blk.new wb 39 #[.int .i64 0, .int .u64 0, .slice none 0 0, .int .u64 0, .int .i64 0, .int .i64 0, .int .u64 0, .int .i64 0, .int .i64 0, .int .i64 0, .int .i64 0, .int .i64 0, .int .i64 0, .int .u64 0, .slice none 0 0, .int .u64 0, .int .i64 0, .int .i64 0, .int .u64 0, .int .i64 0, .int .u64 0, .slice none 0 0, .int .u64 0, .slice none 0 0, .int .i64 0, .int .i64 0, .slice none 0 0, .int .i64 0]).alloc _) infoT rfl (refC_one ..) ?_)
          | (refine wpList_store_row rfl 44 (.tmp 12) (.tmp 43) rfl (wb.heap.size + 1) rfl 44 _ (opC pk pa pid) rfl ((Blk.new_at (by simp) 44 #[.int .i64 0, .int .i64 0, .int .i64 0, .int .i64 0, .int .i64 0, .int .u64 0, .slice none 0 0, .int .u64 0, .slice none 0 0, .int .u64 0]).setRow_far (by omega) _) infoOp rfl (opC_one ..) ?_))
        have hww : w.heap.size ≤ wb.heap.size := HEb.out.1.size
        have HTd := hide (show Blk ((((wb.alloc (.cells #[.int .i64 0, .int .u64 0, .slice none 0 0, .int .u64 0, .int .i64 0, .int .i64 0, .int .u64 0, .int .i64 0, .int .i64 0, .int .i64 0, .int .i64 0, .int .i64 0, .int .i64 0, .int .u64 0, .slice none 0 0, .int .u64 0, .int .i64 0, .int .i64 0, .int .u64 0, .int .i64 0, .int .u64 0, .slice none 0 0, .int .u64 0, .slice none 0 0, .int .i64 0, .int .i64 0, .slice none 0 0, .int .i64 0] 39)).alloc (.cells #[.int .i64 0, .int .i64 0, .int .i64 0, .int .i64 0, .int .i64 0, .int .u64 0, .slice none 0 0, .int .u64 0, .slice none 0 0, .int .u64 0] 44)).setRow wb.heap.size (rfC k id A3 n c3 tg kk ef dr dim s2)).setRow (wb.heap.size + 1) (opC pk pa pid)) g 56 (tskC k id A2 n c2 tg kk ef dr dim s) from (((HTb.out.alloc _).alloc _).setRow_far (by omega) _).setRow_far (by omega) _)
        have HZd := hide (show Blk ((((wb.alloc (.cells #[.int .i64 0, .int .u64 0, .slice none 0 0, .int .u64 0, .int .i64 0, .int .i64 0, .int .u64 0, .int .i64 0, .int .i64 0, .int .i64 0, .int .i64 0, .int .i64 0, .int .i64 0, .int .u64 0, .slice none 0 0, .int .u64 0, .int .i64 0, .int .i64 0, .int .u64 0, .int .i64 0, .int .u64 0, .slice none 0 0, .int .u64 0, .slice none 0 0, .int .i64 0, .int .i64 0, .slice none 0 0, .int .i64 0] 39)).alloc (.cells #[.int .i64 0, .int .i64 0, .int .i64 0, .int .i64 0, .int .i64 0, .int .u64 0, .slice none 0 0, .int .u64 0, .slice none 0 0, .int .u64 0] 44)).setRow wb.heap.size (rfC k id A3 n c3 tg kk ef dr dim s2)).setRow (wb.heap.size + 1) (opC pk pa pid)) g8 39 (rfC k id A3 n c3 tg kk ef dr dim s) from (((HZb.out.alloc _).alloc _).setRow_far (by omega) _).setRow_far (by omega) _)
        have HGd := hide (show Blk ((((wb.alloc (.cells #[.int .i64 0, .int .u64 0, .slice none 0 0, .int .u64 0, .int .i64 0, .int .i64 0, .int .u64 0, .int .i64 0, .int .i64 0, .int .i64 0, .int .i64 0, .int .i64 0, .int .i64 0, .int .u64 0, .slice none 0 0, .int .u64 0, .int .i64 0, .int .i64 0, .int .u64 0, .int .i64 0, .int .u64 0, .slice none 0 0, .int .u64 0, .slice none 0 0, .int .i64 0, .int .i64 0, .slice none 0 0, .int .i64 0] 39)).alloc (.cells #[.int .i64 0, .int .i64 0, .int .i64 0, .int .i64 0, .int .i64 0, .int .u64 0, .slice none 0 0, .int .u64 0, .slice none 0 0, .int .u64 0] 44)).setRow wb.heap.size (rfC k id A3 n c3 tg kk ef dr dim s2)).setRow (wb.heap.size + 1) (opC pk pa pid)) bt 42 #[.bool ok, .int .i64 gn, .int .i64 gm, .slice LA ln lc, .int .u64 gi, .slice VA vn vc, .int .u64 gt] from (((HGb.out.alloc _).alloc _).setRow_far (by omega) _).setRow_far (by omega) _)
        have HEd := hide (show EK w g g8 N A2 A3 (some ad) xs gl ((((wb.alloc (.cells #[.int .i64 0, .int .u64 0, .slice none 0 0, .int .u64 0, .int .i64 0, .int .i64 0, .int .u64 0, .int .i64 0, .int .i64 0, .int .i64 0, .int .i64 0, .int .i64 0, .int .i64 0, .int .u64 0, .slice none 0 0, .int .u64 0, .int .i64 0, .int .i64 0, .int .u64 0, .int .i64 0, .int .u64 0, .slice none 0 0, .int .u64 0, .slice none 0 0, .int .i64 0, .int .i64 0, .slice none 0 0, .int .i64 0] 39)).alloc (.cells #[.int .i64 0, .int .i64 0, .int .i64 0, .int .i64 0, .int .i64 0, .int .u64 0, .slice none 0 0, .int .u64 0, .slice none 0 0, .int .u64 0] 44)).setRow wb.heap.size (rfC k id A3 n c3 tg kk ef dr dim s2)).setRow (wb.heap.size + 1) (opC pk pa pid)) from ((HEb.out.step (below2 wb (.cells #[.int .i64 0, .int .u64 0, .slice none 0 0, .int .u64 0, .int .i64 0, .int .i64 0, .int .u64 0, .int .i64 0, .int .i64 0, .int .i64 0, .int .i64 0, .int .i64 0, .int .i64 0, .int .u64 0, .slice none 0 0, .int .u64 0, .int .i64 0, .int .i64 0, .int .u64 0, .int .i64 0, .int .u64 0, .slice none 0 0, .int .u64 0, .slice none 0 0, .int .i64 0, .int .i64 0, .slice none 0 0, .int .i64 0] 39) (.cells #[.int .i64 0, .int .i64 0, .int .i64 0, .int .i64 0, .int .i64 0, .int .u64 0, .slice none 0 0, .int .u64 0, .slice none 0 0, .int .u64 0] 44))).setNew (by omega) (by omega) _).setNew (by omega) (by omega) _)
        have H11 := hide (show Blk ((((wb.alloc (.cells #[.int .i64 0, .int .u64 0, .slice none 0 0, .int .u64 0, .int .i64 0, .int .i64 0, .int .u64 0, .int .i64 0, .int .i64 0, .int .i64 0, .int .i64 0, .int .i64 0, .int .i64 0, .int .u64 0, .slice none 0 0, .int .u64 0, .int .i64 0, .int .i64 0, .int .u64 0, .int .i64 0, .int .u64 0, .slice none 0 0, .int .u64 0, .slice none 0 0, .int .i64 0, .int .i64 0, .slice none 0 0, .int .i64 0] 39)).alloc (.cells #[.int .i64 0, .int .i64 0, .int .i64 0, .int .i64 0, .int .i64 0, .int .u64 0, .slice none 0 0, .int .u64 0, .slice none 0 0, .int .u64 0] 44)).setRow wb.heap.size (rfC k id A3 n c3 tg kk ef dr dim s2)).setRow (wb.heap.size + 1) (opC pk pa pid)) wb.heap.size 39 (rfC k id A3 n c3 tg kk ef dr dim s2) from (((Blk.new wb 39 #[.int .i64 0, .int .u64 0, .slice none 0 0, .int .u64 0, .int .i64 0, .int .i64 0, .int .u64 0, .int .i64 0, .int .i64 0, .int .i64 0, .int .i64 0, .int .i64 0, .int .i64 0, .int .u64 0, .slice none 0 0, .int .u64 0, .int .i64 0, .int .i64 0, .int .u64 0, .int .i64 0, .int .u64 0, .slice none 0 0, .int .u64 0, .slice none 0 0, .int .i64 0, .int .i64 0, .slice none 0 0, .int .i64 0]).alloc (.cells #[.int .i64 0, .int .i64 0, .int .i64 0, .int .i64 0, .int .i64 0, .int .u64 0, .slice none 0 0, .int .u64 0, .slice none 0 0, .int .u64 0] 44)).setRow _).setRow_far (by omega) _)
        have H12 := hide (show Blk ((((wb.alloc (.cells #[.int .i64 0, .int .u64 0, .slice none 0 0, .int .u64 0, .int .i64 0, .int .i64 0, .int .u64 0, .int .i64 0, .int .i64 0, .int .i64 0, .int .i64 0, .int .i64 0, .int .i64 0, .int .u64 0, .slice none 0 0, .int .u64 0, .int .i64 0, .int .i64 0, .int .u64 0, .int .i64 0, .int .u64 0, .slice none 0 0, .int .u64 0, .slice none 0 0, .int .i64 0, .int .i64 0, .slice none 0 0, .int .i64 0] 39)).alloc (.cells #[.int .i64 0, .int .i64 0, .int .i64 0, .int .i64 0, .int .i64 0, .int .u64 0, .slice none 0 0, .int .u64 0, .slice none 0 0, .int .u64 0] 44)).setRow wb.heap.size (rfC k id A3 n c3 tg kk ef dr dim s2)).setRow (wb.heap.size + 1) (opC pk pa pid)) (wb.heap.size + 1) 44 (opC pk pa pid) from ((Blk.new_at (w := wb.alloc (.cells #[.int .i64 0, .int .u64 0, .slice none 0 0, .int .u64 0, .int .i64 0, .int .i64 0, .int .u64 0, .int .i64 0, .int .i64 0, .int .i64 0, .int .i64 0, .int .i64 0, .int .i64 0, .int .u64 0, .slice none 0 0, .int .u64 0, .int .i64 0, .int .i64 0, .int .u64 0, .int .i64 0, .int .u64 0, .slice none 0 0, .int .u64 0, .slice none 0 0, .int .i64 0, .int .i64 0, .slice none 0 0, .int .i64 0] 39)) (by simp) 44 #[.int .i64 0, .int .i64 0, .int .i64 0, .int .i64 0, .int .i64 0, .int .u64 0, .slice none 0 0, .int .u64 0, .slice none 0 0, .int .u64 0]).setRow_far (by omega) _).setRow _)
        generalize ((((wb.alloc (.cells #[.int .i64 0, .int .u64 0, .slice none 0 0, .int .u64 0, .int .i64 0, .int .i64 0, .int .u64 0, .int .i64 0, .int .i64 0, .int .i64 0, .int .i64 0, .int .i64 0, .int .i64 0, .int .u64 0, .slice none 0 0, .int .u64 0, .int .i64 0, .int .i64 0, .int .u64 0, .int .i64 0, .int .u64 0, .slice none 0 0, .int .u64 0, .slice none 0 0, .int .i64 0, .int .i64 0, .slice none 0 0, .int .i64 0] 39)).alloc (.cells #[.int .i64 0, .int .i64 0, .int .i64 0, .int .i64 0, .int .i64 0, .int .u64 0, .slice none 0 0, .int .u64 0, .slice none 0 0, .int .u64 0] 44)).setRow wb.heap.size (rfC k id A3 n c3 tg kk ef dr dim s2)).setRow (wb.heap.size + 1) (opC pk pa pid)) = wd at *
        clear HTb HZb HEb HGb HTa HZa HEa HGt R1
        go_upto_region 11 with (first
          | (refine wpList_load_row rfl 39 (.tmp 11) rfl wb.heap.size rfl 39 (rfC k id A3 n c3 tg kk ef dr dim s2) (0, 0) _ H11.out Try.underlying39 rfl infoT ?_)
          | (refine wpList_store_row rfl 39 (.tmp 8) (.tmp 45) rfl g8 rfl 39 _ (rfC k id A3 n c3 tg kk ef dr dim s2) rfl HZd.out infoT rfl (refC_one ..) ?_))
        have HTe := hide (show Blk (wd.setRow g8 (rfC k id A3 n c3 tg kk ef dr dim s2)) g 56 (tskC k id A2 n c2 tg kk ef dr dim s) from HTd.out.setRow_far hne _)
        have HZe := hide (show Blk (wd.setRow g8 (rfC k id A3 n c3 tg kk ef dr dim s2)) g8 39 (rfC k id A3 n c3 tg kk ef dr dim s2) from HZd.out.setRow _)
        have HGe := hide (show Blk (wd.setRow g8 (rfC k id A3 n c3 tg kk ef dr dim s2)) bt 42 #[.bool ok, .int .i64 gn, .int .i64 gm, .slice LA ln lc, .int .u64 gi, .slice VA vn vc, .int .u64 gt] from HGd.out.setRow_far (by omega) _)
        have HEe := hide (show EK w g g8 N A2 A3 (some ad) xs gl (wd.setRow g8 (rfC k id A3 n c3 tg kk ef dr dim s2)) from HEd.out.setRow hg8 _)
        have H12e := hide (show Blk (wd.setRow g8 (rfC k id A3 n c3 tg kk ef dr dim s2)) (wb.heap.size + 1) 44 (opC pk pa pid) from H12.out.setRow_far (by omega) _)
        generalize wd.setRow g8 (rfC k id A3 n c3 tg kk ef dr dim s2) = we at *
        clear HTd HZd HGd HEd H11 H12
        have hb12 : g < wb.heap.size + 1 := by omega
        have hb128 : g8 < wb.heap.size + 1 := by omega
        generalize wb.heap.size + 1 = b12 at *
        have y0 : we.cell? ⟨bt, 0, none⟩ = some (.bool ok) := HGe.out.cell 0
        have y1 : we.cell? ⟨bt, 1, none⟩ = some (.int .i64 gn) := HGe.out.cell 1
        have y2 : we.cell? ⟨bt, 2, none⟩ = some (.int .i64 gm) := HGe.out.cell 2
        have y3 : we.cell? ⟨bt, 3, none⟩ = some (.slice LA ln lc) := HGe.out.cell 3
        have y4 : we.cell? ⟨bt, 4, none⟩ = some (.int .u64 gi) := HGe.out.cell 4
        have y5 : we.cell? ⟨bt, 5, none⟩ = some (.slice VA vn vc) := HGe.out.cell 5
        have y6 : we.cell? ⟨bt, 6, none⟩ = some (.int .u64 gt) := HGe.out.cell 6
        go_upto_region 12 with (first
          | (go_at_call 9; refine (P1.out _ HTe.out).mono ?_; rintro e wf ⟨rfl, hT, hb⟩; have HTf := hide hT; have HZf := hide (HZe.out.grown hb (by simp; omega)); have HEf := hide (HEe.out.grown hb hg); have H12f := hide (H12e.out.grown hb (by simp; omega)); clear hb hT y0 y1 y2 y3 y4 y5 y6)
          | (refine wpList_store_row rfl 44 (.tmp 14) (.tmp 50) rfl wf.heap.size rfl 44 _ (opC pk pa pid) rfl (Blk.new wf 44 #[.int .i64 0, .int .i64 0, .int .i64 0, .int .i64 0, .int .i64 0, .int .u64 0, .slice none 0 0, .int .u64 0, .slice none 0 0, .int .u64 0]) infoOp rfl (opC_one ..) ?_))
        have hlf := HTf.out.lt
        have hlf8 := HZf.out.lt
        have hl12 := H12f.out.lt
        have hwf := HEf.out.1.size
        have hNf := HEf.out.2.1
        have HRS := hide (show RS w g g8 N k id A2 n c2 tg kk ef dr dim A3 c3 (some ad) xs gl s2 wf.heap.size b12 pk pa pid ((wf.alloc (.cells #[.int .i64 0, .int .i64 0, .int .i64 0, .int .i64 0, .int .i64 0, .int .u64 0, .slice none 0 0, .int .u64 0, .slice none 0 0, .int .u64 0] 44)).setRow wf.heap.size (opC pk pa pid)) from ⟨(Blk.new wf 44 #[.int .i64 0, .int .i64 0, .int .i64 0, .int .i64 0, .int .i64 0, .int .u64 0, .slice none 0 0, .int .u64 0, .slice none 0 0, .int .u64 0]).setRow _, (H12f.out.alloc _).setRow_far (by omega) _, (HTf.out.alloc _).setRow_far (by omega) _, (HZf.out.alloc _).setRow_far (by omega) _, (HEf.out.step (below1 wf (.cells #[.int .i64 0, .int .i64 0, .int .i64 0, .int .i64 0, .int .i64 0, .int .u64 0, .slice none 0 0, .int .u64 0, .slice none 0 0, .int .u64 0] 44))).setNew (by omega) (by omega) _⟩)
        generalize ((wf.alloc (.cells #[.int .i64 0, .int .i64 0, .int .i64 0, .int .i64 0, .int .i64 0, .int .u64 0, .slice none 0 0, .int .u64 0, .slice none 0 0, .int .u64 0] 44)).setRow wf.heap.size (opC pk pa pid)) = wg at *
        clear HTf HZf HEf H12f HTe HZe HGe HEe H12e P1 hlf hlf8 hl12 hwf hNf
        generalize wf.heap.size = b14 at *
        refine wp_region_held_drew (S := fun W => RS w g g8 N k id A2 n c2 tg kk ef dr dim A3 c3 (some ad) xs gl s2 b14 b12 pk pa pid W) (by kernel_rfl) (HRS.out.step (below_drewN (Below.refl _ _) 1)) (fun hHeld => ?_)
        clear HRS
        refine wpAnyH_take (i := 0) (v := .agg (opC pk pa pid)) rfl (by kernel_rfl) (by kernel_rfl) (by kernel_rfl) (fun _ _ _ h => h) (yieldsIf_load_row (by rfl) 44 _ rfl b14 rfl 44 _ (0, 0) _ (fun _ h => h.1) Try.underlying44 rfl infoOp) hHeld ?_
        try simp only [Act.put, List.setIfInBounds_toArray, List.set_cons_zero, List.set_cons_succ, List.getElem_toArray, List.getElem_cons_zero, List.getElem_cons_succ]
        refine wpAnyH_take (i := 1) (v := .agg (opC pk pa pid)) rfl (by kernel_rfl) (by kernel_rfl) (by kernel_rfl) (fun _ _ _ h => h) (yieldsIf_load_row (by rfl) 44 _ rfl b12 rfl 44 _ (0, 0) _ (fun _ h => h.2.1) Try.underlying44 rfl infoOp) hHeld ?_
        try simp only [Act.put, List.setIfInBounds_toArray, List.set_cons_zero, List.set_cons_succ, List.getElem_toArray, List.getElem_cons_zero, List.getElem_cons_succ]
        refine wpAnyH_ready (rs := [2]) (by kernel_rfl) (by simp) ?_
        refine AllReadyH.cons rfl (fun K hK => ?_) AllReadyH.nil
        try simp only [Act.put, List.setIfInBounds_toArray, List.set_cons_zero, List.set_cons_succ, List.getElem_toArray, List.getElem_cons_zero, List.getElem_cons_succ]
        go_simp
        go_at_call 10
        refine (sameOp_any pk pa pid _).mono ?_
        rintro e wh1 ⟨rfl, hb⟩
        refine hK.out _ _ (hHeld.step hb) (fun hHeld2 => ?_)
        clear hK K hHeld
        have hHeld := hHeld2
        clear hHeld2
        try simp only [Act.put, List.setIfInBounds_toArray, List.set_cons_zero, List.set_cons_succ, List.getElem_toArray, List.getElem_cons_zero, List.getElem_cons_succ]
        refine wpAnyH_take (i := 3) (v := .bool false) rfl (by kernel_rfl) (by kernel_rfl) (by kernel_rfl) (fun _ _ _ h => h) (Or.inl ⟨by rfl, fun W hS => by clear hS hHeld; go_simp⟩) hHeld ?_
        try simp only [Act.put, List.setIfInBounds_toArray, List.set_cons_zero, List.set_cons_succ, List.getElem_toArray, List.getElem_cons_zero, List.getElem_cons_succ]
        refine wpAnyH_take (i := 4) (v := .bool false) rfl (by kernel_rfl) (by kernel_rfl) (by kernel_rfl) (fun _ _ _ h => h) (Or.inl ⟨by rfl, fun W hS => by clear hS hHeld; go_simp⟩) hHeld ?_
        try simp only [Act.put, List.setIfInBounds_toArray, List.set_cons_zero, List.set_cons_succ, List.getElem_toArray, List.getElem_cons_zero, List.getElem_cons_succ]
        refine wpAnyH_take (i := 5) (v := .bool on) rfl (by kernel_rfl) (by kernel_rfl) (by kernel_rfl) (fun _ _ _ h => h) (Or.inl ⟨by rfl, fun W hS => by clear hS hHeld; go_simp⟩) hHeld ?_
        try simp only [Act.put, List.setIfInBounds_toArray, List.set_cons_zero, List.set_cons_succ, List.getElem_toArray, List.getElem_cons_zero, List.getElem_cons_succ]
        refine wpAnyH_take (i := 6) (v := .bool on) rfl (by kernel_rfl) (by kernel_rfl) (by kernel_rfl) (fun _ _ _ h => h) (Or.inl ⟨by rfl, fun W hS => by clear hS hHeld; go_simp⟩) hHeld ?_
        try simp only [Act.put, List.setIfInBounds_toArray, List.set_cons_zero, List.set_cons_succ, List.getElem_toArray, List.getElem_cons_zero, List.getElem_cons_succ]
        refine wpAnyH_take (i := 7) (v := .bool false) rfl (by kernel_rfl) (by kernel_rfl) (by kernel_rfl) (fun _ _ _ h => h) (Or.inl ⟨by rfl, fun W hS => by have e : (on != on) = false := (by simp); clear hS hHeld; go_simp⟩) hHeld ?_
        try simp only [Act.put, List.setIfInBounds_toArray, List.set_cons_zero, List.set_cons_succ, List.getElem_toArray, List.getElem_cons_zero, List.getElem_cons_succ]
        refine wpAnyH_take (i := 8) (v := .bool false) rfl (by kernel_rfl) (by kernel_rfl) (by kernel_rfl) (fun _ _ _ h => h) (Or.inl ⟨by rfl, fun W hS => by clear hS hHeld; go_simp⟩) hHeld ?_
        try simp only [Act.put, List.setIfInBounds_toArray, List.set_cons_zero, List.set_cons_succ, List.getElem_toArray, List.getElem_cons_zero, List.getElem_cons_succ]
        refine wpAnyH_take (i := 9) (v := .bool false) rfl (by kernel_rfl) (by kernel_rfl) (by kernel_rfl) (fun _ _ _ h => h) (Or.inl ⟨by rfl, fun W hS => by clear hS hHeld; go_simp⟩) hHeld ?_
        try simp only [Act.put, List.setIfInBounds_toArray, List.set_cons_zero, List.set_cons_succ, List.getElem_toArray, List.getElem_cons_zero, List.getElem_cons_succ]
        refine wpAnyH_take (i := 10) (v := .pointer (some ⟨g, 0, none⟩)) rfl (by kernel_rfl) (by kernel_rfl) (by kernel_rfl) (fun _ _ _ h => h) (Or.inl ⟨by rfl, fun W hS => by clear hS hHeld; go_simp⟩) hHeld ?_
        try simp only [Act.put, List.setIfInBounds_toArray, List.set_cons_zero, List.set_cons_succ, List.getElem_toArray, List.getElem_cons_zero, List.getElem_cons_succ]
        refine wpAnyH_take (i := 12) (v := .pointer (some ⟨g8, 10, none⟩)) rfl (by kernel_rfl) (by kernel_rfl) (by kernel_rfl) (fun _ _ _ h => h) (Or.inl ⟨by rfl, fun W hS => by clear hS hHeld; go_simp⟩) hHeld ?_
        try simp only [Act.put, List.setIfInBounds_toArray, List.set_cons_zero, List.set_cons_succ, List.getElem_toArray, List.getElem_cons_zero, List.getElem_cons_succ]
        refine wpAnyH_take (i := 13) (v := .int .i64 s2.marks) rfl (by kernel_rfl) (by kernel_rfl) (by kernel_rfl) (fun _ _ _ h => h) (Or.inl ⟨by rfl, fun W hS => by have hc : W.cell? ⟨g8, 10, none⟩ = some (.int .i64 s2.marks) := hS.2.2.2.1.cell 10; clear hS hHeld; go_simp⟩) hHeld ?_
        try simp only [Act.put, List.setIfInBounds_toArray, List.set_cons_zero, List.set_cons_succ, List.getElem_toArray, List.getElem_cons_zero, List.getElem_cons_succ]
        refine wpAnyH_ready (rs := [11]) (by kernel_rfl) (by simp) ?_
        refine AllReadyH.cons rfl (fun K hK => ?_) AllReadyH.nil
        try simp only [Act.put, List.setIfInBounds_toArray, List.set_cons_zero, List.set_cons_succ, List.getElem_toArray, List.getElem_cons_zero, List.getElem_cons_succ]
        go_simp
        go_at_call 11
        refine (marks_any k id A2 n c2 tg kk ef dr dim s2.slot s2.steps s2.marks s2.err g _ hHeld.2.2.1).mono ?_
        rintro e wh2 ⟨rfl, rfl⟩
        refine hK.out _ _ hHeld (fun hHeld2 => ?_)
        clear hK K hHeld
        have hHeld := hHeld2
        clear hHeld2
        try simp only [Act.put, List.setIfInBounds_toArray, List.set_cons_zero, List.set_cons_succ, List.getElem_toArray, List.getElem_cons_zero, List.getElem_cons_succ]
        refine wpAnyH_take (i := 14) (v := .bool false) rfl (by kernel_rfl) (by kernel_rfl) (by kernel_rfl) (fun _ _ _ h => h) (Or.inl ⟨by rfl, fun W hS => by have e : (s2.marks != s2.marks) = false := (by simp); clear hS hHeld; go_simp⟩) hHeld ?_
        try simp only [Act.put, List.setIfInBounds_toArray, List.set_cons_zero, List.set_cons_succ, List.getElem_toArray, List.getElem_cons_zero, List.getElem_cons_succ]
        refine wpAnyH_take (i := 15) (v := .bool false) rfl (by kernel_rfl) (by kernel_rfl) (by kernel_rfl) (fun _ _ _ h => h) (Or.inl ⟨by rfl, fun W hS => by clear hS hHeld; go_simp⟩) hHeld ?_
        try simp only [Act.put, List.setIfInBounds_toArray, List.set_cons_zero, List.set_cons_succ, List.getElem_toArray, List.getElem_cons_zero, List.getElem_cons_succ]
        refine wpAnyH_take (i := 16) (v := .bool false) rfl (by kernel_rfl) (by kernel_rfl) (by kernel_rfl) (fun _ _ _ h => h) (Or.inl ⟨by rfl, fun W hS => by clear hS hHeld; go_simp⟩) hHeld ?_
        try simp only [Act.put, List.setIfInBounds_toArray, List.set_cons_zero, List.set_cons_succ, List.getElem_toArray, List.getElem_cons_zero, List.getElem_cons_succ]
        refine wpAnyH_take (i := 17) (v := .pointer (some ⟨g, 0, none⟩)) rfl (by kernel_rfl) (by kernel_rfl) (by kernel_rfl) (fun _ _ _ h => h) (Or.inl ⟨by rfl, fun W hS => by clear hS hHeld; go_simp⟩) hHeld ?_
        try simp only [Act.put, List.setIfInBounds_toArray, List.set_cons_zero, List.set_cons_succ, List.getElem_toArray, List.getElem_cons_zero, List.getElem_cons_succ]
        refine wpAnyH_take (i := 19) (v := .pointer (some ⟨g8, 11, none⟩)) rfl (by kernel_rfl) (by kernel_rfl) (by kernel_rfl) (fun _ _ _ h => h) (Or.inl ⟨by rfl, fun W hS => by clear hS hHeld; go_simp⟩) hHeld ?_
        try simp only [Act.put, List.setIfInBounds_toArray, List.set_cons_zero, List.set_cons_succ, List.getElem_toArray, List.getElem_cons_zero, List.getElem_cons_succ]
        refine wpAnyH_take (i := 20) (v := .agg #[.int .i64 0, .int .i64 k, .int .u64 id, .slice A3 n c3, .int .u64 tg, .int .i64 kk, .int .i64 ef, .int .u64 dr, .int .i64 s2.err, .int .u64 0, .slice none 0 0, .int .u64 0, .slice none 0 0, .int .i64 0, .int .i64 0, .slice none 0 0, .int .i64 0]) rfl (by kernel_rfl) (by kernel_rfl) (by kernel_rfl) (fun _ _ _ h => h) (Or.inl ⟨by rfl, fun W hS => by have c0 : W.cell? ⟨g8, 11, none⟩ = some (.int .i64 0) := hS.2.2.2.1.cell 11; have c1 : W.cell? ⟨g8, 12, none⟩ = some (.int .i64 k) := hS.2.2.2.1.cell 12; have c2 : W.cell? ⟨g8, 13, none⟩ = some (.int .u64 id) := hS.2.2.2.1.cell 13; have c3 : W.cell? ⟨g8, 14, none⟩ = some (.slice A3 n c3) := hS.2.2.2.1.cell 14; have c4 : W.cell? ⟨g8, 15, none⟩ = some (.int .u64 tg) := hS.2.2.2.1.cell 15; have c5 : W.cell? ⟨g8, 16, none⟩ = some (.int .i64 kk) := hS.2.2.2.1.cell 16; have c6 : W.cell? ⟨g8, 17, none⟩ = some (.int .i64 ef) := hS.2.2.2.1.cell 17; have c7 : W.cell? ⟨g8, 18, none⟩ = some (.int .u64 dr) := hS.2.2.2.1.cell 18; have c8 : W.cell? ⟨g8, 19, none⟩ = some (.int .i64 s2.err) := hS.2.2.2.1.cell 19; have c9 : W.cell? ⟨g8, 20, none⟩ = some (.int .u64 0) := hS.2.2.2.1.cell 20; have c10 : W.cell? ⟨g8, 21, none⟩ = some (.slice none 0 0) := hS.2.2.2.1.cell 21; have c11 : W.cell? ⟨g8, 22, none⟩ = some (.int .u64 0) := hS.2.2.2.1.cell 22; have c12 : W.cell? ⟨g8, 23, none⟩ = some (.slice none 0 0) := hS.2.2.2.1.cell 23; have c13 : W.cell? ⟨g8, 24, none⟩ = some (.int .i64 0) := hS.2.2.2.1.cell 24; have c14 : W.cell? ⟨g8, 25, none⟩ = some (.int .i64 0) := hS.2.2.2.1.cell 25; have c15 : W.cell? ⟨g8, 26, none⟩ = some (.slice none 0 0) := hS.2.2.2.1.cell 26; have c16 : W.cell? ⟨g8, 27, none⟩ = some (.int .i64 0) := hS.2.2.2.1.cell 27; clear hS hHeld; go_simp⟩) hHeld ?_
        try simp only [Act.put, List.setIfInBounds_toArray, List.set_cons_zero, List.set_cons_succ, List.getElem_toArray, List.getElem_cons_zero, List.getElem_cons_succ]
        refine wpAnyH_ready (rs := [18]) (by kernel_rfl) (by simp) ?_
        refine AllReadyH.cons rfl (fun K hK => ?_) AllReadyH.nil
        try simp only [Act.put, List.setIfInBounds_toArray, List.set_cons_zero, List.set_cons_succ, List.getElem_toArray, List.getElem_cons_zero, List.getElem_cons_succ]
        go_simp
        go_at_call 13
        refine (told_any k id A2 n c2 tg kk ef dr dim s2.slot s2.steps s2.marks s2.err g _ hHeld.2.2.1).mono ?_
        rintro e wh3 ⟨rfl, hb⟩
        refine hK.out _ _ (hHeld.step hb) (fun hHeld2 => ?_)
        clear hK K hHeld
        have hHeld := hHeld2
        clear hHeld2
        try simp only [Act.put, List.setIfInBounds_toArray, List.set_cons_zero, List.set_cons_succ, List.getElem_toArray, List.getElem_cons_zero, List.getElem_cons_succ]
        refine wpAnyH_ready (rs := [21]) (by kernel_rfl) (by simp) ?_
        refine AllReadyH.cons rfl (fun K hK => ?_) AllReadyH.nil
        try simp only [Act.put, List.setIfInBounds_toArray, List.set_cons_zero, List.set_cons_succ, List.getElem_toArray, List.getElem_cons_zero, List.getElem_cons_succ]
        go_simp
        go_at_call 12
        refine (sameTold_any k id A2 A3 n c2 n c3 tg kk ef dr s2.err xs _ hHeld.2.2.2.2.rd2 Hn.out hq2.1 hq2.2 hHeld.2.2.2.2.rd3 Hn.out hq3.1 hq3.2).mono ?_
        rintro e wh4 ⟨rfl, hb⟩
        refine hK.out _ _ (hHeld.step hb) (fun hHeld2 => ?_)
        clear hK K hHeld
        have hHeld := hHeld2
        clear hHeld2
        try simp only [Act.put, List.setIfInBounds_toArray, List.set_cons_zero, List.set_cons_succ, List.getElem_toArray, List.getElem_cons_zero, List.getElem_cons_succ]
        refine wpAnyH_take (i := 22) (v := .bool false) rfl (by kernel_rfl) (by kernel_rfl) (by kernel_rfl) (fun _ _ _ h => h) (Or.inl ⟨by rfl, fun W hS => by clear hS hHeld; go_simp⟩) hHeld ?_
        try simp only [Act.put, List.setIfInBounds_toArray, List.set_cons_zero, List.set_cons_succ, List.getElem_toArray, List.getElem_cons_zero, List.getElem_cons_succ]
        refine wpAnyH_take (i := 23) (v := .bool false) rfl (by kernel_rfl) (by kernel_rfl) (by kernel_rfl) (fun _ _ _ h => h) (Or.inl ⟨by rfl, fun W hS => by clear hS hHeld; go_simp⟩) hHeld ?_
        try simp only [Act.put, List.setIfInBounds_toArray, List.set_cons_zero, List.set_cons_succ, List.getElem_toArray, List.getElem_cons_zero, List.getElem_cons_succ]
        refine wpAnyH_done (by kernel_rfl) ?_ _
        have hnl9 := HNL.out
        go_wp2
        go_roundw
        case rel => exact ⟨j + 1, s2, by omega, by go_num, hide hHeld.2.2.1, hide hHeld.2.2.2.1, hide hHeld.2.2.2.2⟩
        case measure => simp [intOf]; omega
      · obtain rfl : j = nL := by omega
        go_wp2_with (go_at_call 5; refine (lives_any _).mono ?_; rintro e w3 ⟨rfl, hb⟩; have HB3 := hide (HE.out.1.trans (hb.mono HE.out.1.size)); clear hb)
        go_ret
        exact ⟨rfl, HB3.out⟩
end Go.Proofs.Ytojanklgjdjniab
