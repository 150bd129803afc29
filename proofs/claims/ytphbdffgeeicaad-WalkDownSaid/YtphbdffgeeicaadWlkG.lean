/-
  The package walk: Level, Down. Conditions: a plane and a vector lie as said.
-/
import Derived.Test.YtphbdffgeeicaadWlkF
namespace Go.Proofs.Ytphbdffgeeicaad
set_option linter.unusedSimpArgs false
set_option linter.unusedVariables false
open Go.RowKit

/-- the slots that are come by: each where a step leads, the last leads on to none -/
structure WayS (ns : List NodeP) (q : List Int) (level slot : Int) (p : List Int) : Prop where
  p0 : p[0]? = some slot
  st : ∀ (i : Nat) (a b : Int), p[i]? = some a → p[i + 1]? = some b → b = stepF ns q a level ∧ b ≠ a
  en : ∀ a, p[p.length - 1]? = some a → stepF ns q a level = a
theorem WayS.way {ns : List NodeP} {q : List Int} {level slot : Int} {p : List Int} (h : WayS ns q level slot p) : Way ns q level p := fun i a b ha hb => by
  obtain ⟨rfl, h2⟩ := h.st i a b ha hb
  exact step_on h2
theorem WayS.same {ns : List NodeP} {q : List Int} {level slot : Int} {p r : List Int} (h : WayS ns q level slot p) (k : WayS ns q level slot r) : p = r := by
  have hx : ∀ {p r : List Int}, WayS ns q level slot p → WayS ns q level slot r → ∀ (i : Nat) (a : Int), p[i]? = some a → r[i]? = some a := by
    intro p r h k i
    induction i with
    | zero => intro a ha; rw [h.p0] at ha; injection ha with ha; subst ha; exact k.p0
    | succ i ih =>
      intro b hb
      have hi := (List.getElem?_eq_some_iff.1 hb).1
      obtain ⟨a, ha⟩ : ∃ a, p[i]? = some a := ⟨_, List.getElem?_eq_getElem (by omega)⟩
      obtain ⟨rfl, hne⟩ := h.st i a b ha hb
      have hr := ih a ha
      cases e : r[i + 1]? with
      | some c => rw [(k.st i a c hr e).1]
      | none =>
        have h1 := (List.getElem?_eq_some_iff.1 hr).1
        have h2 := List.getElem?_eq_none_iff.1 e
        exact absurd (k.en a (by rw [show r.length - 1 = i by omega]; exact hr)) hne
  refine List.ext_getElem? fun i => ?_
  cases e : p[i]? with
  | some a => exact (hx h k i a e).symm
  | none =>
    cases e2 : r[i]? with
    | none => rfl
    | some b => rw [hx k h i b e2] at e; cases e
/-- while Level goes: what was come by ends with a -/
structure LvW (ns : List NodeP) (q : List Int) (level slot : Int) (p : List Int) (a : Int) : Prop where
  p0 : p[0]? = some slot
  st : ∀ (i : Nat) (a b : Int), p[i]? = some a → p[i + 1]? = some b → b = stepF ns q a level ∧ b ≠ a
  en : p[p.length - 1]? = some a
  pos : 0 < p.length
  sz : p.length + aheadN ns q a ≤ 1 + ns.length
theorem LvW.start (ns : List NodeP) (q : List Int) (level slot : Int) : LvW ns q level slot [slot] slot :=
  ⟨rfl, fun i a b _ h => by simp at h, rfl, by simp, by have := ahead_le ns q slot; simp; omega⟩
theorem LvW.next {ns : List NodeP} {q : List Int} {level slot a : Int} {p : List Int} (h : LvW ns q level slot p a) (hs : stepF ns q a level ≠ a) : LvW ns q level slot (p ++ [stepF ns q a level]) (stepF ns q a level) := by
  obtain ⟨h1, h2⟩ := step_on hs
  have h3 := ahead_lt (near_there h1) h2
  have hp := h.pos
  refine ⟨by rw [List.getElem?_append_left hp]; exact h.p0, fun i x y hx hy => ?_, by simp, by simp, by have := h.sz; rw [List.length_append]; simp; omega⟩
  by_cases hi : i + 1 < p.length
  · rw [List.getElem?_append_left (by omega)] at hx
    rw [List.getElem?_append_left hi] at hy
    exact h.st i x y hx hy
  · have hl := (List.getElem?_eq_some_iff.1 hy).1
    rw [List.length_append] at hl
    simp only [List.length_cons, List.length_nil] at hl
    have e : i = p.length - 1 := by omega
    rw [List.getElem?_append_left (by omega), e, h.en] at hx
    rw [show i + 1 = p.length by omega] at hy
    simp at hx hy
    subst hx hy
    exact ⟨rfl, hs⟩
theorem LvW.done {ns : List NodeP} {q : List Int} {level slot a : Int} {p : List Int} (h : LvW ns q level slot p a) (hs : stepF ns q a level = a) : WayS ns q level slot p :=
  ⟨h.p0, h.st, fun b hb => by rw [h.en] at hb; injection hb with hb; subst hb; exact hs⟩
def isN (v : Value) : Nat := match v with | .bool true => 1 | _ => 0
/-- what Level gives -/
def GivesLv (ns : List NodeP) (q : List Int) (level slot : Int) (w : World) (e : Ending) (w' : World) : Prop := ∃ (p : List Int) (A : Option Addr) (n c : Nat), e = .returned (.slice A n c) ∧ WayS ns q level slot p ∧ p.length = n ∧ n ≤ 1 + ns.length ∧ n ≤ c ∧ c ≤ 9223372036854775807 ∧ RdR (Sh.int .i64) w' (Btw w.heap.size w'.heap.size) A p ∧ Below w.heap.size w w'
section
variable {w : World} {N Aq : Option Addr} {nn cN nq cq : Nat} {ns : List NodeP} {en top : Int} {qs : List Int}
set_option maxHeartbeats 8000000 in
theorem level_any (h : PlW w N nn ns Aq nq cq qs) (slot level : Int) : Calls Try.prog 6 #[.agg #[.slice N nn cN, .int .i64 en, .int .i64 top], .slice Aq nq cq, .int .i64 slot, .int .i64 level] w (GivesLv ns qs level slot w) := by
  have hb1 := below1 w (.cells #[.slice N nn cN, .int .i64 en, .int .i64 top] 24)
  have HB1 := hide (Below.step hb1 (below1 (w.alloc (.cells #[.slice N nn cN, .int .i64 en, .int .i64 top] 24)) (.cells #[.int .i64 slot] 3)))
  have HP1 := hide ((Blk.new w 24 #[.slice N nn cN, .int .i64 en, .int .i64 top]).alloc (.cells #[.int .i64 slot] 3))
  have HO1 := hide (show ((w.alloc (.cells #[.slice N nn cN, .int .i64 en, .int .i64 top] 24)).alloc (.cells #[.int .i64 slot] 3)).ownsRow w.heap.size 3 1 (.slice (some ⟨w.heap.size + 1, 0, none⟩) 1 1) 1 (fcs encI [slot]) by
    have := World.ownsRow_lit (base := w.heap.size) (e := 3) (size := 1) (w.alloc (.cells #[.slice N nn cN, .int .i64 en, .int .i64 top] 24)) #[.int .i64 slot] 1 hb1.size (by decide) rfl
    simpa [fcsI] using this)
  have HPl := hide h
  have h20 : nn ≤ 20 := h.n20
  have Hn := hide h.len
  clear h hb1
  go_enter Try.func6, Try.ntmps6
  go_upto_region 2 with fail
  generalize World.alloc (World.alloc w _) _ = w1 at *
  generalize w.heap.size + 1 = g1 at *
  obtain ⟨b4, hb4⟩ : ∃ b, w.heap.size = b := ⟨_, rfl⟩
  rw [hb4] at HP1
  rw [hb4]
  have Hb4 := hide hb4
  clear hb4
  have p0 := HP1.out.cell 0
  have p1 := HP1.out.cell 1
  have p2 := HP1.out.cell 2
  simp at p0 p1 p2
  have CS := hide (fun (W : World) (hb : Below w.heap.size w W) (s : Int) => step_any (HPl.out.at_ hb) (cN := cN) (en := en) (top := top) s level)
  go_wp2_with (go_at_call 13; refine (CS.out _ HB1.out slot).mono ?_; rintro e w2 ⟨rfl, hb2⟩; have HB2 := hide (Below.step HB1.out hb2); have HP2 := hide (HP1.out.below hb2 HP1.out.lt); have HO2 := hide (own_keep HO1.out fun d hd => hb2.block d (HO1.out.lt d hd).2); clear hb2)
  clear HP1 HB1 HO1 p0 p1 p2
  go_loopw [9, 10, 11] (fun o nx is wr => ∃ (p : List Int) (a : Int) (n c : Nat) (A : Option Addr), o = .slice A n c ∧ nx = .int .i64 (stepF ns qs a level) ∧ is = .bool (stepF ns qs a level != a) ∧ n ≤ c ∧ c ≤ 9223372036854775807 ∧ n ≤ 1 + nn ∧ Hid (p.length = n ∧ LvW ns qs level slot p a) ∧ Hid (wr.ownsRow w.heap.size 3 1 (.slice A n c) n (fcs encI p)) ∧ Hid (Below w.heap.size w wr) ∧ Hid (Blk wr b4 24 #[.slice N nn cN, .int .i64 en, .int .i64 top])) (fun _ nx is _ => aheadN ns qs (intOf nx) + isN is)
  case atStart => exact ⟨[slot], slot, 1, 1, _, rfl, rfl, rfl, by omega, by omega, by omega, hide ⟨rfl, LvW.start _ _ _ _⟩, HO2, HB2, HP2⟩
  case round =>
    obtain ⟨p, a, n, c, A, rfl, rfl, rfl, hc1, hc2, hn1, HLv, HO, HB, HP⟩ := hrel
    clear HO2 HB2 HP2
    by_cases hs : stepF ns qs a level = a
    · have e0 : (stepF ns qs a level != a) = false := by simp [hs]
      have HG := hide (show GivesLv ns qs level slot w (.returned (.slice A n c)) wr from ⟨p, A, n, c, rfl, HLv.out.2.done hs, HLv.out.1, by rw [Hn.out]; exact hn1, hc1, hc2, flatI.own HO.out, HB.out⟩)
      clear hs
      go_wp2
      go_ret
      exact HG.out
    · have e0 : (stepF ns qs a level != a) = true := by simp [hs]
      have HNx := hide (HLv.out.2.next hs)
      have HMs := hide (show aheadN ns qs (stepF ns qs (stepF ns qs a level) level) + isN (.bool (stepF ns qs (stepF ns qs a level) level != stepF ns qs a level)) < aheadN ns qs (stepF ns qs a level) + isN (.bool (stepF ns qs a level != a)) by
        rw [e0]
        by_cases h2 : stepF ns qs (stepF ns qs a level) level = stepF ns qs a level
        · rw [show (stepF ns qs (stepF ns qs a level) level != stepF ns qs a level) = false by simp [h2], h2]
          simp [isN]
        · have h3 := step_on h2
          have h4 := ahead_lt (near_there h3.1) h3.2
          rw [show (stepF ns qs (stepF ns qs a level) level != stepF ns qs a level) = true by simp [h2]]
          simp [isN]; omega)
      clear hs
      have p0 := HP.out.cell 0
      have p1 := HP.out.cell 1
      have p2 := HP.out.cell 2
      simp at p0 p1 p2
      go_wp2_with (first
        | (at_builtin; refine wpList_append_elem rfl (.tmp 31) (.tmp 33) 28 rfl w.heap.size Try.underlying28 info_intE rfl (by decide) (.slice A n c) n _ rfl HO.out _ _ rfl rfl (by simp [Value.oneCell']) (by simp only [maxLen]; omega) (by omega) HB.out.size ?_; intro v9 w9 hown9 hgr9 hat9; have HO9 := hide (show w9.ownsRow w.heap.size 3 1 v9 (n + 1) (fcs encI (p ++ [stepF ns qs a level])) by rw [fcsI]; simpa [fcsI] using hown9); have HB9 := hide (below_own HB.out HO.out HB.out.size hgr9); have HP9 := hide (HP.out.grown hgr9 fun e => own_blk_ne HO.out HP.out (by decide) e.symm); obtain ⟨A9, c9, rfl, l1, l2⟩ := own_form HO9.out; clear hown9 hgr9 hat9 p0 p1 p2; have p0 := HP9.out.cell 0; have p1 := HP9.out.cell 1; have p2 := HP9.out.cell 2; simp at p0 p1 p2)
        | (go_at_call 13; refine (CS.out _ HB9.out (stepF ns qs a level)).mono ?_; rintro e w5 ⟨rfl, hb5⟩; have HB5 := hide (Below.step HB9.out hb5); have HP5 := hide (HP9.out.below hb5 HP9.out.lt); have HO5 := hide (own_keep HO9.out fun d hd => hb5.block d (HO9.out.lt d hd).2); clear hb5))
      go_roundw
      case rel => exact ⟨p ++ [stepF ns qs a level], stepF ns qs a level, n + 1, c9, A9, rfl, rfl, rfl, l1, l2, by have h := HNx.out.sz; rw [List.length_append, HLv.out.1, Hn.out] at h; simp at h; omega, hide ⟨by rw [List.length_append, HLv.out.1]; rfl, HNx.out⟩, HO5, HB5, HP5⟩
      case measure => exact HMs.out
/-- where the levels end -/
def DownR (ns : List NodeP) (q : List Int) : Nat → Int → Int → Prop
  | 0, a, d => d = a
  | k + 1, a, d => ∃ p t, WayS ns q ((k + 1 : Nat) : Int) a p ∧ p[p.length - 1]? = some t ∧ DownR ns q k t d
theorem DownR.ahead {ns : List NodeP} {q : List Int} : ∀ {k : Nat} {a d : Int}, DownR ns q k a d → d = a ∨ sptLt (spotF ns q d) (spotF ns q a) = true
  | 0, a, d, h => .inl h
  | k + 1, a, d, h => by
    obtain ⟨p, t, h1, h2, h3⟩ := h
    have h4 := h1.way.last h1.p0 h2
    rcases h3.ahead with rfl | h5
    · exact h4
    · rcases h4 with rfl | h4
      · exact .inr h5
      · exact .inr (swoS.trans _ _ _ h5 h4)
/-- the levels that are gone down -/
def lvN (top : Int) : Nat := (min top 7).toNat
set_option maxHeartbeats 8000000 in
theorem down_any (h : PlW w N nn ns Aq nq cq qs) : Calls Try.prog 11 #[.agg #[.slice N nn cN, .int .i64 en, .int .i64 top], .slice Aq nq cq] w fun e w' => ∃ d, e = .returned (.tuple #[.int .i64 d, .bool (thereF ns en)]) ∧ (if thereF ns en = true then DownR ns qs (lvN top) en d else d = 0) ∧ Below w.heap.size w w' := by
  have hb1 := below1 w (.cells #[.slice N nn cN, .int .i64 en, .int .i64 top] 24)
  have HB1 := hide hb1
  have HP1 := hide (Blk.new w 24 #[.slice N nn cN, .int .i64 en, .int .i64 top])
  have HPl := hide h
  have Hn := hide h.len
  have h20 : nn ≤ 20 := h.n20
  clear h hb1
  rcases ht : thereF ns en with _ | _
  · have CT := hide (fun (W : World) (hb : Below w.heap.size w W) => ht ▸ there_any (nn := nn) (cN := cN) (en := en) (top := top) (HPl.out.at_ hb).nd HPl.out.len en)
    clear ht
    go_enter Try.func11, Try.ntmps11
    go_wp2_with (go_at_call 12; refine (CT.out _ HB1.out).mono ?_; rintro e w2 ⟨rfl, hb2⟩; have HB2 := hide (Below.step HB1.out hb2); clear hb2)
    go_ret2
    exact ⟨0, rfl, by simp, HB2.out⟩
  · have CT := hide (fun (W : World) (hb : Below w.heap.size w W) => ht ▸ there_any (nn := nn) (cN := cN) (en := en) (top := top) (HPl.out.at_ hb).nd HPl.out.len en)
    have CL := hide (fun (W : World) (hb : Below w.heap.size w W) (s l : Int) => level_any (HPl.out.at_ hb) (cN := cN) (en := en) (top := top) s l)
    clear ht
    go_enter Try.func11, Try.ntmps11
    go_upto_region 4 with (go_at_call 12; refine (CT.out _ HB1.out).mono ?_; rintro e w2 ⟨rfl, hb2⟩; have HB2 := hide (Below.step HB1.out hb2); have HP2 := hide (HP1.out.below hb2 HP1.out.lt); clear hb2)
    clear HB1 HP1
    obtain ⟨b2, hb2⟩ : ∃ b, w.heap.size = b := ⟨_, rfl⟩
    rw [hb2] at HP2
    rw [hb2]
    have Hb2 := hide hb2
    clear hb2
    have p0 := HP2.out.cell 0
    have p1 := HP2.out.cell 1
    have p2 := HP2.out.cell 2
    simp at p0 p1 p2
    go_wp2
    go_loopw [6, 7, 8] (fun at_ lv _ wr => ∃ (k : Nat) (l a : Int), at_ = .int .i64 a ∧ lv = .int .i64 l ∧ Hid (k = l.toNat ∧ k ≤ 7 ∧ (l ≤ 7)) ∧ Hid (∀ d, DownR ns qs k a d → DownR ns qs (lvN top) en d) ∧ Hid (Below w.heap.size w wr) ∧ Hid (Blk wr b2 24 #[.slice N nn cN, .int .i64 en, .int .i64 top])) (fun _ lv _ _ => (intOf lv).toNat)
    case atStart => exact ⟨lvN top, min top 7, en, rfl, rfl, hide ⟨rfl, by unfold lvN; omega, by omega⟩, hide (fun d h => h), HB2, HP2⟩
    case round =>
      obtain ⟨k, l, a, rfl, rfl, HK, HD, HB, HP⟩ := hrel
      clear HB2 HP2 p0 p1 p2
      by_cases hl : 0 < l
      · have b0 : decide (0 < l) = true := decide_eq_true hl
        obtain ⟨m, hm⟩ : ∃ m, k = m + 1 := ⟨k - 1, by have := HK.out.1; omega⟩
        subst hm
        have hl7 : l ≤ 7 := HK.out.2.2
        have hlm : ((m + 1 : Nat) : Int) = l := by have := HK.out.1; omega
        have HLm := hide hlm
        clear hlm
        have hwr : IntKind.i64.wrap (l - 1) = l - 1 := IntWalk.i64_in _ (by omega)
        have p0 := HP.out.cell 0
        have p1 := HP.out.cell 1
        have p2 := HP.out.cell 2
        simp at p0 p1 p2
        go_upto_region 8 with (go_at_call 6; refine (CL.out _ HB.out a l).mono ?_; rintro e w5 ⟨p, A5, n5, c5, rfl, m1, m2, m3, m4, m5, m6, hb5⟩; have HB5 := hide (Below.step HB.out hb5); have HP5 := hide (HP.out.below hb5 HP.out.lt); have HW := hide m1; have HLn := hide m2; have HN5 := hide m3; have HR := hide m6; clear hb5 m1 m2 m3 m6)
        have hpos : 0 < n5 := by have h := (List.getElem?_eq_some_iff.1 HW.out.p0).1; have := HLn.out; omega
        have hn21 : n5 ≤ 21 := by have h := HN5.out; rw [Hn.out] at h; omega
        obtain ⟨j, hj⟩ : ∃ j, n5 = j + 1 := ⟨n5 - 1, by omega⟩
        obtain ⟨ad5, t, rfl, _, hv, q0⟩ := RdR.cell HR.out (k := j) (by have := HLn.out; omega)
        have HV := hide (show p[p.length - 1]? = some t by rw [HLn.out, show n5 - 1 = j by omega]; exact hv)
        have j0 : (0 : Int) ≤ j := by omega
        have j1 : (j : Int) < n5 := by omega
        have hsub : (n5 : Int) - 1 = j := by omega
        have hwj : IntKind.i64.wrap ((n5 : Int) - 1) = j := by rw [IntWalk.i64_in _ (by omega)]; omega
        have hwj2 : IntKind.i64.wrap (j : Int) = j := IntWalk.i64_in _ (by omega)
        clear hv hj
        go_wp2
        go_roundw
        case rel => exact ⟨m, l - 1, t, rfl, rfl, hide ⟨by have := HLm.out; omega, by have := HK.out.2.1; omega, by omega⟩, hide (fun d hd => HD.out d ⟨p, t, by rw [HLm.out]; exact HW.out, HV.out, hd⟩), HB5, HP5⟩
        case measure => simp [intOf]; omega
      · have b0 : decide (0 < l) = false := decide_eq_false hl
        have HDn := hide (HD.out a (by have := HK.out.1; rw [show k = 0 by omega]; rfl))
        go_wp2
        go_ret2
        exact ⟨a, rfl, by first | exact HDn.out | (rw [if_pos rfl]; exact HDn.out), HB.out⟩
end
end Go.Proofs.Ytphbdffgeeicaad
