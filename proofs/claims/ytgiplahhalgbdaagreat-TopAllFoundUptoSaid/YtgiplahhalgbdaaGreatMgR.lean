/-
  Texts of one part, put together. No condition.
-/
import Derived.Test.YtgiplahhalgbdaaGreatBmQ
/-
  The package reach, plainly: what is reached; a look around that may find all finds just that. No program in sight.
-/
namespace Go.Proofs.YtgiplahhalgbdaaGreat
set_option linter.unusedSimpArgs false
set_option linter.unusedVariables false

/-- what was met, each time; the edge -/
abbrev RcS : Type := List Int × List Int
def rchS (s : RcS) (n : Int) : RcS := (s.1 ++ [n], if n ∈ s.1 then s.2 else s.2 ++ [n])
def rchL (s : RcS) (l : List Int) : RcS := l.foldl rchS s
def sprL (ns : List NodeP) (level : Int) (s : RcS) (l : List Int) : RcS := l.foldl (fun s n => rchL s (nearF ns n level)) s
def sprS (ns : List NodeP) (level : Int) (s : RcS) : RcS := sprL ns level (s.1, []) s.2
inductive SprR (ns : List NodeP) (level : Int) : RcS → RcS → Prop
  | stop (s : RcS) : (sprS ns level s).2 = [] → SprR ns level s (sprS ns level s)
  | more (s t : RcS) : (sprS ns level s).2 ≠ [] → SprR ns level (sprS ns level s) t → SprR ns level s t
/-- what is there and was met -/
def metL (ns : List NodeP) (t : RcS) : List Int := (liveF ns).filter fun n => decide (n ∈ t.1)
/-- what reach.From gives -/
def FromR (ns : List NodeP) (starts : List Int) (level : Int) (l : List Int) : Prop := ∃ t, SprR ns level (rchL ([], []) starts) t ∧ l = metL ns t
/-- what is reached -/
inductive ReachR (ns : List NodeP) (level : Int) (starts : List Int) : Int → Prop
  | start (x : Int) : x ∈ starts → ReachR ns level starts x
  | step (x y : Int) : ReachR ns level starts x → y ∈ nearF ns x level → ReachR ns level starts y
section
variable {ns : List NodeP} {level : Int} {starts : List Int}
theorem rchL_snoc (s : RcS) (l : List Int) (n : Int) : rchL s (l ++ [n]) = rchS (rchL s l) n := by unfold rchL; rw [List.foldl_append]; rfl
theorem sprL_snoc (s : RcS) (l : List Int) (n : Int) : sprL ns level s (l ++ [n]) = rchL (sprL ns level s l) (nearF ns n level) := by unfold sprL; rw [List.foldl_append]; rfl
theorem rchL_len (s : RcS) : ∀ (l : List Int), (rchL s l).1.length = s.1.length + l.length := by
  intro l
  induction l generalizing s with
  | nil => rfl
  | cons n l ih =>
    show (rchL (rchS s n) l).1.length = _
    rw [ih]; simp [rchS]; omega
theorem rchL_le (s : RcS) : ∀ (l : List Int), (rchL s l).2.length ≤ s.2.length + l.length := by
  intro l
  induction l generalizing s with
  | nil => exact Nat.le_refl _
  | cons n l ih =>
    show (rchL (rchS s n) l).2.length ≤ _
    refine Nat.le_trans (ih _) ?_
    unfold rchS
    split <;> simp <;> omega
theorem sprL_len (s : RcS) : ∀ (l : List Int), (sprL ns level s l).1.length ≤ s.1.length + ns.length * l.length := by
  intro l
  induction l generalizing s with
  | nil => exact Nat.le_refl _
  | cons n l ih =>
    show (sprL ns level (rchL s (nearF ns n level)) l).1.length ≤ _
    refine Nat.le_trans (ih _) ?_
    have := rchL_len s (nearF ns n level)
    have := near_len ns n level
    rw [List.length_cons, Nat.mul_succ]
    omega
theorem sprL_le (s : RcS) : ∀ (l : List Int), (sprL ns level s l).2.length ≤ s.2.length + ns.length * l.length := by
  intro l
  induction l generalizing s with
  | nil => exact Nat.le_refl _
  | cons n l ih =>
    show (sprL ns level (rchL s (nearF ns n level)) l).2.length ≤ _
    refine Nat.le_trans (ih _) ?_
    have := rchL_le s (nearF ns n level)
    have := near_len ns n level
    rw [List.length_cons, Nat.mul_succ]
    omega
/-- what the walk keeps: dn are done, pend are met and not done -/
structure RcI (ns : List NodeP) (level : Int) (starts : List Int) (tr dn pend : List Int) : Prop where
  nd : (dn ++ pend).Nodup
  mem : ∀ x, x ∈ tr ↔ x ∈ dn ++ pend
  ok : ∀ x ∈ tr, x ∈ starts ∨ thereF ns x = true
  near : ∀ x ∈ dn, ∀ y ∈ nearF ns x level, y ∈ tr
  rch : ∀ x ∈ tr, ReachR ns level starts x
theorem RcI.nil : RcI ns level starts [] [] [] := ⟨by simp, by simp, by simp, by simp, by simp⟩
/-- one is met: the list that waits grows, or not -/
theorem RcI.meet {tr dn p e : List Int} (h : RcI ns level starts tr dn (p ++ e)) {n : Int} (hok : n ∈ starts ∨ thereF ns n = true) (hr : ReachR ns level starts n) : RcI ns level starts (rchS (tr, e) n).1 dn (p ++ (rchS (tr, e) n).2) := by
  have hs : ∀ x ∈ tr, x ∈ tr ++ [n] := fun x hx => List.mem_append_left _ hx
  have hok2 : ∀ x ∈ tr ++ [n], x ∈ starts ∨ thereF ns x = true := fun x hx => (List.mem_append.1 hx).elim (h.ok x) fun hx => by rw [List.mem_singleton.1 hx]; exact hok
  have hr2 : ∀ x ∈ tr ++ [n], ReachR ns level starts x := fun x hx => (List.mem_append.1 hx).elim (h.rch x) fun hx => by rw [List.mem_singleton.1 hx]; exact hr
  unfold rchS
  show RcI ns level starts (tr ++ [n]) dn (p ++ if n ∈ tr then e else e ++ [n])
  by_cases hn : n ∈ tr
  · rw [if_pos hn]
    refine ⟨h.nd, fun x => ?_, hok2, fun x hx y hy => hs y (h.near x hx y hy), hr2⟩
    rw [List.mem_append, h.mem x, List.mem_singleton]
    exact ⟨fun k => k.elim id fun k => by rw [k]; exact (h.mem n).1 hn, .inl⟩
  · rw [if_neg hn]
    have e1 : dn ++ (p ++ (e ++ [n])) = (dn ++ (p ++ e)) ++ [n] := by simp
    refine ⟨?_, fun x => ?_, hok2, fun x hx y hy => hs y (h.near x hx y hy), hr2⟩
    · rw [e1]
      exact List.nodup_append.2 ⟨h.nd, by simp, fun a ha b hb k => hn ((h.mem n).2 (by rw [List.mem_singleton.1 hb] at k; rw [← k]; exact ha))⟩
    · rw [e1, List.mem_append, List.mem_append, h.mem x]
theorem RcI.meets {dn p : List Int} : ∀ (l : List Int) {s : RcS}, RcI ns level starts s.1 dn (p ++ s.2) → (∀ x ∈ l, (x ∈ starts ∨ thereF ns x = true) ∧ ReachR ns level starts x) → RcI ns level starts (rchL s l).1 dn (p ++ (rchL s l).2)
  | [], _, h, _ => h
  | n :: l, s, h, hl => RcI.meets l (s := rchS s n) (h.meet (hl n (by simp)).1 (hl n (by simp)).2) fun x hx => hl x (List.mem_cons_of_mem _ hx)
theorem rchL_sub {x : Int} : ∀ (l : List Int) {s : RcS}, x ∈ s.1 → x ∈ (rchL s l).1
  | [], _, h => h
  | n :: l, s, h => rchL_sub l (s := rchS s n) (List.mem_append_left _ h)
theorem rchL_mem {x : Int} : ∀ (l : List Int) {s : RcS}, x ∈ l → x ∈ (rchL s l).1
  | n :: l, s, h => by
    rcases List.mem_cons.1 h with rfl | h
    · exact rchL_sub l (s := rchS s x) (by simp [rchS])
    · exact rchL_mem l (s := rchS s n) h
/-- one is done -/
theorem RcI.one {dn p : List Int} {n : Int} {s : RcS} (h : RcI ns level starts s.1 dn (n :: p ++ s.2)) : RcI ns level starts (rchL s (nearF ns n level)).1 (dn ++ [n]) (p ++ (rchL s (nearF ns n level)).2) := by
  have hn : n ∈ s.1 := (h.mem n).2 (by simp)
  have h1 := h.meets (nearF ns n level) fun x hx => ⟨.inr (near_there hx), .step n x (h.rch n hn) hx⟩
  have e : ∀ u : List Int, dn ++ (n :: p ++ u) = (dn ++ [n]) ++ (p ++ u) := fun u => by simp
  refine ⟨by rw [← e]; exact h1.nd, fun x => by rw [← e]; exact h1.mem x, h1.ok, fun x hx y hy => ?_, h1.rch⟩
  rcases List.mem_append.1 hx with hx | hx
  · exact h1.near x hx y hy
  · rw [List.mem_singleton.1 hx] at hy
    exact rchL_mem _ hy
theorem RcI.ones : ∀ (l : List Int) {dn : List Int} {s : RcS}, RcI ns level starts s.1 dn (l ++ s.2) → RcI ns level starts (sprL ns level s l).1 (dn ++ l) (sprL ns level s l).2
  | [], dn, s, h => by simpa [sprL] using h
  | n :: l, dn, s, h => by
    have := RcI.ones l (s := rchL s (nearF ns n level)) h.one
    rw [List.append_assoc, List.singleton_append] at this
    exact this
theorem RcI.spread {dn : List Int} {s : RcS} (h : RcI ns level starts s.1 dn s.2) : RcI ns level starts (sprS ns level s).1 (dn ++ s.2) (sprS ns level s).2 :=
  RcI.ones s.2 (s := (s.1, [])) (by simpa using h)
theorem RcI.start : RcI ns level starts (rchL ([], []) starts).1 [] (rchL ([], []) starts).2 := by
  have := RcI.meets (ns := ns) (level := level) (starts := starts) (dn := []) (p := []) starts (s := ([], [])) (by simpa using RcI.nil) fun x hx => ⟨.inl hx, .start x hx⟩
  simpa using this
/-- all that was met, once each, is no more than what may be -/
theorem RcI.few {tr dn pend : List Int} (h : RcI ns level starts tr dn pend) : dn.length + pend.length ≤ starts.length + ns.length := by
  have := sub_lenI h.nd (m := starts ++ liveF ns) fun x hx => by
    rcases h.ok x ((h.mem x).2 hx) with k | k
    · exact List.mem_append_left _ k
    · exact List.mem_append_right _ (live_mem.2 k)
  rw [List.length_append, List.length_append] at this
  have h2 : (liveF ns).length ≤ ns.length := there_len (ns := ns) (liveK_nodup ns _ : (liveF ns).Nodup) fun x hx => live_mem.1 hx
  omega
theorem sprL_sub {x : Int} : ∀ (l : List Int) {s : RcS}, x ∈ s.1 → x ∈ (sprL ns level s l).1
  | [], _, h => h
  | n :: l, s, h => sprL_sub l (s := rchL s (nearF ns n level)) (rchL_sub _ h)
/-- the edge is of new ones -/
theorem rchL_new {x : Int} : ∀ (l : List Int) {s : RcS}, x ∈ (rchL s l).2 → x ∈ s.2 ∨ x ∈ l ∧ x ∉ s.1
  | [], _, h => .inl h
  | n :: l, s, h => by
    rcases rchL_new l (s := rchS s n) h with k | ⟨k1, k2⟩
    · unfold rchS at k
      simp only at k
      split at k
      · exact .inl k
      · rcases List.mem_append.1 k with k | k
        · exact .inl k
        · rw [List.mem_singleton.1 k]
          exact .inr ⟨by simp, by assumption⟩
    · exact .inr ⟨List.mem_cons_of_mem _ k1, fun k => k2 (List.mem_append_left _ k)⟩
theorem sprL_new {x : Int} : ∀ (l : List Int) {s : RcS}, x ∈ (sprL ns level s l).2 → x ∈ s.2 ∨ thereF ns x = true ∧ x ∉ s.1
  | [], _, h => .inl h
  | n :: l, s, h => by
    rcases sprL_new l (s := rchL s (nearF ns n level)) h with k | ⟨k1, k2⟩
    · rcases rchL_new _ k with k | ⟨k1, k2⟩
      · exact .inl k
      · exact .inr ⟨near_there k1, k2⟩
    · exact .inr ⟨k1, fun k => k2 (rchL_sub _ k)⟩
theorem unkN_mono {kn kn' : List Int} (h : ∀ x ∈ kn, x ∈ kn') : unkN ns kn' ≤ unkN ns kn := by
  unfold unkN
  refine List.countP_mono_left fun i _ hi => ?_
  simp only [Bool.and_eq_true, decide_eq_true_eq] at hi ⊢
  exact ⟨hi.1, fun k => hi.2 (h _ k)⟩
/-- a step that finds more leaves less to be found -/
theorem spread_less {dn : List Int} {s : RcS} (h : RcI ns level starts s.1 dn s.2) (he : (sprS ns level s).2 ≠ []) : unkN ns (sprS ns level s).1 < unkN ns s.1 := by
  obtain ⟨x, hx⟩ := List.exists_mem_of_ne_nil _ he
  rcases sprL_new s.2 (s := (s.1, [])) hx with k | ⟨k1, k2⟩
  · simp at k
  · refine Nat.lt_of_le_of_lt (unkN_mono (kn := s.1 ++ [x]) fun y hy => ?_) (unkN_lt k1 k2)
    rcases List.mem_append.1 hy with hy | hy
    · exact sprL_sub s.2 (s := (s.1, [])) hy
    · rw [List.mem_singleton.1 hy]
      exact (h.spread.mem x).2 (List.mem_append_right _ hx)
theorem SprR.ends {s t : RcS} (h : SprR ns level s t) : ∀ {dn : List Int}, RcI ns level starts s.1 dn s.2 → t.2 = [] ∧ ∃ dn', RcI ns level starts t.1 dn' t.2 ∧ ∀ x ∈ s.1, x ∈ t.1 := by
  induction h with
  | stop s h => exact fun {dn} hi => ⟨h, _, hi.spread, fun x hx => sprL_sub s.2 (s := (s.1, [])) hx⟩
  | more s t h _ ih =>
    intro dn hi
    obtain ⟨h1, dn', h2, h3⟩ := ih hi.spread
    exact ⟨h1, dn', h2, fun x hx => h3 x (sprL_sub s.2 (s := (s.1, [])) hx)⟩
/-- what is met is what is reached -/
theorem spr_mem {t : RcS} (h : SprR ns level (rchL ([], []) starts) t) (x : Int) : x ∈ t.1 ↔ ReachR ns level starts x := by
  obtain ⟨h1, dn, h2, h3⟩ := h.ends (starts := starts) RcI.start
  refine ⟨h2.rch x, fun k => ?_⟩
  induction k with
  | start x hx => exact h3 x (rchL_mem starts hx)
  | step x y _ hy ih =>
    refine h2.near x ?_ y hy
    have := (h2.mem x).1 ih
    rw [h1, List.append_nil] at this
    exact this
theorem from_mem {l : List Int} (h : FromR ns starts level l) {x : Int} : x ∈ l ↔ thereF ns x = true ∧ ReachR ns level starts x := by
  obtain ⟨t, h1, rfl⟩ := h
  unfold metL
  rw [List.mem_filter, live_mem, decide_eq_true_eq, spr_mem h1]
theorem from_nodup {l : List Int} (h : FromR ns starts level l) : l.Nodup := by
  obtain ⟨t, h1, rfl⟩ := h
  exact (liveK_nodup ns _).filter _
end
section
variable {ns : List NodeP} {q : List Int} {mask : Int} {K : Nat} {level : Int} {starts : List Int}
theorem offS_in {s : PrS} {n x : Int} (h : x ∈ (offS ns q mask K s n).1) : x ∈ s.1 ∨ x = n ∧ thereF ns n = true := by
  unfold offS at h
  split at h
  · have h2 : x ∈ offKn s.1 n := h
    unfold offKn at h2
    split at h2
    · exact .inl h2
    · exact (List.mem_append.1 h2).imp id fun k => ⟨List.mem_singleton.1 k, by assumption⟩
  · exact .inl h
theorem offL_in {x : Int} : ∀ (l : List Int) {s : PrS}, x ∈ (offL ns q mask K s l).1 → x ∈ s.1 ∨ x ∈ l ∧ thereF ns x = true
  | [], _, h => .inl h
  | n :: l, s, h => by
    rcases offL_in l (s := offS ns q mask K s n) h with k | k
    · exact (offS_in k).imp id fun k => ⟨by rw [k.1]; simp, by rw [k.1]; exact k.2⟩
    · exact .inr ⟨List.mem_cons_of_mem _ k.1, k.2⟩
theorem LookR.inside {s t : PrS} {c : Nat} (h : LookR ns q mask K level s t c) {Q : Int → Prop} (hQ : ∀ x, Q x → ∀ y ∈ nearF ns x level, Q y) : ∀ {dn : List Int}, BmI ns q mask K s dn → (∀ x ∈ s.1, Q x) → ∀ x ∈ t.1, Q x := by
  induction h with
  | stop s h => exact fun _ h => h
  | more s t c h _ ih =>
    intro dn hi hs
    have hl := not_done_len h
    refine ih ((hi.pop hl).offs (nearF ns (fstS s.2.1).2 level)) fun x hx => ?_
    rcases offL_in _ hx with k | ⟨k, _⟩
    · exact hs x k
    · refine hQ _ (hs _ ?_) x k
      obtain ⟨m, hm⟩ := fst_split hl
      refine hi.pm.mem_iff.1 (List.mem_append_right _ (List.mem_map.2 ⟨fstS s.2.1, ?_, rfl⟩))
      rw [hm]; simp [fstS]
/-- a look around that may find all knows just what is reached -/
theorem look_mem {l : List Int} (hK : (liveF ns).length ≤ K) {t : PrS} {c : Nat} (h : LookR ns q mask K level (offL ns q mask K ([], [], []) l) t c) : ∃ dn, BmI ns q mask K t dn ∧ ∀ x, x ∈ t.1 ↔ ReachR ns level (l.filter (thereF ns)) x := by
  obtain ⟨dn, h1⟩ := h.ends (BmI.nil.offs l)
  have hw := h1.i.room hK h1.don
  have hpm : dn.Perm t.1 := by
    have := h1.i.pm
    rw [hw] at this
    simpa using this
  refine ⟨dn, h1.i, fun x => ⟨fun hx => ?_, fun k => ?_⟩⟩
  · refine h.inside (Q := ReachR ns level (l.filter (thereF ns))) (fun x hx y hy => .step x y hx hy) (BmI.nil.offs l) (fun x hx => ?_) x hx
    rcases offL_in _ hx with k | k
    · simp at k
    · exact .start x (List.mem_filter.2 k)
  · induction k with
    | start x hx =>
      obtain ⟨k1, k2⟩ := List.mem_filter.1 hx
      exact h1.sub x (offL_mem k2 l k1)
    | step x y _ hy ih => exact h1.near (by simp) x (hpm.mem_iff.2 ih) y hy
/-- TopReached, plainly -/
theorem look_from {l F : List Int} (hK : (liveF ns).length ≤ K) {t : PrS} {c : Nat} (h : LookR ns q mask K level (offL ns q mask K ([], [], []) l) t c) (hF : FromR ns (l.filter (thereF ns)) level F) : t.2.2.map (·.1) = hitsM q mask (F.map (itemF ns)) := by
  obtain ⟨dn, hi, hm⟩ := look_mem hK h
  have hp : t.1.Perm F := by
    have h1 : ∀ x ∈ t.1, x ∈ F := fun x hx => (from_mem hF).2 ⟨hi.th x hx, (hm x).1 hx⟩
    have h2 : ∀ x ∈ F, x ∈ t.1 := fun x hx => (hm x).2 ((from_mem hF).1 hx).2
    exact sub_permI hi.nd (from_nodup hF) h1 (sub_lenI (from_nodup hF) h2)
  have hb : t.2.2 = srtS (tgS ns q mask t.1) := by
    rw [hi.bs, List.take_of_length_le]
    rw [srtS_len]
    have := tgS_len (ns := ns) (q := q) (mask := mask) t.1
    have := hi.le
    omega
  rw [hb, srt_fst]
  unfold hitsM
  rw [cnt_tg]
  exact srt_congr swoH totH (((hp.filter _).map _).map _)
end
end Go.Proofs.YtgiplahhalgbdaaGreat

/-
  A plane without one of its nodes, plainly: it is whole; a search in it finds all else. No program in sight.
-/
namespace Go.Proofs.YtgiplahhalgbdaaGreat
set_option linter.unusedSimpArgs false
set_option linter.unusedVariables false

/-- a plane without a slot, as its readers see it -/
structure DropP (ns : List NodeP) (slot : Int) (ns' : List NodeP) : Prop where
  len : ns'.length = ns.length
  it : ∀ k : Nat, (k : Int) ≠ slot → (ns'[k]?.map fun n => n.1) = (ns[k]?.map fun n => n.1)
  nx : ∀ k : Nat, k < ns.length → (k : Int) ≠ slot → nextF ns' k = if (k : Int) = prevF ns slot then nextF ns slot else nextF ns k
  gone : nextF ns' slot = -1
section
variable {ns ns' : List NodeP} {slot : Int}
theorem there_iff {ns : List NodeP} {s : Int} : thereF ns s = true ↔ 0 < s ∧ s < ns.length ∧ 0 ≤ nextF ns s := by
  unfold thereF
  simp only [Bool.and_eq_true, decide_eq_true_eq]
  refine and_congr_right fun h0 => and_congr_right fun h1 => ?_
  obtain ⟨k, rfl⟩ : ∃ k : Nat, s = k := ⟨s.toNat, by omega⟩
  obtain ⟨x, hx⟩ : ∃ x, ns[k]? = some x := ⟨_, List.getElem?_eq_getElem (by omega)⟩
  rw [nextF_at hx, show ((k : Int)).toNat = k by omega, hx]
  rfl
theorem place_iff {s : Int} : placeF ns s = true ↔ s = 0 ∨ thereF ns s = true := by
  unfold placeF
  rw [Bool.or_eq_true, decide_eq_true_eq]
/-- in a right ring -/
theorem ring_at (hr : ringB ns) (h0 : 0 < ns.length) {s : Int} (hs : placeF ns s = true) : placeF ns (nextF ns s) = true ∧ placeF ns (prevF ns s) = true ∧ prevF ns (nextF ns s) = s := by
  obtain ⟨h1, h2⟩ := placeF_lt hs h0
  obtain ⟨k, rfl⟩ : ∃ k : Nat, s = k := ⟨s.toNat, by omega⟩
  obtain ⟨x, hx⟩ : ∃ x, ns[k]? = some x := ⟨_, List.getElem?_eq_getElem (by omega)⟩
  have h := hr.1 k x hx
  unfold rgF at h
  rw [if_neg (by
    rintro ⟨a, b⟩
    rcases place_iff.1 hs with k0 | k0
    · omega
    · rw [b] at k0; cases k0)] at h
  simp only [Bool.and_eq_true, decide_eq_true_eq] at h
  rw [nextF_at hx, prevF_at hx]
  exact h
theorem drop_there (hr : ringB ns) (h0 : 0 < ns.length) (hs : thereF ns slot = true) (hd : DropP ns slot ns') (x : Int) : thereF ns' x = true ↔ thereF ns x = true ∧ x ≠ slot := by
  obtain ⟨p1, p2, p3⟩ := ring_at hr h0 (place_iff.2 (.inr hs))
  constructor
  · intro h
    obtain ⟨a, b, c⟩ := there_iff.1 h
    have hne : x ≠ slot := fun e => by rw [e, hd.gone] at c; omega
    refine ⟨?_, hne⟩
    obtain ⟨k, rfl⟩ : ∃ k : Nat, x = k := ⟨x.toNat, by omega⟩
    rw [hd.len] at b
    rw [hd.nx k (by omega) hne] at c
    by_cases e : (k : Int) = prevF ns slot
    · rw [← e] at p2
      rcases place_iff.1 p2 with k0 | k0
      · omega
      · exact k0
    · rw [if_neg e] at c
      exact there_iff.2 ⟨a, b, c⟩
  · rintro ⟨h, hne⟩
    obtain ⟨a, b, c⟩ := there_iff.1 h
    obtain ⟨k, rfl⟩ : ∃ k : Nat, x = k := ⟨x.toNat, by omega⟩
    refine there_iff.2 ⟨a, by rw [hd.len]; exact b, ?_⟩
    rw [hd.nx k (by omega) hne]
    split
    · exact (placeF_lt p1 h0).1
    · exact c
/-- whoever is met on the ring has one ahead of it -/
theorem run_pred : ∀ (k : Nat) (out : List Int) (a p : Int), (∀ y ∈ out, ∃ p, placeF ns p = true ∧ nextF ns p = y ∧ p ≠ y) → placeF ns p = true → nextF ns p = a → (p = 0 ∨ p ∈ out) → ∀ x ∈ runN ns k out a, ∃ p, placeF ns p = true ∧ nextF ns p = x ∧ p ≠ x
  | 0, _, _, _, h, _, _, _, x, hx => h x hx
  | k + 1, out, a, p, h, hp, hn, ho, x, hx => by
    by_cases e : thereF ns a = true ∧ a ∉ out
    · rw [runN_go e] at hx
      refine run_pred k (out ++ [a]) (nextF ns a) a (fun y hy => ?_) (place_iff.2 (.inr e.1)) rfl (.inr (by simp)) x hx
      rcases List.mem_append.1 hy with hy | hy
      · exact h y hy
      · rw [List.mem_singleton.1 hy]
        refine ⟨p, hp, hn, fun k => ?_⟩
        rcases ho with ho | ho
        · have := there_lt e.1; omega
        · exact e.2 (k ▸ ho)
    · rw [runN_stop e] at hx
      exact h x hx
theorem zero_place : placeF ns 0 = true := place_iff.2 (.inl rfl)
theorem ring_pred {x : Int} (hx : x ∈ ringF ns) : ∃ p, placeF ns p = true ∧ nextF ns p = x ∧ p ≠ x :=
  run_pred _ _ _ 0 (by simp) zero_place rfl (.inl rfl) x hx
theorem run_reach (hr : ringB ns) (h0 : 0 < ns.length) (hs : thereF ns slot = true) (hd : DropP ns slot ns') (hin : slot ∈ ringF ns) : ∀ (k : Nat) (out : List Int) (a p : Int), (∀ y ∈ out, y ≠ slot → ReachR ns' 0 [0] y) → placeF ns p = true → nextF ns p = a → (p = 0 ∨ p ∈ out) →
    (p ≠ slot → ReachR ns' 0 [0] p) → (p = slot → ReachR ns' 0 [0] (prevF ns slot) ∧ prevF ns slot ≠ slot) → ∀ x ∈ runN ns k out a, x ≠ slot → ReachR ns' 0 [0] x
  | 0, _, _, _, h, _, _, _, _, _, x, hx => h x hx
  | k + 1, out, a, p, h, hp, hn, ho, h1, h2, x, hx => by
    by_cases e : thereF ns a = true ∧ a ∉ out
    · rw [runN_go e] at hx
      have hl := placeF_lt hp h0
      obtain ⟨q1, q2, q3⟩ := ring_at hr h0 (place_iff.2 (.inr hs))
      have hpa : p ≠ a := fun k => by
        rcases ho with ho | ho
        · have := there_lt e.1; omega
        · exact e.2 (k ▸ ho)
      have hgo : a ≠ slot → ReachR ns' 0 [0] a := by
        intro hne
        have hta : thereF ns' a = true := (drop_there hr h0 hs hd a).2 ⟨e.1, hne⟩
        by_cases hps : p = slot
        · obtain ⟨t1, t2⟩ := h2 hps
          have hl2 := placeF_lt q2 h0
          obtain ⟨j, hj⟩ : ∃ j : Nat, prevF ns slot = j := ⟨(prevF ns slot).toNat, by omega⟩
          have hnx : nextF ns' (prevF ns slot) = a := by
            have := hd.nx j (by omega) (by rw [← hj]; exact t2)
            rw [← hj, if_pos rfl, ← hps, hn] at this
            rw [← hps]
            exact this
          refine .step _ a t1 ?_
          rw [← hnx]
          exact near_nextF hl2.1 (by rw [hd.len]; exact hl2.2) (by rw [hnx]; exact hta)
        · have hpp : p ≠ prevF ns slot := by
            intro k
            obtain ⟨p', k1, k2, k3⟩ := ring_pred hin
            have := (ring_at hr h0 k1).2.2
            rw [k2, ← k] at this
            rw [← this, hn] at k2
            exact hne k2
          obtain ⟨j, hj⟩ : ∃ j : Nat, p = j := ⟨p.toNat, by omega⟩
          have hnx : nextF ns' p = a := by
            have := hd.nx j (by omega) (by rw [← hj]; exact hps)
            rw [← hj, if_neg hpp, hn] at this
            exact this
          refine .step _ a (h1 hps) ?_
          rw [← hnx]
          exact near_nextF hl.1 (by rw [hd.len]; exact hl.2) (by rw [hnx]; exact hta)
      refine run_reach hr h0 hs hd hin k (out ++ [a]) (nextF ns a) a (fun y hy hne => ?_) (place_iff.2 (.inr e.1)) rfl (.inr (by simp)) hgo (fun k => ?_) x hx
      · rcases List.mem_append.1 hy with hy | hy
        · exact h y hy hne
        · rw [List.mem_singleton.1 hy] at hne ⊢
          exact hgo hne
      · have h3 := (ring_at hr h0 hp).2.2
        rw [hn, k] at h3
        rw [h3]
        have hps : p ≠ slot := fun e2 => hpa (by rw [e2, k])
        exact ⟨h1 hps, hps⟩
    · rw [runN_stop e] at hx
      exact h x hx
/-- all that is there is reached from the head -/
def WholeP (ns : List NodeP) : Prop := ∀ x, thereF ns x = true → ReachR ns 0 [0] x
theorem drop_whole {en top links : Int} (hc : CheckP ns en top links) (hs : thereF ns slot = true) (hd : DropP ns slot ns') : WholeP ns' := by
  intro x hx
  obtain ⟨h1, h2⟩ := (drop_there hc.rg hc.pos hs hd x).1 hx
  have hp := ring_all hc
  exact run_reach hc.rg hc.pos hs hd (hp.mem_iff.2 (live_mem.2 hs)) _ [] _ 0 (by simp) zero_place rfl (.inl rfl) (fun _ => .start 0 (by simp)) (fun k => by have := there_lt hs; omega) x (hp.mem_iff.2 (live_mem.2 h1)) h2
theorem check_whole {en top links : Int} (hc : CheckP ns en top links) : WholeP ns := by
  intro x hx
  have hp := ring_all hc
  have key : ∀ (k : Nat) (out : List Int) (a p : Int), (∀ y ∈ out, ReachR ns 0 [0] y) → placeF ns p = true → nextF ns p = a → ReachR ns 0 [0] p → ∀ x ∈ runN ns k out a, ReachR ns 0 [0] x := by
    intro k
    induction k with
    | zero => exact fun out a p h _ _ _ x hx => h x hx
    | succ k ih =>
      intro out a p h hp hn hr x hx
      by_cases e : thereF ns a = true ∧ a ∉ out
      · rw [runN_go e] at hx
        have hl := placeF_lt hp hc.pos
        have ha : ReachR ns 0 [0] a := .step p a hr (by rw [← hn]; exact near_nextF hl.1 hl.2 (by rw [hn]; exact e.1))
        refine ih (out ++ [a]) (nextF ns a) a (fun y hy => ?_) (place_iff.2 (.inr e.1)) rfl ha x hx
        rcases List.mem_append.1 hy with hy | hy
        · exact h y hy
        · rw [List.mem_singleton.1 hy]; exact ha
      · rw [runN_stop e] at hx
        exact h x hx
  exact key _ [] _ 0 (by simp) zero_place rfl (.start 0 (by simp)) x (hp.mem_iff.2 (live_mem.2 hx))
theorem from_whole {l : List Int} (h : FromR ns [0] 0 l) (hw : WholeP ns) : l.Perm (liveF ns) :=
  sub_permI (from_nodup h) (liveK_nodup ns _) (fun x hx => live_mem.2 ((from_mem h).1 hx).1) (sub_lenI (liveK_nodup ns _) fun x hx => (from_mem h).2 ⟨live_mem.1 hx, hw x (live_mem.1 hx)⟩)
end
section
variable {ns ns' : List NodeP} {q : List Int} {mask : Int} {K : Nat} {slot : Int}
/-- in a whole plane a search that may find all knows all -/
theorem know_whole (hw : WholeP ns) {l : List Int} (hl : ∀ x ∈ nearF ns 0 0, x ∈ l) (hK : (liveF ns).length ≤ K) {t : PrS} {c : Nat} (h : LookR ns q mask K 0 (offL ns q mask K ([], [], []) l) t c) : ∃ dn, BmI ns q mask K t dn ∧ t.1.Perm (liveF ns) := by
  obtain ⟨dn, hi, hm⟩ := look_mem hK h
  have hr : ∀ x, ReachR ns 0 [0] x → x = 0 ∨ ReachR ns 0 (l.filter (thereF ns)) x := by
    intro x k
    induction k with
    | start x hx => exact .inl (List.mem_singleton.1 hx)
    | step x y _ hy ih =>
      rcases ih with rfl | ih
      · exact .inr (.start y (List.mem_filter.2 ⟨hl y hy, near_there hy⟩))
      · exact .inr (.step x y ih hy)
  refine ⟨dn, hi, sub_permI hi.nd (liveK_nodup ns _) (fun x hx => live_mem.2 (hi.th x hx)) (sub_lenI (liveK_nodup ns _) fun x hx => (hm x).2 ?_)⟩
  have ht := live_mem.1 hx
  rcases hr x (hw x ht) with k | k
  · have := there_lt ht; omega
  · exact k
theorem itemF_map {k : Nat} (hk : k < ns.length) : itemF ns k = ((ns[k]?.map fun n => n.1)).getD (0, [], 0) := by
  unfold itemF
  rw [if_pos (by omega)]; rfl
theorem drop_item (hd : DropP ns slot ns') {x : Int} (hx : thereF ns x = true) (hne : x ≠ slot) : itemF ns' x = itemF ns x := by
  obtain ⟨h1, h2⟩ := there_lt hx
  obtain ⟨k, rfl⟩ : ∃ k : Nat, x = k := ⟨x.toNat, by omega⟩
  rw [itemF_map (by rw [hd.len]; omega), itemF_map (by omega), hd.it k hne]
theorem has_zero (t : Int) : hasB 0 t = true := by
  unfold hasB
  have e2 : bits .andNot .u64 0 t = ((BitVec.ofInt 64 0 &&& ~~~BitVec.ofInt 64 t).toNat : Int) := wrap_toNat _
  rw [e2]
  simp
theorem inj_of_nodup {α β : Type} {f : α → β} : ∀ {l : List α}, (l.map f).Nodup → ∀ {x y : α}, x ∈ l → y ∈ l → f x = f y → x = y
  | a :: l, h, x, y, hx, hy, e => by
    rw [List.map_cons, List.nodup_cons] at h
    rcases List.mem_cons.1 hx with h1 | h1 <;> rcases List.mem_cons.1 hy with h2 | h2
    · rw [h1, h2]
    · exact absurd (List.mem_map.2 ⟨y, h2, by rw [← e, h1]⟩) h.1
    · exact absurd (List.mem_map.2 ⟨x, h1, by rw [e, h2]⟩) h.1
    · exact inj_of_nodup h.2 h1 h2 e
theorem srtH_filter (P : Hit → Bool) (l : List Hit) : (srtH l).filter P = srtH (l.filter P) := by
  refine srt_eq swoH totH ((srt_perm (l := l)).filter P) ?_
  exact (srt_pw swoH l).sublist List.filter_sublist
theorem idF_item {s : Int} (hs : thereF ns s = true) : idF ns s = (itemF ns s).1 := by
  obtain ⟨h1, h2⟩ := there_lt hs
  obtain ⟨k, rfl⟩ : ∃ k : Nat, s = k := ⟨s.toNat, by omega⟩
  obtain ⟨x, hx⟩ : ∃ x, ns[k]? = some x := ⟨_, List.getElem?_eq_getElem (by omega)⟩
  rw [itemF_map (by omega), hx]
  unfold idF nodeF
  rw [show ((k : Int)).toNat = k by omega, hx]; rfl
/-- TopDropped, plainly -/
theorem drop_found {en top links : Int} (hc : CheckP ns en top links) (hs : thereF ns slot = true) (hd : DropP ns slot ns') :
    (hitsM q 0 ((liveF ns).map (itemF ns))).filter (fun x => !(x.2 == (itemF ns slot).1)) = hitsM q 0 ((liveF ns').map (itemF ns')) ∧ (hitsM q 0 ((liveF ns').map (itemF ns'))).length + 1 = (liveF ns).length := by
  have hm : ∀ x, x ∈ liveF ns' ↔ x ∈ (liveF ns).filter (fun x => decide (x ≠ slot)) := fun x => by
    rw [live_mem, drop_there hc.rg hc.pos hs hd, List.mem_filter, live_mem, decide_eq_true_eq]
  have hnd : ((liveF ns).filter (fun x => decide (x ≠ slot))).Nodup := (liveK_nodup ns _ : (liveF ns).Nodup).filter _
  have hp : (liveF ns').Perm ((liveF ns).filter (fun x => decide (x ≠ slot))) :=
    sub_permI (liveK_nodup ns' _) hnd (fun x hx => (hm x).1 hx) (sub_lenI hnd fun x hx => (hm x).2 hx)
  have e0 : ∀ (l : List ItemP), cntM q 0 l = l.map fun it => (distOf q it.2.1, it.1) := fun l => by
    unfold cntM
    rw [List.filter_eq_self.2 fun it _ => has_zero it.2.2]
  have e1 : (liveF ns').map (itemF ns') = (liveF ns').map (itemF ns) := List.map_congr_left fun x hx => by
    obtain ⟨a, b⟩ := (drop_there hc.rg hc.pos hs hd x).1 (live_mem.1 hx)
    exact drop_item hd a b
  have e2 : (((liveF ns).map (itemF ns)).map (fun it : ItemP => (distOf q it.2.1, it.1))).filter (fun x : Hit => !(x.2 == (itemF ns slot).1)) = (((liveF ns).filter (fun x => decide (x ≠ slot))).map (itemF ns)).map (fun it : ItemP => (distOf q it.2.1, it.1)) := by
    rw [List.map_map, List.filter_map, List.map_map]
    congr 1
    refine List.filter_congr fun x hx => ?_
    have ht := live_mem.1 hx
    show (!((itemF ns x).1 == (itemF ns slot).1)) = decide (x ≠ slot)
    by_cases e : x = slot
    · subst e; simp
    · have hne : (itemF ns x).1 ≠ (itemF ns slot).1 := fun k => by
        rw [← idF_item ht, ← idF_item hs] at k
        exact e (inj_of_nodup hc.ids hx (live_mem.2 hs) k)
      simp [e, hne]
  constructor
  · unfold hitsM
    rw [srtH_filter, e0, e0, e2, e1]
    exact srt_congr swoH totH (((hp.symm).map _).map _)
  · unfold hitsM
    rw [show (srtH (cntM q 0 ((liveF ns').map (itemF ns')))).length = (cntM q 0 ((liveF ns').map (itemF ns'))).length from (srt_perm (l := _)).length_eq, e0, List.length_map, List.length_map, hp.length_eq]
    have h1 := List.length_pos_of_mem (live_mem.2 hs)
    have h3 : ((liveF ns).filter (fun x => decide (x ≠ slot))).length + 1 = (liveF ns).length := by
      have e := List.Nodup.erase_eq_filter (liveK_nodup ns _ : (liveF ns).Nodup) slot
      have e3 := List.length_erase_of_mem (live_mem.2 hs)
      have e4 : (liveF ns).filter (fun x => decide (x ≠ slot)) = (liveF ns).erase slot := by
        refine Eq.trans (List.filter_congr fun x _ => ?_) e.symm
        by_cases k : x = slot <;> simp [k]
      rw [e4, e3]
      omega
    exact h3
end
end Go.Proofs.YtgiplahhalgbdaaGreat
