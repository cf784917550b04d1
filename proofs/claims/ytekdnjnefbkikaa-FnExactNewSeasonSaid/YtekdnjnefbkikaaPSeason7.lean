/- Plain lemmas: what the functions compute is what the reference says, in plain Lean. No condition. -/
import Derived.Test.YtekdnjnefbkikaaPSeasonA
set_option maxRecDepth 4000
set_option maxHeartbeats 1000000
set_option linter.unusedVariables false
set_option linter.unusedSimpArgs false
set_option linter.unusedSectionVars false

namespace Go.Proofs.Ytekdnjnefbkikaa
open Go.AM
/-! a season out of entries -/
def LinesOk (ls : List Line) : Prop := (∀ x ∈ ls, lineN x) ∧ ls.Pairwise (fun a b => a.skater < b.skater)
instance (a b : Entry) : Decidable (ltE a b) := by unfold ltE; exact inferInstance
def flat (ls : List Line) : List Entry := ls.flatMap lineEs
def GoodL (l : List Entry) : Prop := (∀ e ∈ l, entOk e) ∧ l.Pairwise (fun a b => ¬ sameE a b)
theorem ltE_irr (a : Entry) : ¬ ltE a a := by unfold ltE; omega
theorem ltE_asym {a b : Entry} (h : ltE a b) : ¬ ltE b a := by unfold ltE at *; omega
theorem ltE_tot {a b : Entry} (h : ¬ sameE a b) : ltE a b ∨ ltE b a := by unfold sameE at h; unfold ltE; omega
theorem sorted_uniq {l m : List Entry} (h : l.Pairwise ltE) (k : m.Pairwise ltE) (p : l.Perm m) : l = m :=
  List.Perm.eq_of_pairwise (le := ltE) (fun a b _ _ h1 h2 => absurd h2 (ltE_asym h1)) h k p
theorem GoodL.perm {l m : List Entry} (h : GoodL l) (p : m.Perm l) : GoodL m :=
  ⟨fun e he => h.1 e (p.mem_iff.1 he), (p.pairwise_iff (fun {a b} hab hba => hab ⟨hba.1.symm, hba.2.symm⟩)).2 h.2⟩

theorem zip_ev (k : Int) : ∀ (a b : List Int), b.length = a.length → (List.zipWith (fun e p => (⟨e, k, p⟩ : Entry)) a b).map (·.event) = a
  | [], [], _ => rfl
  | [], _ :: _, h => by simp at h
  | _ :: _, [], h => by simp at h
  | x :: a, y :: b, h => by simp only [List.zipWith_cons_cons, List.map_cons]; rw [zip_ev k a b (by simpa using h)]
theorem zip_pt (k : Int) : ∀ (a b : List Int), b.length = a.length → (List.zipWith (fun e p => (⟨e, k, p⟩ : Entry)) a b).map (·.points) = b
  | [], [], _ => rfl
  | [], _ :: _, h => by simp at h
  | _ :: _, [], h => by simp at h
  | x :: a, y :: b, h => by simp only [List.zipWith_cons_cons, List.map_cons]; rw [zip_pt k a b (by simpa using h)]
theorem lineEs_ev {x : Line} (h : lineN x) : (lineEs x).map (·.event) = x.events := zip_ev x.skater x.events x.points h.1
theorem lineEs_pt {x : Line} (h : lineN x) : (lineEs x).map (·.points) = x.points := zip_pt x.skater x.events x.points h.1
theorem lineEs_ne {x : Line} (h : lineN x) : lineEs x ≠ [] := fun e => by
  have := lineEs_len h
  rw [e] at this
  exact h.2 (List.eq_nil_of_length_eq_zero this.symm)
theorem line_ext {x y : Line} (hx : lineN x) (hy : lineN y) (hs : x.skater = y.skater) (h : lineEs x = lineEs y) : x = y := by
  have h1 := lineEs_ev hx; have h2 := lineEs_pt hx
  rw [h, lineEs_ev hy] at h1
  rw [h, lineEs_pt hy] at h2
  cases x; cases y
  simp only at hs h1 h2
  subst hs h1 h2
  rfl
theorem flat_sk {ls : List Line} {e : Entry} (h : e ∈ flat ls) : ∃ x ∈ ls, e ∈ lineEs x ∧ e.skater = x.skater := by
  obtain ⟨x, hx, he⟩ := List.mem_flatMap.1 h
  exact ⟨x, hx, he, lineEs_sk he⟩
theorem filt_head {x : Line} {ls : List Line} (h : (x :: ls).Pairwise (fun a b => a.skater < b.skater)) : (lineEs x ++ flat ls).filter (fun e => decide (e.skater = x.skater)) = lineEs x := by
  rw [List.filter_append, List.filter_eq_self.2 (fun e he => by simpa using lineEs_sk he), List.filter_eq_nil_iff.2, List.append_nil]
  intro e he
  obtain ⟨y, hy, _, hs⟩ := flat_sk he
  have := (List.pairwise_cons.1 h).1 y hy
  simp only [decide_eq_true_eq]; omega
theorem lines_inj : ∀ {l m : List Line}, LinesOk l → LinesOk m → flat l = flat m → l = m
  | [], [], _, _, _ => rfl
  | [], y :: m, _, hm, h => by
    have := lineEs_ne (hm.1 y (by simp))
    simp only [flat, List.flatMap_nil, List.flatMap_cons] at h
    exact absurd (List.append_eq_nil_iff.1 h.symm).1 this
  | x :: l, [], hl, _, h => by
    have := lineEs_ne (hl.1 x (by simp))
    simp only [flat, List.flatMap_nil, List.flatMap_cons] at h
    exact absurd (List.append_eq_nil_iff.1 h).1 this
  | x :: l, y :: m, hl, hm, h => by
    have hx := hl.1 x (by simp); have hy := hm.1 y (by simp)
    simp only [flat, List.flatMap_cons] at h
    have hs : x.skater = y.skater := by
      cases h1 : lineEs x with
      | nil => exact absurd h1 (lineEs_ne hx)
      | cons e r =>
        cases h2 : lineEs y with
        | nil => exact absurd h2 (lineEs_ne hy)
        | cons e' r' =>
          rw [h1, h2] at h
          simp only [List.cons_append, List.cons.injEq] at h
          have g1 : e.skater = x.skater := lineEs_sk (by rw [h1]; simp)
          have g2 : e'.skater = y.skater := lineEs_sk (by rw [h2]; simp)
          rw [← g1, ← g2, h.1]
    have e1 := filt_head hl.2
    have e2 := filt_head hm.2
    have h' : lineEs x ++ flat l = lineEs y ++ flat m := h
    rw [h', hs, e2] at e1
    have hxy := line_ext hx hy hs e1.symm
    subst hxy
    rw [lines_inj (l := l) (m := m) ⟨fun z hz => hl.1 z (by simp [hz]), (List.pairwise_cons.1 hl.2).2⟩ ⟨fun z hz => hm.1 z (by simp [hz]), (List.pairwise_cons.1 hm.2).2⟩ (List.append_cancel_left h')]

theorem flat_lines_le {ls : List Line} (h : ∀ x ∈ ls, lineN x) : ls.length ≤ (flat ls).length := by
  unfold flat
  rw [flat_len_lines h]
  induction ls with
  | nil => simp
  | cons y l ih =>
    have := List.length_pos_iff.2 (h y (by simp)).2
    have := ih (fun x hx => h x (by simp [hx]))
    simp only [List.map_cons, List.sum_cons, List.length_cons]; omega
theorem line_le_flat {ls : List Line} (h : ∀ x ∈ ls, lineN x) {x : Line} (hx : x ∈ ls) : x.events.length ≤ (flat ls).length := by
  unfold flat
  rw [flat_len_lines h]
  exact le_sum hx (fun x => x.events.length)

theorem set_end {α : Type} (q : List α) (x y : α) {n : Nat} (h : n = q.length) : (q ++ [x]).set n y = q ++ [y] := by
  subst h; simp [List.set_append]
theorem fresh_l (best : Int) : ∀ (ys : List Entry) (k : Nat) (ls : List Line), LinesOk ls → (flat ls ++ ys).Pairwise ltE → (flat ls ++ ys).length ≤ 1048576 →
    ∃ ls', impl_freshSeason_l1 best ys k ls = some ⟨best, ls'⟩ ∧ LinesOk ls' ∧ flat ls' = flat ls ++ ys := by
  intro ys
  induction ys with
  | nil => intro k ls h1 h2 h3; exact ⟨ls, by rw [impl_freshSeason_l1], h1, by simp⟩
  | cons y ys ih =>
    intro k ls h1 h2 h3
    have hll := flat_lines_le h1.1
    have hcut : (flat ls ++ [y]).Pairwise ltE := h2.sublist ((List.Sublist.refl (flat ls)).append ((List.nil_sublist ys).cons_cons y))
    rw [List.length_append, List.length_cons] at h3
    rw [impl_freshSeason_l1]
    have hle : ∀ x ∈ ls, x.skater ≤ y.skater := by
      intro x hx
      obtain ⟨e, he⟩ := List.exists_mem_of_ne_nil _ (lineEs_ne (h1.1 x hx))
      have h4 := (List.pairwise_append.1 hcut).2.2 e (List.mem_flatMap.2 ⟨x, hx, he⟩) y (by simp)
      have h5 := lineEs_sk he
      unfold ltE at h4; omega
    have new : (∀ x ∈ ls, x.skater < y.skater) → ∃ ls', ((need (fitsB 56 (ls.length + ([(Line.mk y.skater [] [])]).length))).bind fun u46 =>
        (getI (ls ++ [(Line.mk y.skater [] [])]) (w64 ((w64 ((ls.length : Int) - 1)) + 1))).bind fun x48 =>
        (need (fitsB 8 (x48.events.length + ([y.event]).length))).bind fun u50 =>
        (getI ((ls ++ [(Line.mk y.skater [] [])]).set ((w64 ((w64 ((ls.length : Int) - 1)) + 1)).toNat) (Line.mk x48.skater (x48.events ++ [y.event]) x48.points)) (w64 ((w64 ((ls.length : Int) - 1)) + 1))).bind fun x52 =>
        (need (fitsB 8 (x52.points.length + ([y.points]).length))).bind fun u54 =>
        impl_freshSeason_l1 best ys (k + 1) (((ls ++ [(Line.mk y.skater [] [])]).set ((w64 ((w64 ((ls.length : Int) - 1)) + 1)).toNat) (Line.mk x48.skater (x48.events ++ [y.event]) x48.points)).set ((w64 ((w64 ((ls.length : Int) - 1)) + 1)).toNat) (Line.mk x52.skater x52.events (x52.points ++ [y.points])))) = some ⟨best, ls'⟩ ∧ LinesOk ls' ∧ flat ls' = flat ls ++ y :: ys := by
      intro hlt
      have hw : w64 (w64 ((ls.length : Int) - 1) + 1) = (ls.length : Int) := by rw [w64_in (n := (ls.length : Int) - 1) (by omega), w64_in (by omega)]; omega
      rw [hw, bnd (x := ()) (by rw [fits_of (by simp; omega)]; rfl), bnd (getI_pre ls _ [] rfl), Int.toNat_natCast]
      dsimp only
      rw [bnd (x := ()) (by rw [fits_of (by simp)]; rfl), set_end _ _ _ rfl, bnd (getI_pre ls _ [] rfl), set_end _ _ _ rfl]
      dsimp only
      rw [bnd (x := ()) (by rw [fits_of (by simp)]; rfl)]
      have hf : flat (ls ++ [⟨y.skater, [] ++ [y.event], [] ++ [y.points]⟩]) = flat ls ++ [y] := by
        unfold flat; rw [List.flatMap_append]; cases y; rfl
      obtain ⟨ls', g1, g2, g3⟩ := ih (k + 1) (ls ++ [⟨y.skater, [] ++ [y.event], [] ++ [y.points]⟩]) ⟨by
          intro x hx
          rcases List.mem_append.1 hx with hx | hx
          · exact h1.1 x hx
          · obtain rfl := List.mem_singleton.1 hx; exact ⟨rfl, by simp⟩, by
          rw [List.pairwise_append]
          exact ⟨h1.2, List.pairwise_singleton _ _, fun a ha b hb => by obtain rfl := List.mem_singleton.1 hb; exact hlt a ha⟩⟩ (by rw [hf]; simpa using h2) (by rw [hf]; simp; omega)
      exact ⟨ls', g1, g2, by rw [g3, hf]; simp⟩
    rcases List.eq_nil_or_concat ls with rfl | ⟨q, x, rfl⟩
    · have : decide (w64 ((([] : List Line).length : Int) - 1) < 0) = true := rfl
      rw [this]
      simp only [Bool.not_true, opt_f, Option.bind_some, Bool.true_or, cond_true]
      exact new (by simp)
    · simp only [List.concat_eq_append] at *
      have hw : w64 (((q ++ [x]).length : Int) - 1) = (q.length : Int) := by simp at hll ⊢; rw [w64_in (by omega)]
      have hd : decide (w64 (((q ++ [x]).length : Int) - 1) < 0) = false := by rw [hw]; exact decide_eq_false (by omega)
      have hgx : getI (q ++ [x]) (q.length : Int) = some x := getI_pre q x [] rfl
      rw [hd]
      simp only [Bool.not_false, opt_t, Bool.false_or]
      rw [show getI (q ++ [x]) (w64 (((q ++ [x]).length : Int) - 1)) = some x from by rw [hw]; exact hgx]
      simp only [Option.bind_some]
      have hxN := h1.1 x (by simp)
      by_cases hs : x.skater = y.skater
      · rw [show (x.skater != y.skater) = false from by simp [hs], cond_false]
        have hxl := line_le_flat h1.1 (x := x) (by simp)
        have hpe := hxN.1
        rw [bnd (x := ()) (by rw [fits_of (by simp; omega)]; rfl), hw, Int.toNat_natCast, set_end _ _ _ rfl, bnd (getI_pre q _ [] rfl), set_end _ _ _ rfl]
        dsimp only
        rw [bnd (x := ()) (by rw [fits_of (by simp; omega)]; rfl)]
        have hf : flat (q ++ [⟨x.skater, x.events ++ [y.event], x.points ++ [y.points]⟩]) = flat (q ++ [x]) ++ [y] := by
          unfold flat
          rw [List.flatMap_append, List.flatMap_append, List.append_assoc]
          congr 1
          simp only [List.flatMap_cons, List.flatMap_nil, List.append_nil]
          unfold lineEs
          rw [List.zipWith_append (by exact hpe.symm)]
          cases y; simp at hs ⊢; exact hs
        obtain ⟨ls', g1, g2, g3⟩ := ih (k + 1) (q ++ [⟨x.skater, x.events ++ [y.event], x.points ++ [y.points]⟩]) ⟨by
            intro z hz
            rcases List.mem_append.1 hz with hz | hz
            · exact h1.1 z (by simp [hz])
            · obtain rfl := List.mem_singleton.1 hz; exact ⟨by simp [hpe], by simp⟩, by
            have := List.pairwise_append.1 h1.2
            rw [List.pairwise_append]
            exact ⟨this.1, List.pairwise_singleton _ _, fun a ha b hb => by obtain rfl := List.mem_singleton.1 hb; exact this.2.2 a ha x (by simp)⟩⟩ (by rw [hf]; simpa using h2) (by rw [hf]; simp at h3 ⊢; omega)
        exact ⟨ls', g1, g2, by rw [g3, hf]; simp⟩
      · rw [show (x.skater != y.skater) = true from by simpa using hs, cond_true]
        refine new fun z hz => ?_
        have hxle := hle x (by simp)
        rcases List.mem_append.1 hz with hz | hz
        · have := (List.pairwise_append.1 h1.2).2.2 z hz x (by simp); omega
        · obtain rfl := List.mem_singleton.1 hz; omega

theorem lt0_cmp {a b : Entry} (ha : entOk a) (hb : entOk b) : lt0 (fun a0 a1 => impl_compareEntries_p a0 a1) a b = decide (ltE a b) := by
  obtain ⟨c, h1, _, _, h2⟩ := cmpE ha hb
  unfold lt0
  simp only [h1, Option.getD_some, h2]
theorem goodF_cmp {l : List Entry} (h : GoodL l) (hl : l.length ≤ 1048576) : GoodF (fun a0 a1 => impl_compareEntries_p a0 a1) l where
  some x hx y hy := by obtain ⟨c, h1, _⟩ := cmpE (h.1 x hx) (h.1 y hy); simp [h1]
  irrefl x hx := by rw [lt0_cmp (h.1 x hx) (h.1 x hx)]; exact decide_eq_false (ltE_irr x)
  trans x hx y hy z hz h1 h2 := by
    rw [lt0_cmp (h.1 x hx) (h.1 y hy)] at h1; rw [lt0_cmp (h.1 y hy) (h.1 z hz)] at h2; rw [lt0_cmp (h.1 x hx) (h.1 z hz)]
    exact decide_eq_true (ltE_tr _ _ _ (of_decide_eq_true h1) (of_decide_eq_true h2))
  ntrans x hx y hy z hz h1 h2 := by
    rw [lt0_cmp (h.1 x hx) (h.1 y hy)] at h1; rw [lt0_cmp (h.1 y hy) (h.1 z hz)] at h2; rw [lt0_cmp (h.1 x hx) (h.1 z hz)]
    have h1 := of_decide_eq_false h1; have h2 := of_decide_eq_false h2
    refine decide_eq_false ?_
    unfold ltE at *; omega
  parts := List.Pairwise.imp_of_mem (fun {a b} ha hb hab => by
    rw [lt0_cmp (h.1 a ha) (h.1 b hb), lt0_cmp (h.1 b hb) (h.1 a ha)]
    exact (ltE_tot hab).imp decide_eq_true decide_eq_true) h.2
  len := by omega

theorem fresh_eq (best : Int) (l : List Entry) (h : GoodL l) (hl : l.length ≤ 1048576) : ∃ ls, impl_freshSeason_p best l = some ⟨best, ls⟩ ∧ LinesOk ls ∧ (flat ls).Perm l ∧ (flat ls).Pairwise ltE := by
  unfold impl_freshSeason_p slices_SortFunc_Entry_p
  have hG := goodF_cmp h hl
  rw [bnd (x := ()) (by rw [fits_of (by omega)]; rfl)]
  rw [show sortF (fun a0 a1 => impl_compareEntries_p a0 a1) l = some (mergeF (fun a0 a1 => impl_compareEntries_p a0 a1) l) from by unfold sortF; rw [if_pos hG]]
  simp only [Option.bind_some]
  have hp := mergeF_perm (fun a0 a1 => impl_compareEntries_p a0 a1) l
  have hs := hG.sorted
  generalize mergeF (fun a0 a1 => impl_compareEntries_p a0 a1) l = m at hp hs
  have hgm := h.perm hp
  have hsm : m.Pairwise ltE := by
    refine List.Pairwise.imp_of_mem (fun {a b} ha hb hab => ?_) (hs.and hgm.2)
    have h1 := hab.1
    rw [lt0_cmp (hgm.1 b hb) (hgm.1 a ha)] at h1
    exact (ltE_tot hab.2).resolve_right (of_decide_eq_false h1)
  obtain ⟨ls, g1, g2, g3⟩ := fresh_l best m 0 [] ⟨by simp, List.Pairwise.nil⟩ (by simpa [flat] using hsm) (by simp [flat, hp.length_eq]; omega)
  have g3 : flat ls = m := by rw [g3]; rfl
  exact ⟨ls, g1, g2, by rw [g3]; exact hp, by rw [g3]; exact hsm⟩

/-! the reference adds entries one by one -/
theorem seOwn_l (s : Season) : ∀ (ys : List Line) (k : Nat) (acc : List Line), (∀ x ∈ ys, x.events.length ≤ 1048576 ∧ x.points.length ≤ 1048576) → acc.length + ys.length ≤ 1048577 → spec_seOwn_l1 s ys k acc = some ⟨s.best, acc ++ ys⟩ := by
  intro ys
  induction ys with
  | nil => intro k acc _ _; rw [spec_seOwn_l1]; simp
  | cons y ys ih =>
    intro k acc h1 h2
    simp only [List.length_cons] at h2
    have hy := h1 y (by simp)
    rw [spec_seOwn_l1, bnd (own_eq _ (by omega)), bnd (own_eq _ (by omega)), bnd (x := ()) (by rw [fits_of (by simp; omega)]; rfl), ih (k + 1) _ (fun x hx => h1 x (by simp [hx])) (by simp; omega)]
    simp
theorem seOwn_eq (s : Season) (h1 : ∀ x ∈ s.lines, x.events.length ≤ 1048576 ∧ x.points.length ≤ 1048576) (h2 : s.lines.length ≤ 1048577) : spec_seOwn_p s = some s := by
  unfold spec_seOwn_p
  rw [seOwn_l s s.lines 0 [] h1 (by simpa using h2)]
  simp


end Go.Proofs.Ytekdnjnefbkikaa
