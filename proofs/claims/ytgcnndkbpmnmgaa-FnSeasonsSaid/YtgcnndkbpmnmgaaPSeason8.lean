/- Plain lemmas: what the functions compute is what the reference says, in plain Lean. No condition. -/
import Derived.Test.YtgcnndkbpmnmgaaPSeason7
set_option maxRecDepth 4000
set_option maxHeartbeats 1000000
set_option linter.unusedVariables false
set_option linter.unusedSimpArgs false
set_option linter.unusedSectionVars false

namespace Go.Proofs.Ytgcnndkbpmnmgaa
open Go.AM

def FreshOf (best : Int) (l : List Entry) (s : Season) : Prop := s.best = best ∧ LinesOk s.lines ∧ (flat s.lines).Pairwise ltE ∧ (flat s.lines).Perm l
theorem FreshOf.uniq {best : Int} {l : List Entry} {s t : Season} (h : FreshOf best l s) (k : FreshOf best l t) : s = t := by
  have h1 := lines_inj h.2.1 k.2.1 (sorted_uniq h.2.2.1 k.2.2.1 (h.2.2.2.trans k.2.2.2.symm))
  cases s; cases t
  have a := h.1; have b := k.1
  simp only at a b h1
  subst a b h1; rfl
theorem impl_fresh_of (best : Int) (l : List Entry) (h : GoodL l) (hl : l.length ≤ 1048576) : ∃ s, impl_freshSeason_p best l = some s ∧ FreshOf best l s := by
  obtain ⟨ls, h1, h2, h3, h4⟩ := fresh_eq best l h hl
  exact ⟨_, h1, rfl, h2, h4, h3⟩
theorem spec_add_of (best : Int) (l : List Entry) (s : Season) (e : Entry) (h : FreshOf best l s) (hn : ∀ z ∈ l, ¬ sameE z e) (hl : l.length < 1048576) (fuel : Nat) (hf : 1048576 < fuel) : ∃ s', spec_seAdd_p fuel s e = some s' ∧ FreshOf best (e :: l) s' := by
  obtain ⟨b, ls⟩ := s
  obtain ⟨h1, h2, h3, h4⟩ := h
  simp only at h1 h2 h3 h4
  subst h1
  obtain ⟨ls', g1, g2, g3, g4⟩ := seAdd_eq b ls e h2 h3 (fun z hz => hn z (h4.mem_iff.1 hz)) (by rw [h4.length_eq]; exact hl) fuel hf
  exact ⟨_, g1, rfl, g2, g3, g4.trans (h4.cons e)⟩
theorem fresh_nil (best : Int) : FreshOf best [] ⟨best, []⟩ := ⟨rfl, ⟨by simp, List.Pairwise.nil⟩, List.Pairwise.nil, List.Perm.refl _⟩
theorem spec_seOf_l (best : Int) (fuel : Nat) (hf : 1048576 < fuel) : ∀ (ys pre : List Entry) (k : Nat) (s : Season), FreshOf best pre s → GoodL (pre ++ ys) → (pre ++ ys).length ≤ 1048576 →
    ∃ s', spec_seOf_l1 fuel ys k s.best s.lines = some s' ∧ FreshOf best (pre ++ ys) s' := by
  intro ys
  induction ys with
  | nil => intro pre k s h1 _ _; refine ⟨s, by rw [spec_seOf_l1], by simpa using h1⟩
  | cons y ys ih =>
    intro pre k s h1 h2 h3
    rw [spec_seOf_l1]
    have hn : ∀ z ∈ pre, ¬ sameE z y := fun z hz => (List.pairwise_append.1 h2.2).2.2 z hz y (by simp)
    obtain ⟨s', g1, g2⟩ := spec_add_of best pre s y h1 hn (by simp at h3; omega) fuel hf
    rw [show (Season.mk s.best s.lines) = s from rfl, bnd g1]
    have hp : (y :: pre).Perm (pre ++ [y]) := by simpa using (List.perm_append_comm (l₁ := [y]) (l₂ := pre))
    have := ih (pre ++ [y]) (k + 1) s' ⟨g2.1, g2.2.1, g2.2.2.1, g2.2.2.2.trans hp⟩ (by simpa using h2) (by simpa using h3)
    simpa using this
theorem spec_seOf_of (best : Int) (l : List Entry) (h : GoodL l) (hl : l.length ≤ 1048576) (fuel : Nat) (hf : 1048576 < fuel) : ∃ s, spec_seOf_p fuel best l = some s ∧ FreshOf best l s := by
  unfold spec_seOf_p
  exact spec_seOf_l best fuel hf l [] 0 ⟨best, []⟩ (fresh_nil best) (by simpa using h) (by simpa using hl)
theorem spec_Fresh_l (best : Int) (fuel : Nat) (hf : 1048576 < fuel) : ∀ (ys pre : List Entry) (k : Nat) (s : Season), FreshOf best pre s → GoodL (pre ++ ys) → (pre ++ ys).length ≤ 1048576 →
    ∃ s', spec_FreshSeason_l1 fuel ys k s.best s.lines = some (s', true) ∧ FreshOf best (pre ++ ys) s' := by
  intro ys
  induction ys with
  | nil => intro pre k s h1 _ _; refine ⟨s, by rw [spec_FreshSeason_l1], by simpa using h1⟩
  | cons y ys ih =>
    intro pre k s h1 h2 h3
    rw [spec_FreshSeason_l1]
    have hn : ∀ z ∈ pre, ¬ sameE z y := fun z hz => (List.pairwise_append.1 h2.2).2.2 z hz y (by simp)
    obtain ⟨s', g1, g2⟩ := spec_add_of best pre s y h1 hn (by simp at h3; omega) fuel hf
    rw [show (Season.mk s.best s.lines) = s from rfl, bnd g1]
    have hp : (y :: pre).Perm (pre ++ [y]) := by simpa using (List.perm_append_comm (l₁ := [y]) (l₂ := pre))
    have := ih (pre ++ [y]) (k + 1) s' ⟨g2.1, g2.2.1, g2.2.2.1, g2.2.2.2.trans hp⟩ (by simpa using h2) (by simpa using h3)
    simpa using this
theorem fresh_size {best : Int} {l : List Entry} {s : Season} (h : FreshOf best l s) : nSeason s ≤ 3 * l.length := by
  have h1 := flat_lines_le h.2.1.1
  have h2 := h.2.2.2.length_eq
  have h3 : (flat s.lines).length = (s.lines.map fun x => x.events.length).sum := by unfold flat; exact flat_len_lines h.2.1.1
  have key : ∀ ls : List Line, (∀ x ∈ ls, lineN x) → (ls.map fun x => nLine x).sum = 2 * (ls.map fun x => x.events.length).sum := by
    intro ls hl
    induction ls with
    | nil => rfl
    | cons y l ih =>
      have := (hl y (by simp)).1
      have := ih (fun x hx => hl x (by simp [hx]))
      simp only [List.map_cons, List.sum_cons]
      unfold nLine nIntS at *; omega
  have := key s.lines h.2.1.1
  unfold nSeason nLineS
  omega
theorem fresh_ok {best : Int} {l : List Entry} {s : Season} (h : FreshOf best l s) (hg : GoodL l) : SeasonOk s ↔ ((1 ≤ best ∧ best ≤ 9) ∧ l.length ≤ 80) := by
  have hgf := hg.perm h.2.2.2
  have hl := h.2.2.2.length_eq
  have hb := h.1
  unfold SeasonOk
  change _ ∧ _ ∧ _ ∧ GoodE (flat s.lines) ∧ (flat s.lines).length ≤ 80 ↔ _
  rw [hb, hl]
  exact ⟨fun k => ⟨k.1, k.2.2.2.2⟩, fun k => ⟨k.1, h.2.1.1, h.2.1.2, ⟨hgf.1, h.2.2.1, hgf.2⟩, k.2⟩⟩
theorem season_fresh {s : Season} (h : SeasonOk s) : FreshOf s.best (seasonEs s) s := ⟨rfl, ⟨h.2.1, h.2.2.1⟩, h.2.2.2.1.2.1, List.Perm.refl _⟩
theorem season_good {s : Season} (h : SeasonOk s) : GoodL (seasonEs s) := ⟨h.2.2.2.1.1, h.2.2.2.1.2.2⟩
theorem seEntries_l2 (y : Entry) : ∀ (zs : List Entry) (k : Nat), (∃ x ∈ zs, sameE x y) ∧ spec_seEntries_l2 y zs k = some (.error false) ∨ (∀ x ∈ zs, ¬ sameE x y) ∧ spec_seEntries_l2 y zs k = some (.ok ()) := by
  intro zs
  induction zs with
  | nil => intro k; right; exact ⟨by simp, by rw [spec_seEntries_l2]⟩
  | cons z zs ih =>
    intro k
    rw [spec_seEntries_l2]
    by_cases h : sameE z y
    · left
      rw [show (z.event == y.event && z.skater == y.skater) = true from by simp [h.1, h.2], cond_true]
      exact ⟨⟨z, by simp, h⟩, rfl⟩
    · rw [show (z.event == y.event && z.skater == y.skater) = false from by
        unfold sameE at h; rw [Bool.and_eq_false_iff]; by_cases h1 : z.event = y.event
        · right; simpa using fun h2 => h ⟨h1, h2⟩
        · left; simpa using h1, cond_false]
      rcases ih (k + 1) with ⟨⟨x, hx, hs⟩, g⟩ | ⟨g1, g2⟩
      · left; exact ⟨⟨x, by simp [hx], hs⟩, g⟩
      · right; refine ⟨fun x hx => ?_, g2⟩
        rcases List.mem_cons.1 hx with rfl | hx
        · exact h
        · exact g1 x hx
theorem ret_seEntries_l (l : List Entry) (hb : l.length ≤ 1048576) : ∀ (ys pre : List Entry), l = pre ++ ys → (∀ e ∈ pre, entOk e) → pre.Pairwise (fun a b => ¬ sameE a b) → Ret (spec_seEntries_l1 l ys pre.length) (Ents l) := by
  intro ys
  induction ys with
  | nil =>
    intro pre h1 h2 h3
    rw [spec_seEntries_l1]
    rw [List.append_nil] at h1
    subst h1
    refine .some ?_
    unfold Ents
    simp only [decide_eq_true_eq]
    exact ⟨fun h => ⟨h2, h3, by omega⟩, fun h => by have := h.2.2; omega⟩
  | cons y ys ih =>
    intro pre h1 h2 h3
    rw [spec_seEntries_l1]
    have hy : y ∈ l := by rw [h1]; simp
    obtain ⟨b, e1, e2⟩ := ret_seEntry y
    rw [bnd (x := b) e1]
    cases b
    · simp only [Bool.not_false, cond_true, Option.bind_some, flow]
      refine .f fun h => ?_
      have := e2.2 (h.1 y hy)
      simp at this
    · have hok := e2.1 rfl
      simp only [Bool.not_true, cond_false]
      rw [bnd (show sliceHi l (pre.length : Int) = some pre from by rw [h1]; exact sliceHi_pre pre (y :: ys) rfl)]
      rcases seEntries_l2 y pre 0 with ⟨⟨x, hx, hs⟩, g⟩ | ⟨g1, g2⟩
      · rw [bnd g]
        simp only [flow]
        refine .f fun h => ?_
        have := h.2.1
        rw [h1] at this
        exact (List.pairwise_append.1 this).2.2 x hx y (by simp) hs
      · rw [bnd g2]
        simp only [flow]
        have := ih (pre ++ [y]) (by rw [h1]; simp) (by
          intro e he; rcases List.mem_append.1 he with h | h
          · exact h2 e h
          · obtain rfl := List.mem_singleton.1 h; exact hok) (by
          rw [List.pairwise_append]
          exact ⟨h3, List.pairwise_singleton _ _, fun a ha b hb => by obtain rfl := List.mem_singleton.1 hb; exact g1 a ha⟩)
        simpa using this
theorem ret_seEntries (l : List Entry) (hb : l.length ≤ 1048576) : Ret (spec_seEntries_p l) (Ents l) := ret_seEntries_l l hb l [] rfl (by simp) (by simp)
theorem same_FreshSeason (best : Int) (l : List Entry) (hb : l.length ≤ 1048576) (fuel : Nat) (hf : 1048576 < fuel) :
    ∃ r : Season × Bool, spec_FreshSeason_p fuel best l = some r ∧ impl_FreshSeason_p best l = some r ∧ nSeason r.1 ≤ 240 := by
  unfold spec_FreshSeason_p impl_FreshSeason_p
  obtain ⟨b, e1, e2⟩ := ret_l1In best 1 9
  obtain ⟨b', f1, f2⟩ := ret_isBest best
  obtain rfl : b = b' := Bool.eq_iff_iff.2 (e2.trans f2.symm)
  rw [bnd e1, bnd f1]
  cases b
  · exact ⟨_, rfl, rfl, by decide⟩
  simp only [Bool.not_true, Bool.not_false, opt_t, Bool.false_or]
  obtain ⟨b, g1, g2⟩ := ret_seEntries l hb
  obtain ⟨b', k1, k2⟩ := ret_AreEntries l hb
  obtain rfl : b = b' := Bool.eq_iff_iff.2 (g2.trans k2.symm)
  rw [bnd g1, bnd k1]
  cases b
  · exact ⟨_, rfl, rfl, by decide⟩
  simp only [Bool.not_true, cond_false]
  have hE := g2.1 rfl
  obtain ⟨s, m1, m2⟩ := impl_fresh_of best l hE.goodL hb
  obtain ⟨s', n1, n2⟩ := spec_Fresh_l best fuel hf l [] 0 ⟨best, []⟩ (fresh_nil best) (by simpa using hE.goodL) (by simpa using hb)
  obtain rfl := m2.uniq n2
  rw [bnd m1]
  refine ⟨_, n1, rfl, ?_⟩
  have := fresh_size m2
  have := hE.2.2
  show nSeason s ≤ 240
  omega
theorem same_AddEntry (s : Season) (hb : nSeason s ≤ 1048576) (e : Entry) (fuel : Nat) (hf : 1048576 < fuel) :
    ∃ r : Season × Bool, spec_AddEntry_p fuel s e = some r ∧ impl_AddEntry_p fuel s e = some r ∧ nSeason r.1 ≤ 240 := by
  unfold spec_AddEntry_p impl_AddEntry_p
  obtain ⟨b, g1, g2⟩ := ret_seGood s hb
  obtain ⟨b', g1', g2'⟩ := ret_impl_IsSeason s hb fuel hf
  obtain rfl : b = b' := Bool.eq_iff_iff.2 (g2.trans g2'.symm)
  rw [bnd g1, bnd g1']
  cases b
  · exact ⟨_, rfl, rfl, by decide⟩
  have hok := g2.1 rfl
  have hlen := hok.2.2.2.2
  simp only [Bool.not_true, Bool.not_false, opt_t, Bool.false_or, cond_false]
  rw [bnd (entriesOf_eq s hb (fun x hx => (hok.2.1 x hx).1)), bnd (x := ()) (by rw [fits_of (by simp; omega)]; rfl)]
  obtain ⟨a, a1, a2⟩ := ret_AreEntries (seasonEs s ++ [e]) (by simp; omega)
  obtain ⟨b, b1, b2⟩ := ret_seEntry e
  rw [bnd a1, bnd b1]
  have hgood := season_good hok
  have hfr := season_fresh hok
  have hiff : Ents (seasonEs s ++ [e]) ↔ entOk e ∧ (∀ z ∈ seasonEs s, ¬ sameE z e) ∧ (seasonEs s).length + 1 ≤ 80 := by
    unfold Ents
    rw [List.pairwise_append]
    constructor
    · intro h; exact ⟨h.1 e (by simp), fun z hz => h.2.1.2.2 z hz e (by simp), by simpa using h.2.2⟩
    · intro h
      refine ⟨fun x hx => ?_, ⟨hgood.2, List.pairwise_singleton _ _, fun x hx y hy => by obtain rfl := List.mem_singleton.1 hy; exact h.2.1 x hx⟩, by simpa using h.2.2⟩
      rcases List.mem_append.1 hx with hx | hx
      · exact hgood.1 x hx
      · obtain rfl := List.mem_singleton.1 hx; exact h.1
  have nope : ¬ Ents (seasonEs s ++ [e]) → a = false := fun h => by
    cases a
    · rfl
    · exact absurd (a2.1 rfl) h
  cases b
  · have : ¬ entOk e := fun h => by have := b2.2 h; simp at this
    rw [nope fun h => this (hiff.1 h).1]
    exact ⟨_, rfl, rfl, by decide⟩
  have heok := b2.1 rfl
  simp only [Bool.not_true, cond_false]
  have fin : (∀ z ∈ seasonEs s, ¬ sameE z e) → ∃ r : Season × Bool, ((spec_seAdd_p fuel s e).bind fun x11 =>
      (spec_seGood_p x11).bind fun x13 =>
      cond (!x13)
        (some ((Season.mk 0 []), false))
        (some (x11, true))) = some r ∧ (cond (!a) (some ((Season.mk 0 []), false)) ((impl_freshSeason_p s.best (seasonEs s ++ [e])).bind fun x9 => some (x9, true))) = some r ∧ nSeason r.1 ≤ 240 := by
    intro hns
    obtain ⟨s', m1, m2⟩ := spec_add_of s.best (seasonEs s) s e hfr hns (by omega) fuel hf
    have hgl : GoodL (seasonEs s ++ [e]) := by
      refine ⟨fun x hx => ?_, ?_⟩
      · rcases List.mem_append.1 hx with hx | hx
        · exact hgood.1 x hx
        · obtain rfl := List.mem_singleton.1 hx; exact heok
      · rw [List.pairwise_append]
        exact ⟨hgood.2, List.pairwise_singleton _ _, fun x hx y hy => by obtain rfl := List.mem_singleton.1 hy; exact hns x hx⟩
    have hpm : (e :: seasonEs s).Perm (seasonEs s ++ [e]) := by simpa using (List.perm_append_comm (l₁ := [e]) (l₂ := seasonEs s))
    have m3 : FreshOf s.best (seasonEs s ++ [e]) s' := ⟨m2.1, m2.2.1, m2.2.2.1, m2.2.2.2.trans hpm⟩
    have hsz := fresh_size m3
    rw [List.length_append, List.length_singleton] at hsz
    obtain ⟨c, c1, c2⟩ := ret_seGood s' (by omega)
    rw [bnd m1, bnd c1]
    have hc := c2.trans (fresh_ok m3 hgl)
    rw [List.length_append, List.length_singleton] at hc
    cases c
    · have : ¬ Ents (seasonEs s ++ [e]) := fun h => by
        have := hc.2 ⟨hok.1, (hiff.1 h).2.2⟩
        simp at this
      rw [nope this]
      exact ⟨_, rfl, rfl, by decide⟩
    · have := (hc.1 rfl).2
      have hE : Ents (seasonEs s ++ [e]) := hiff.2 ⟨heok, hns, this⟩
      rw [a2.2 hE]
      obtain ⟨t, t1, t2⟩ := impl_fresh_of s.best _ hgl (by simp; omega)
      obtain rfl := t2.uniq m3
      rw [bnd t1]
      exact ⟨_, rfl, rfl, by show nSeason t ≤ 240; omega⟩
  rcases seHas_eq s e.skater (by have := lines_len hok; omega) hok.2.2.1 fuel hf with ⟨k, x, q1, q2, q3, _, _⟩ | ⟨q1, _, q3⟩
  · rw [bnd q1]
    rw [show decide ((k : Int) ≥ 0) = true from decide_eq_true (by omega)]
    simp only [opt_t, Bool.true_and]
    rw [bnd (show getI s.lines (k : Int) = some x from by rw [getI_nat]; exact q2)]
    have hxm : x ∈ s.lines := List.mem_of_getElem? q2
    have hxN := hok.2.1 x hxm
    obtain ⟨d, d1, d2⟩ := ret_l1Has x.events e.event
    rw [bnd d1]
    cases d
    · simp only [cond_false]
      have hnot : e.event ∉ x.events := fun h => by have := d2.2 h; simp at this
      refine fin fun z hz hsame => hnot ?_
      obtain ⟨y, hy, hze⟩ := List.mem_flatMap.1 hz
      have hzs := lineEs_sk hze
      have : y = x := by
        have hys : y.skater = x.skater := by rw [← hzs, hsame.2, q3]
        obtain ⟨i, hi, rfl⟩ := List.getElem_of_mem hy
        obtain ⟨j, hj, rfl⟩ := List.getElem_of_mem hxm
        rcases Nat.lt_trichotomy i j with h | h | h
        · have := List.pairwise_iff_getElem.1 hok.2.2.1 i j hi hj h; omega
        · subst h; rfl
        · have := List.pairwise_iff_getElem.1 hok.2.2.1 j i hj hi h; omega
      subst this
      rw [← hsame.1, ← lineEs_ev hxN]
      exact List.mem_map.2 ⟨z, hze, rfl⟩
    · simp only [cond_true]
      have hin := d2.1 rfl
      rw [← lineEs_ev hxN] at hin
      obtain ⟨z, hz, hze⟩ := List.mem_map.1 hin
      have : ¬ Ents (seasonEs s ++ [e]) := fun h => (hiff.1 h).2.1 z (List.mem_flatMap.2 ⟨x, hxm, hz⟩) ⟨hze, by rw [lineEs_sk hz, q3]⟩
      rw [nope this]
      exact ⟨_, rfl, rfl, by decide⟩
  · rw [bnd q1]
    rw [show decide ((-1 : Int) ≥ 0) = false from rfl]
    simp only [opt_f, Option.bind_some, Bool.false_and, cond_false]
    refine fin fun z hz hsame => ?_
    obtain ⟨y, hy, hze⟩ := List.mem_flatMap.1 hz
    exact q3 y hy (by rw [← lineEs_sk hze, hsame.2])
theorem indexF (f : Entry → Option Bool) (p : Entry → Bool) : ∀ (l : List Entry) (k : Nat), (∀ x ∈ l, f x = some (p x)) →
    (slices_IndexFunc_Entry_l1 f l k = some (-1) ∧ ∀ x ∈ l, p x = false) ∨ ∃ pre y post, l = pre ++ y :: post ∧ (∀ x ∈ pre, p x = false) ∧ p y = true ∧ slices_IndexFunc_Entry_l1 f l k = some ((k + pre.length : Nat) : Int) := by
  intro l
  induction l with
  | nil => intro k _; left; exact ⟨by rw [slices_IndexFunc_Entry_l1], by simp⟩
  | cons y l ih =>
    intro k h
    rw [slices_IndexFunc_Entry_l1, bnd (h y (by simp))]
    cases hy : p y
    · rw [cond_false]
      rcases ih (k + 1) (fun x hx => h x (by simp [hx])) with ⟨g1, g2⟩ | ⟨pre, z, post, rfl, g2, g3, g4⟩
      · left; refine ⟨g1, fun x hx => ?_⟩
        rcases List.mem_cons.1 hx with rfl | hx
        · exact hy
        · exact g2 x hx
      · right; refine ⟨y :: pre, z, post, rfl, fun x hx => ?_, g3, ?_⟩
        · rcases List.mem_cons.1 hx with rfl | hx
          · exact hy
          · exact g2 x hx
        · rw [g4, List.length_cons]; congr 1; omega
    · right; exact ⟨[], y, l, rfl, by simp, hy, by rw [cond_true]; rfl⟩
theorem deleteF_l (f : Entry → Option Bool) (p : Entry → Bool) : ∀ (rest W M : List Entry) (fuel : Nat), rest.length < fuel → M ≠ [] → (∀ x ∈ rest, f x = some (p x)) → (W ++ M ++ rest).length ≤ 1048576 →
    slices_DeleteFunc_Entry_l1 f fuel (W ++ M ++ rest) (W.length : Int) ((W.length + M.length : Nat) : Int) = some (W ++ rest.filter (fun x => !p x)) := by
  intro rest
  induction rest with
  | nil =>
    intro W M fuel hf hM h hl
    obtain ⟨f, rfl⟩ := Nat.exists_eq_succ_of_ne_zero (by omega : fuel ≠ 0)
    rw [slices_DeleteFunc_Entry_l1, List.append_nil]
    have hlen : (W ++ M).length = W.length + M.length := List.length_append
    rw [decide_eq_false (by rw [hlen]; omega), cond_false]
    have i1 : inB (W.length : Int) ((W ++ M).length : Int) ((W ++ M).length : Int) = true := by
      simp only [inB, Bool.and_eq_true, decide_eq_true_eq]; omega
    rw [i1, Int.toNat_natCast]
    have e1 : (List.take W.length (W ++ M) ++ List.replicate ((W ++ M).length - W.length) (Entry.mk 0 0 0) ++ List.drop (W.length + ((W ++ M).length - W.length)) (W ++ M)) = W ++ List.replicate M.length (Entry.mk 0 0 0) := by
      rw [hlen]; simp
    rw [e1]
    have i2 : inB 0 (W.length : Int) ((W ++ List.replicate M.length (Entry.mk 0 0 0)).length : Int) = true := by
      simp only [inB, Bool.and_eq_true, decide_eq_true_eq]; simp; omega
    rw [i2]
    simp [need]
  | cons y rest ih =>
    intro W M fuel hf hM h hl
    obtain ⟨f', rfl⟩ := Nat.exists_eq_succ_of_ne_zero (by simp at hf; omega : fuel ≠ 0)
    rw [slices_DeleteFunc_Entry_l1]
    simp only [List.length_append, List.length_cons] at hl hf
    rw [decide_eq_true (by simp only [List.length_append, List.length_cons]; omega), cond_true, bnd (getI_pre (W ++ M) y rest (by simp)), bnd (h y (by simp)), w64_in (n := ((W.length + M.length : Nat) : Int) + 1) (by omega)]
    cases hy : p y
    · simp only [Bool.not_false, cond_true]
      obtain ⟨m, M', rfl⟩ := List.exists_cons_of_ne_nil hM
      have e0 : W ++ m :: M' ++ y :: rest = W ++ m :: (M' ++ y :: rest) := by simp
      rw [e0, bnd (getI_pre W m _ rfl), w64_in (by omega)]
      have e1 : (W ++ m :: (M' ++ y :: rest)).set ((W.length : Int)).toNat y = (W ++ [y]) ++ (M' ++ [y]) ++ rest := by simp [List.set_append]
      rw [e1]
      have := ih (W ++ [y]) (M' ++ [y]) f' (by omega) (by simp) (fun x hx => h x (by simp [hx])) (by simp at hl ⊢; omega)
      simp only [List.length_append, List.length_cons, List.length_nil] at this ⊢
      rw [show ((W.length : Int) + 1) = ((W.length + (0 + 1) : Nat) : Int) from by omega, show (((W.length + (M'.length + 1) : Nat) : Int) + 1) = ((W.length + (0 + 1) + (M'.length + (0 + 1)) : Nat) : Int) from by omega, this]
      simp [hy]
    · simp only [Bool.not_true, cond_false]
      have := ih W (M ++ [y]) f' (by omega) (by simp) (fun x hx => h x (by simp [hx])) (by simp at hl ⊢; omega)
      simp only [List.length_append, List.length_cons, List.length_nil] at this
      rw [show W ++ M ++ y :: rest = W ++ (M ++ [y]) ++ rest from by simp, show (((W.length + M.length : Nat) : Int) + 1) = ((W.length + (M.length + (0 + 1)) : Nat) : Int) from by omega, this]
      simp [hy]
theorem deleteF_eq (f : Entry → Option Bool) (p : Entry → Bool) (l : List Entry) (h : ∀ x ∈ l, f x = some (p x)) (hl : l.length ≤ 1048576) (fuel : Nat) (hf : 1048576 < fuel) : slices_DeleteFunc_Entry_p fuel l f = some (l.filter fun x => !p x) := by
  unfold slices_DeleteFunc_Entry_p slices_IndexFunc_Entry_p
  rcases indexF f p l 0 h with ⟨g1, g2⟩ | ⟨pre, y, post, rfl, g2, g3, g4⟩
  · rw [bnd g1]
    rw [show ((-1 : Int) == -1) = true from rfl, cond_true, List.filter_eq_self.2 (fun x hx => by rw [g2 x hx]; rfl)]
  · rw [bnd g4, Nat.zero_add]
    rw [show (((pre.length : Nat) : Int) == -1) = false from by simp, cond_false, w64_in (by simp at hl; omega)]
    have := deleteF_l f p post pre [y] fuel (by simp at hl; omega) (by simp) (fun x hx => h x (by simp [hx])) (by simpa using hl)
    simp only [List.length_singleton] at this
    rw [show pre ++ y :: post = pre ++ [y] ++ post from by simp, show ((pre.length : Int) + 1) = ((pre.length + 1 : Nat) : Int) from by omega, this]
    rw [List.filter_append, List.filter_append, List.filter_eq_self (l := pre) |>.2 (fun x hx => by rw [g2 x hx]; rfl)]
    simp [g3]
theorem GoodL.filter {l : List Entry} (h : GoodL l) (p : Entry → Bool) : GoodL (l.filter p) := ⟨fun e he => h.1 e (List.mem_filter.1 he).1, h.2.sublist List.filter_sublist⟩
theorem dropEntries_of (s : Season) (hb : nSeason s ≤ 1048576) (hok : SeasonOk s) (f : Entry → Option Bool) (p : Entry → Bool) (h : ∀ x, f x = some (p x)) (fuel : Nat) (hf : 1048576 < fuel) :
    ∃ t, impl_dropEntries_p fuel s f = some t ∧ FreshOf s.best ((seasonEs s).filter fun x => !p x) t := by
  unfold impl_dropEntries_p
  have hlen := hok.2.2.2.2
  rw [bnd (entriesOf_eq s hb (fun x hx => (hok.2.1 x hx).1)), bnd (deleteF_eq f p _ (fun x _ => h x) (by omega) fuel hf)]
  obtain ⟨t, t1, t2⟩ := impl_fresh_of s.best _ ((season_good hok).filter fun x => !p x) (by have := List.length_filter_le (fun x => !p x) (seasonEs s); omega)
  rw [bnd t1]
  exact ⟨t, rfl, t2⟩
theorem dropEvent_l (s : Season) (ev : Int) (fuel : Nat) : ∀ (ys : List Entry) (k : Nat) (acc : List Entry), acc.length + ys.length ≤ 1048576 → spec_DropEvent_l1 s ev fuel ys k acc = (spec_seOf_p fuel s.best (acc ++ ys.filter fun x => !(x.event == ev))).bind fun x20 => some (x20, true) := by
  intro ys
  induction ys with
  | nil => intro k acc _; rw [spec_DropEvent_l1]; simp
  | cons y ys ih =>
    intro k acc h
    simp only [List.length_cons] at h
    rw [spec_DropEvent_l1]
    by_cases hy : y.event = ev
    · rw [show (y.event != ev) = false from by simp [hy], cond_false, ih (k + 1) acc (by omega)]
      simp [hy]
    · rw [show (y.event != ev) = true from by simpa using hy, cond_true, bnd (x := ()) (by rw [fits_of (by simp; omega)]; rfl), ih (k + 1) _ (by simp; omega)]
      simp [hy]
theorem same_DropEvent (s : Season) (hb : nSeason s ≤ 1048576) (ev : Int) (fuel : Nat) (hf : 1048576 < fuel) :
    ∃ r : Season × Bool, spec_DropEvent_p fuel s ev = some r ∧ impl_DropEvent_p fuel s ev = some r ∧ nSeason r.1 ≤ 240 := by
  unfold spec_DropEvent_p impl_DropEvent_p
  obtain ⟨b, g1, g2⟩ := ret_seGood s hb
  obtain ⟨b', g1', g2'⟩ := ret_impl_IsSeason s hb fuel hf
  obtain rfl : b = b' := Bool.eq_iff_iff.2 (g2.trans g2'.symm)
  rw [bnd g1, bnd g1']
  cases b
  · exact ⟨_, rfl, rfl, by decide⟩
  have hok := g2.1 rfl
  have hlen := hok.2.2.2.2
  simp only [Bool.not_true, Bool.not_false, opt_t, Bool.false_or]
  obtain ⟨b, e1, e2⟩ := ret_l1In ev 1 99
  obtain ⟨b', f1, f2⟩ := ret_isEvent ev
  obtain rfl : b = b' := Bool.eq_iff_iff.2 (e2.trans f2.symm)
  rw [bnd e1, bnd f1]
  cases b
  · exact ⟨_, rfl, rfl, by decide⟩
  simp only [Bool.not_true, cond_false]
  rw [bnd (seAll_eq s hb (fun x hx => (hok.2.1 x hx).1)), dropEvent_l s ev fuel _ 0 [] (by simp; omega), List.nil_append]
  have hfl := List.length_filter_le (fun x : Entry => !(x.event == ev)) (seasonEs s)
  obtain ⟨t, t1, t2⟩ := dropEntries_of s hb hok (fun a0 => impl_DropEvent_c1_p a0 ev) (fun x => x.event == ev) (fun x => rfl) fuel hf
  obtain ⟨u, u1, u2⟩ := spec_seOf_of s.best _ ((season_good hok).filter fun x => !(x.event == ev)) (by omega) fuel hf
  obtain rfl := t2.uniq u2
  rw [bnd t1, bnd u1]
  have := fresh_size t2
  exact ⟨_, rfl, rfl, by show nSeason t ≤ 240; omega⟩
theorem dropEntry_l (s : Season) (ev sk : Int) (fuel : Nat) (all : List Entry) : ∀ (ys : List Entry) (k : Nat) (acc : List Entry), acc.length + ys.length ≤ 1048576 → spec_DropEntry_l1 s ev sk fuel all ys k acc =
    cond (((acc ++ ys.filter fun x => !(x.event == ev && x.skater == sk)).length : Int) == (all.length : Int)) (some ((Season.mk 0 []), false)) ((spec_seOf_p fuel s.best (acc ++ ys.filter fun x => !(x.event == ev && x.skater == sk))).bind fun x20 => some (x20, true)) := by
  intro ys
  induction ys with
  | nil => intro k acc _; rw [spec_DropEntry_l1]; simp
  | cons y ys ih =>
    intro k acc h
    simp only [List.length_cons] at h
    rw [spec_DropEntry_l1]
    have hb : (y.event != ev || y.skater != sk) = !(y.event == ev && y.skater == sk) := by simp [bne, Bool.not_and]
    rw [hb]
    cases hc : (y.event == ev && y.skater == sk)
    · rw [Bool.not_false, cond_true, bnd (x := ()) (by rw [fits_of (by simp; omega)]; rfl), ih (k + 1) _ (by simp; omega)]
      simp only [List.filter_cons, hc, Bool.not_false, if_true, List.append_assoc, List.singleton_append]
    · rw [Bool.not_true, cond_false, ih (k + 1) acc (by omega)]
      simp only [List.filter_cons, hc, Bool.not_true, Bool.false_eq_true, if_false]
theorem same_DropEntry (s : Season) (hb : nSeason s ≤ 1048576) (ev sk : Int) (fuel : Nat) (hf : 1048576 < fuel) :
    ∃ r : Season × Bool, spec_DropEntry_p fuel s ev sk = some r ∧ impl_DropEntry_p fuel s ev sk = some r ∧ nSeason r.1 ≤ 240 := by
  unfold spec_DropEntry_p impl_DropEntry_p
  obtain ⟨b, g1, g2⟩ := ret_seGood s hb
  obtain ⟨b', g1', g2'⟩ := ret_impl_IsSeason s hb fuel hf
  obtain rfl : b = b' := Bool.eq_iff_iff.2 (g2.trans g2'.symm)
  rw [bnd g1, bnd g1']
  cases b
  · exact ⟨_, rfl, rfl, by decide⟩
  have hok := g2.1 rfl
  have hlen := hok.2.2.2.2
  simp only [Bool.not_true, cond_false]
  have hall : ∀ x ∈ s.lines, x.points.length = x.events.length := fun x hx => (hok.2.1 x hx).1
  rw [bnd (seAll_eq s hb hall), bnd (entriesOf_eq s hb hall), dropEntry_l s ev sk fuel _ _ 0 [] (by simp; omega), List.nil_append]
  have hfl := List.length_filter_le (fun x : Entry => !(x.event == ev && x.skater == sk)) (seasonEs s)
  obtain ⟨c, c1, c2⟩ := ret_ContainsFunc (seasonEs s) (fun a0 => impl_DropEntry_c1_p a0 ev sk) (fun x => (x.event == ev && x.skater == sk) = true) (fun x _ => .some Iff.rfl)
  rw [bnd c1]
  cases c
  · have : ∀ x ∈ seasonEs s, (!(x.event == ev && x.skater == sk)) = true := fun x hx => by
      cases hc : (x.event == ev && x.skater == sk)
      · rfl
      · have := c2.2 ⟨x, hx, hc⟩; simp at this
    rw [List.filter_eq_self.2 this]
    simp only [beq_self_eq_true, cond_true, Bool.not_false]
    exact ⟨_, rfl, rfl, by decide⟩
  · obtain ⟨x, hx, hxc⟩ := c2.1 rfl
    have hne : ((seasonEs s).filter fun x => !(x.event == ev && x.skater == sk)).length < (seasonEs s).length := by
      refine Nat.lt_of_le_of_ne hfl fun e => ?_
      have := (List.length_filter_eq_length_iff).1 e x hx
      rw [hxc] at this; simp at this
    rw [show ((((seasonEs s).filter fun x => !(x.event == ev && x.skater == sk)).length : Int) == ((seasonEs s).length : Int)) = false from beq_eq_false_iff_ne.2 (by omega)]
    simp only [Bool.not_true, cond_false]
    obtain ⟨t, t1, t2⟩ := dropEntries_of s hb hok (fun a0 => impl_DropEntry_c1_p a0 ev sk) (fun x => x.event == ev && x.skater == sk) (fun x => rfl) fuel hf
    obtain ⟨u, u1, u2⟩ := spec_seOf_of s.best _ ((season_good hok).filter fun x => !(x.event == ev && x.skater == sk)) (by omega) fuel hf
    obtain rfl := t2.uniq u2
    rw [bnd t1, bnd u1]
    have := fresh_size t2
    exact ⟨_, rfl, rfl, by show nSeason t ≤ 240; omega⟩

end Go.Proofs.Ytgcnndkbpmnmgaa
