/- Plain lemmas: what the functions compute is what the reference says, in plain Lean. No condition. -/
import Derived.Test.YtfgpeaiepfdemaaPSeason7
set_option maxRecDepth 4000
set_option linter.unusedVariables false
set_option linter.unusedSimpArgs false
set_option linter.unusedSectionVars false

namespace Go.Proofs.Ytfgpeaiepfdemaa
open Go.AM
/-! FreshSeason, AddEntry, DropEvent, DropEntry -/
def FreshOf (best : Int) (l : List Entry) (s : Season) : Prop := s.best = best ∧ LinesOk s.lines ∧ (flat s.lines).Pairwise ltE ∧ (flat s.lines).Perm l
theorem FreshOf.uniq {best : Int} {l : List Entry} {s t : Season} (h : FreshOf best l s) (k : FreshOf best l t) : s = t := by
  have h1 := lines_inj h.2.1 k.2.1 (sorted_uniq h.2.2.1 k.2.2.1 (h.2.2.2.trans k.2.2.2.symm))
  cases s; cases t
  have a := h.1; have b := k.1
  simp only at a b h1
  subst a b h1; rfl
theorem impl_fresh_of (best : Int) (l : List Entry) (h : GoodL l) (hl : l.length ≤ 1048576) : ∃ s, impl_freshSeason_p best l = some s ∧ FreshOf best l s := by
  obtain ⟨ls, h1, h2, h3, h4⟩ := fresh_eq best l h hl
  exact ⟨_, h1, rfl, h2, h4, h3⟩
theorem spec_add_of (best : Int) (l : List Entry) (s : Season) (e : Entry) (h : FreshOf best l s) (hn : ∀ z ∈ l, ¬ sameE z e) (hl : l.length < 1048576) (fuel : Nat) (hf : 1048576 < fuel) : ∃ s', spec_seAdd_p fuel s e = some s' ∧ FreshOf best (e :: l) s' := by
  obtain ⟨b, ls⟩ := s
  obtain ⟨h1, h2, h3, h4⟩ := h
  simp only at h1 h2 h3 h4
  subst h1
  obtain ⟨ls', g1, g2, g3, g4⟩ := seAdd_eq b ls e h2 h3 (fun z hz => hn z (h4.mem_iff.1 hz)) (by rw [h4.length_eq]; exact hl) fuel hf
  exact ⟨_, g1, rfl, g2, g3, g4.trans (h4.cons e)⟩
theorem fresh_nil (best : Int) : FreshOf best [] ⟨best, []⟩ := ⟨rfl, ⟨by simp, List.Pairwise.nil⟩, List.Pairwise.nil, List.Perm.refl _⟩
theorem spec_seOf_l (best : Int) (fuel : Nat) (hf : 1048576 < fuel) : ∀ (ys pre : List Entry) (k : Nat) (s : Season), FreshOf best pre s → GoodL (pre ++ ys) → (pre ++ ys).length ≤ 1048576 →
    ∃ s', spec_seOf_l1 fuel ys k s.best s.lines = some s' ∧ FreshOf best (pre ++ ys) s' := by
  intro ys
  induction ys with
  | nil => intro pre k s h1 _ _; refine ⟨s, by rw [spec_seOf_l1], by simpa using h1⟩
  | cons y ys ih =>
    intro pre k s h1 h2 h3
    rw [spec_seOf_l1]
    have hn : ∀ z ∈ pre, ¬ sameE z y := fun z hz => (List.pairwise_append.1 h2.2).2.2 z hz y (by simp)
    obtain ⟨s', g1, g2⟩ := spec_add_of best pre s y h1 hn (by simp at h3; omega) fuel hf
    rw [show (Season.mk s.best s.lines) = s from rfl, bnd g1]
    have hp : (y :: pre).Perm (pre ++ [y]) := by simpa using (List.perm_append_comm (l₁ := [y]) (l₂ := pre))
    have := ih (pre ++ [y]) (k + 1) s' ⟨g2.1, g2.2.1, g2.2.2.1, g2.2.2.2.trans hp⟩ (by simpa using h2) (by simpa using h3)
    simpa using this
theorem spec_seOf_of (best : Int) (l : List Entry) (h : GoodL l) (hl : l.length ≤ 1048576) (fuel : Nat) (hf : 1048576 < fuel) : ∃ s, spec_seOf_p fuel best l = some s ∧ FreshOf best l s := by
  unfold spec_seOf_p
  exact spec_seOf_l best fuel hf l [] 0 ⟨best, []⟩ (fresh_nil best) (by simpa using h) (by simpa using hl)
/-- a season's size -/
theorem fresh_size {best : Int} {l : List Entry} {s : Season} (h : FreshOf best l s) : nSeason s ≤ 3 * l.length := by
  have h1 := flat_lines_le h.2.1.1
  have h2 := h.2.2.2.length_eq
  have h3 : (flat s.lines).length = (s.lines.map fun x => x.events.length).sum := by unfold flat; exact flat_len_lines h.2.1.1
  have key : ∀ ls : List Line, (∀ x ∈ ls, lineN x) → (ls.map fun x => nLine x).sum = 2 * (ls.map fun x => x.events.length).sum := by
    intro ls hl
    induction ls with
    | nil => rfl
    | cons y l ih =>
      have := (hl y (by simp)).1
      have := ih (fun x hx => hl x (by simp [hx]))
      simp only [List.map_cons, List.sum_cons]
      unfold nLine nIntS at *; omega
  have := key s.lines h.2.1.1
  unfold nSeason nLineS
  omega
theorem season_good {s : Season} (h : SeasonOk s) : GoodL (seasonEs s) := ⟨h.2.2.2.1.1, h.2.2.2.1.2.2⟩

/-! DeleteFunc -/
theorem indexF (f : Entry → Option Bool) (p : Entry → Bool) : ∀ (l : List Entry) (k : Nat), (∀ x ∈ l, f x = some (p x)) →
    (slices_IndexFunc_Entry_l1 f l k = some (-1) ∧ ∀ x ∈ l, p x = false) ∨ ∃ pre y post, l = pre ++ y :: post ∧ (∀ x ∈ pre, p x = false) ∧ p y = true ∧ slices_IndexFunc_Entry_l1 f l k = some ((k + pre.length : Nat) : Int) := by
  intro l
  induction l with
  | nil => intro k _; left; exact ⟨by rw [slices_IndexFunc_Entry_l1], by simp⟩
  | cons y l ih =>
    intro k h
    rw [slices_IndexFunc_Entry_l1, bnd (h y (by simp))]
    cases hy : p y
    · rw [cond_false]
      rcases ih (k + 1) (fun x hx => h x (by simp [hx])) with ⟨g1, g2⟩ | ⟨pre, z, post, rfl, g2, g3, g4⟩
      · left; refine ⟨g1, fun x hx => ?_⟩
        rcases List.mem_cons.1 hx with rfl | hx
        · exact hy
        · exact g2 x hx
      · right; refine ⟨y :: pre, z, post, rfl, fun x hx => ?_, g3, ?_⟩
        · rcases List.mem_cons.1 hx with rfl | hx
          · exact hy
          · exact g2 x hx
        · rw [g4, List.length_cons]; congr 1; omega
    · right; exact ⟨[], y, l, rfl, by simp, hy, by rw [cond_true]; rfl⟩
theorem deleteF_l (f : Entry → Option Bool) (p : Entry → Bool) : ∀ (rest W M : List Entry) (fuel : Nat), rest.length < fuel → M ≠ [] → (∀ x ∈ rest, f x = some (p x)) → (W ++ M ++ rest).length ≤ 1048576 →
    slices_DeleteFunc_Entry_l1 f fuel (W ++ M ++ rest) (W.length : Int) ((W.length + M.length : Nat) : Int) = some (W ++ rest.filter (fun x => !p x)) := by
  intro rest
  induction rest with
  | nil =>
    intro W M fuel hf hM h hl
    obtain ⟨f, rfl⟩ := Nat.exists_eq_succ_of_ne_zero (by omega : fuel ≠ 0)
    rw [slices_DeleteFunc_Entry_l1, List.append_nil]
    have hlen : (W ++ M).length = W.length + M.length := List.length_append
    rw [decide_eq_false (by rw [hlen]; omega), cond_false]
    have i1 : inB (W.length : Int) ((W ++ M).length : Int) ((W ++ M).length : Int) = true := by
      simp only [inB, Bool.and_eq_true, decide_eq_true_eq]; omega
    rw [i1, Int.toNat_natCast]
    have e1 : (List.take W.length (W ++ M) ++ List.replicate ((W ++ M).length - W.length) (Entry.mk 0 0 0) ++ List.drop (W.length + ((W ++ M).length - W.length)) (W ++ M)) = W ++ List.replicate M.length (Entry.mk 0 0 0) := by
      rw [hlen]; simp
    rw [e1]
    have i2 : inB 0 (W.length : Int) ((W ++ List.replicate M.length (Entry.mk 0 0 0)).length : Int) = true := by
      simp only [inB, Bool.and_eq_true, decide_eq_true_eq]; simp; omega
    rw [i2]
    simp [need]
  | cons y rest ih =>
    intro W M fuel hf hM h hl
    obtain ⟨f', rfl⟩ := Nat.exists_eq_succ_of_ne_zero (by simp at hf; omega : fuel ≠ 0)
    rw [slices_DeleteFunc_Entry_l1]
    simp only [List.length_append, List.length_cons] at hl hf
    rw [decide_eq_true (by simp only [List.length_append, List.length_cons]; omega), cond_true, bnd (getI_pre (W ++ M) y rest (by simp)), bnd (h y (by simp)), w64_in (n := ((W.length + M.length : Nat) : Int) + 1) (by omega)]
    cases hy : p y
    · simp only [Bool.not_false, cond_true]
      obtain ⟨m, M', rfl⟩ := List.exists_cons_of_ne_nil hM
      have e0 : W ++ m :: M' ++ y :: rest = W ++ m :: (M' ++ y :: rest) := by simp
      rw [e0, bnd (getI_pre W m _ rfl), w64_in (by omega)]
      have e1 : (W ++ m :: (M' ++ y :: rest)).set ((W.length : Int)).toNat y = (W ++ [y]) ++ (M' ++ [y]) ++ rest := by simp [List.set_append]
      rw [e1]
      have := ih (W ++ [y]) (M' ++ [y]) f' (by omega) (by simp) (fun x hx => h x (by simp [hx])) (by simp at hl ⊢; omega)
      simp only [List.length_append, List.length_cons, List.length_nil] at this ⊢
      rw [show ((W.length : Int) + 1) = ((W.length + (0 + 1) : Nat) : Int) from by omega, show (((W.length + (M'.length + 1) : Nat) : Int) + 1) = ((W.length + (0 + 1) + (M'.length + (0 + 1)) : Nat) : Int) from by omega, this]
      simp [hy]
    · simp only [Bool.not_true, cond_false]
      have := ih W (M ++ [y]) f' (by omega) (by simp) (fun x hx => h x (by simp [hx])) (by simp at hl ⊢; omega)
      simp only [List.length_append, List.length_cons, List.length_nil] at this
      rw [show W ++ M ++ y :: rest = W ++ (M ++ [y]) ++ rest from by simp, show (((W.length + M.length : Nat) : Int) + 1) = ((W.length + (M.length + (0 + 1)) : Nat) : Int) from by omega, this]
      simp [hy]
theorem deleteF_eq (f : Entry → Option Bool) (p : Entry → Bool) (l : List Entry) (h : ∀ x ∈ l, f x = some (p x)) (hl : l.length ≤ 1048576) (fuel : Nat) (hf : 1048576 < fuel) : slices_DeleteFunc_Entry_p fuel l f = some (l.filter fun x => !p x) := by
  unfold slices_DeleteFunc_Entry_p slices_IndexFunc_Entry_p
  rcases indexF f p l 0 h with ⟨g1, g2⟩ | ⟨pre, y, post, rfl, g2, g3, g4⟩
  · rw [bnd g1]
    rw [show ((-1 : Int) == -1) = true from rfl, cond_true, List.filter_eq_self.2 (fun x hx => by rw [g2 x hx]; rfl)]
  · rw [bnd g4, Nat.zero_add]
    rw [show (((pre.length : Nat) : Int) == -1) = false from by simp, cond_false, w64_in (by simp at hl; omega)]
    have := deleteF_l f p post pre [y] fuel (by simp at hl; omega) (by simp) (fun x hx => h x (by simp [hx])) (by simpa using hl)
    simp only [List.length_singleton] at this
    rw [show pre ++ y :: post = pre ++ [y] ++ post from by simp, show ((pre.length : Int) + 1) = ((pre.length + 1 : Nat) : Int) from by omega, this]
    rw [List.filter_append, List.filter_append, List.filter_eq_self (l := pre) |>.2 (fun x hx => by rw [g2 x hx]; rfl)]
    simp [g3]
theorem GoodL.filter {l : List Entry} (h : GoodL l) (p : Entry → Bool) : GoodL (l.filter p) := ⟨fun e he => h.1 e (List.mem_filter.1 he).1, h.2.sublist List.filter_sublist⟩
theorem dropEntries_of (s : Season) (hb : nSeason s ≤ 1048576) (hok : SeasonOk s) (f : Entry → Option Bool) (p : Entry → Bool) (h : ∀ x, f x = some (p x)) (fuel : Nat) (hf : 1048576 < fuel) :
    ∃ t, impl_dropEntries_p fuel s f = some t ∧ FreshOf s.best ((seasonEs s).filter fun x => !p x) t := by
  unfold impl_dropEntries_p
  have hlen := hok.2.2.2.2
  rw [bnd (entriesOf_eq s hb (fun x hx => (hok.2.1 x hx).1)), bnd (deleteF_eq f p _ (fun x _ => h x) (by omega) fuel hf)]
  obtain ⟨t, t1, t2⟩ := impl_fresh_of s.best _ ((season_good hok).filter fun x => !p x) (by have := List.length_filter_le (fun x => !p x) (seasonEs s); omega)
  rw [bnd t1]
  exact ⟨t, rfl, t2⟩

theorem dropEntry_l (s : Season) (ev sk : Int) (fuel : Nat) (all : List Entry) : ∀ (ys : List Entry) (k : Nat) (acc : List Entry), acc.length + ys.length ≤ 1048576 → spec_DropEntry_l1 s ev sk fuel all ys k acc =
    cond (((acc ++ ys.filter fun x => !(x.event == ev && x.skater == sk)).length : Int) == (all.length : Int)) (some ((Season.mk 0 []), false)) ((spec_seOf_p fuel s.best (acc ++ ys.filter fun x => !(x.event == ev && x.skater == sk))).bind fun x20 => some (x20, true)) := by
  intro ys
  induction ys with
  | nil => intro k acc _; rw [spec_DropEntry_l1]; simp
  | cons y ys ih =>
    intro k acc h
    simp only [List.length_cons] at h
    rw [spec_DropEntry_l1]
    have hb : (y.event != ev || y.skater != sk) = !(y.event == ev && y.skater == sk) := by simp [bne, Bool.not_and]
    rw [hb]
    cases hc : (y.event == ev && y.skater == sk)
    · rw [Bool.not_false, cond_true, bnd (x := ()) (by rw [fits_of (by simp; omega)]; rfl), ih (k + 1) _ (by simp; omega)]
      simp only [List.filter_cons, hc, Bool.not_false, if_true, List.append_assoc, List.singleton_append]
    · rw [Bool.not_true, cond_false, ih (k + 1) acc (by omega)]
      simp only [List.filter_cons, hc, Bool.not_true, Bool.false_eq_true, if_false]
theorem same_DropEntry (s : Season) (hb : nSeason s ≤ 1048576) (ev sk : Int) (fuel : Nat) (hf : 1048576 < fuel) :
    ∃ r : Season × Bool, spec_DropEntry_p fuel s ev sk = some r ∧ impl_DropEntry_p fuel s ev sk = some r ∧ nSeason r.1 ≤ 240 := by
  unfold spec_DropEntry_p impl_DropEntry_p
  obtain ⟨b, g1, g2⟩ := ret_seGood s hb
  obtain ⟨b', g1', g2'⟩ := ret_impl_IsSeason s hb fuel hf
  obtain rfl : b = b' := Bool.eq_iff_iff.2 (g2.trans g2'.symm)
  rw [bnd g1, bnd g1']
  cases b
  · exact ⟨_, rfl, rfl, by decide⟩
  have hok := g2.1 rfl
  have hlen := hok.2.2.2.2
  simp only [Bool.not_true, cond_false]
  have hall : ∀ x ∈ s.lines, x.points.length = x.events.length := fun x hx => (hok.2.1 x hx).1
  rw [bnd (seAll_eq s hb hall), bnd (entriesOf_eq s hb hall), dropEntry_l s ev sk fuel _ _ 0 [] (by simp; omega), List.nil_append]
  have hfl := List.length_filter_le (fun x : Entry => !(x.event == ev && x.skater == sk)) (seasonEs s)
  obtain ⟨c, c1, c2⟩ := ret_ContainsFunc (seasonEs s) (fun a0 => impl_DropEntry_c1_p a0 ev sk) (fun x => (x.event == ev && x.skater == sk) = true) (fun x _ => .some Iff.rfl)
  rw [bnd c1]
  cases c
  · have : ∀ x ∈ seasonEs s, (!(x.event == ev && x.skater == sk)) = true := fun x hx => by
      cases hc : (x.event == ev && x.skater == sk)
      · rfl
      · have := c2.2 ⟨x, hx, hc⟩; simp at this
    rw [List.filter_eq_self.2 this]
    simp only [beq_self_eq_true, cond_true, Bool.not_false]
    exact ⟨_, rfl, rfl, by decide⟩
  · obtain ⟨x, hx, hxc⟩ := c2.1 rfl
    have hne : ((seasonEs s).filter fun x => !(x.event == ev && x.skater == sk)).length < (seasonEs s).length := by
      refine Nat.lt_of_le_of_ne hfl fun e => ?_
      have := (List.length_filter_eq_length_iff).1 e x hx
      rw [hxc] at this; simp at this
    rw [show ((((seasonEs s).filter fun x => !(x.event == ev && x.skater == sk)).length : Int) == ((seasonEs s).length : Int)) = false from beq_eq_false_iff_ne.2 (by omega)]
    simp only [Bool.not_true, cond_false]
    obtain ⟨t, t1, t2⟩ := dropEntries_of s hb hok (fun a0 => impl_DropEntry_c1_p a0 ev sk) (fun x => x.event == ev && x.skater == sk) (fun x => rfl) fuel hf
    obtain ⟨u, u1, u2⟩ := spec_seOf_of s.best _ ((season_good hok).filter fun x => !(x.event == ev && x.skater == sk)) (by omega) fuel hf
    obtain rfl := t2.uniq u2
    rw [bnd t1, bnd u1]
    have := fresh_size t2
    exact ⟨_, rfl, rfl, by show nSeason t ≤ 240; omega⟩

end Go.Proofs.Ytfgpeaiepfdemaa
