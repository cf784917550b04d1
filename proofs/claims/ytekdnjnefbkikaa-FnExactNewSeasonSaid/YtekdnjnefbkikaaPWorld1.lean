/- Plain lemmas: what the functions compute is what the reference says, in plain Lean. No condition. -/
import Derived.Test.YtekdnjnefbkikaaPSeason8
set_option maxRecDepth 4000
set_option maxHeartbeats 1000000
set_option linter.unusedVariables false
set_option linter.unusedSimpArgs false
set_option linter.unusedSectionVars false

namespace Go.Proofs.Ytekdnjnefbkikaa
open Go.AM
/-! worlds: IsWorld, SeasonParts, NewSeason, WorldTotal, AddToWorld -/
def WorldOk (w : World) : Prop := (∀ s ∈ w.seasons, SeasonOk s) ∧ (∀ n ∈ w.weights, 0 ≤ n ∧ n ≤ 100) ∧ w.weights.Pairwise (· ≥ ·) ∧ (1 ≤ w.seasons.length ∧ w.seasons.length ≤ 3) ∧ w.weights.length = w.seasons.length

theorem ret_wlGood_l2 (w : World) (hs : ∀ s ∈ w.seasons, SeasonOk s) (hl : w.weights.length ≤ 1048576) : ∀ (ys pre : List Int), w.weights = pre ++ ys → (∀ n ∈ pre, 0 ≤ n ∧ n ≤ 100) → pre.Pairwise (· ≥ ·) → Ret (spec_wlGood_l2 w ys pre.length) (WorldOk w) := by
  intro ys
  induction ys with
  | nil =>
    intro pre h1 h2 h3
    rw [List.append_nil] at h1
    rw [spec_wlGood_l2]
    refine (ret_l1In (w.seasons.length : Int) 1 3).bindR (fun h => .some ?_) (fun h => .f fun k => h ?_)
    · simp only [Bool.true_and, beq_iff_eq]
      unfold WorldOk
      rw [h1]
      exact ⟨fun k => ⟨hs, h2, h3, by omega, by omega⟩, fun k => by have := k.2.2.2.2; omega⟩
    · have := k.2.2.2.1; omega
  | cons y ys ih =>
    intro pre h1 h2 h3
    have hy : y ∈ w.weights := by rw [h1]; simp
    rw [spec_wlGood_l2]
    refine (ret_l1In y 0 100).bindR (fun h => ?_) (fun h => .f fun k => h (k.2.1 y hy))
    simp only [Bool.not_true, Bool.not_false, Bool.true_and, Bool.false_or]
    have fin : (∀ l, pre.getLast? = some l → l ≥ y) → Ret (spec_wlGood_l2 w ys (pre.length + 1)) (WorldOk w) := by
      intro hlast
      have := ih (pre ++ [y]) (by rw [h1]; simp) (by
        intro n hn; rcases List.mem_append.1 hn with hn | hn
        · exact h2 n hn
        · obtain rfl := List.mem_singleton.1 hn; exact h) (pw_snoc (R := fun a b : Int => a ≥ b) (fun a b c p q => by omega) h3 hlast)
      simpa using this
    rcases List.eq_nil_or_concat pre with rfl | ⟨q, z, rfl⟩
    · simp only [List.length_nil, zero_d, opt_f, Option.bind_some, Bool.false_and, cond_false]
      exact fin (by simp)
    · simp only [List.concat_eq_append] at *
      have hkl : (q ++ [z]).length = q.length + 1 := by simp
      have hq : q.length ≤ 1048576 := by rw [h1] at hl; simp at hl; omega
      rw [hkl] at fin ⊢
      simp only [pos_d, opt_t, Bool.true_and]
      rw [w64_pred (by omega), bnd (getI_app (pre := q) (y := z) (ys := y :: ys) (by rw [h1]; simp) rfl)]
      refine .dcond (fun hlt => .f fun k => ?_) (fun hlt => fin ?_)
      · have := k.2.2.1
        rw [h1] at this
        have := (List.pairwise_append.1 this).2.2 z (by simp) y (by simp)
        omega
      · intro l hl'; simp at hl'; subst hl'; omega
theorem ret_wlGood_l1 (w : World) (hb : nWorld w ≤ 1048576) : ∀ (ys pre : List Season), w.seasons = pre ++ ys → (∀ s ∈ pre, SeasonOk s) → Ret (spec_wlGood_l1 w ys pre.length) (WorldOk w) := by
  have hlw : w.weights.length ≤ 1048576 := by unfold nWorld nIntS at hb; omega
  have hns : ∀ s ∈ w.seasons, nSeason s ≤ 1048576 := fun s hs => by have := le_sum hs (fun x => nSeason x); unfold nWorld nSeasonS at hb; omega
  intro ys
  induction ys with
  | nil =>
    intro pre h1 h2
    rw [List.append_nil] at h1
    rw [spec_wlGood_l1]
    exact ret_wlGood_l2 w (by rw [h1]; exact h2) hlw w.weights [] rfl (by simp) List.Pairwise.nil
  | cons y ys ih =>
    intro pre h1 h2
    have hy : y ∈ w.seasons := by rw [h1]; simp
    rw [spec_wlGood_l1]
    refine (ret_seGood y (hns y hy)).bindR (fun h => ?_) (fun h => .f fun k => h (k.1 y hy))
    simp only [Bool.not_true, cond_false]
    have := ih (pre ++ [y]) (by rw [h1]; simp) (by
      intro n hn; rcases List.mem_append.1 hn with hn | hn
      · exact h2 n hn
      · obtain rfl := List.mem_singleton.1 hn; exact h)
    simpa using this
theorem ret_wlGood (w : World) (hb : nWorld w ≤ 1048576) : Ret (spec_wlGood_p w) (WorldOk w) := ret_wlGood_l1 w hb w.seasons [] rfl (by simp)

theorem ret_allWithin (lo hi : Int) : ∀ (l : List Int) (k : Nat), Ret (impl_allWithin_l1 lo hi l k) (∀ n ∈ l, lo ≤ n ∧ n ≤ hi) := by
  intro l
  induction l with
  | nil => intro k; rw [impl_allWithin_l1]; exact .t (by simp)
  | cons y l ih =>
    intro k
    rw [impl_allWithin_l1]
    refine (ret_within y lo hi).bindR (fun h => ?_) (fun h => .f fun q => h (q y (by simp)))
    simp only [Bool.not_true, cond_false]
    refine (ih (k + 1)).iff ⟨fun q n hn => ?_, fun q n hn => q n (by simp [hn])⟩
    rcases List.mem_cons.1 hn with rfl | hn
    · exact h
    · exact q n hn
theorem ret_IsWorld_l (w : World) (hb : nWorld w ≤ 1048576) (fuel : Nat) (hf : 1048576 < fuel) (h3 : 1 ≤ w.seasons.length ∧ w.seasons.length ≤ 3) (h4 : ∀ n ∈ w.weights, 0 ≤ n ∧ n ≤ 100) (h5 : w.weights.length = w.seasons.length) :
    ∀ (ys pre : List Season) (ns pn : List Int), w.seasons = pre ++ ys → w.weights = pn ++ ns → pn.length = pre.length → ns.length = ys.length → (∀ s ∈ pre, SeasonOk s) → pn.Pairwise (· ≥ ·) → Ret (impl_IsWorld_l1 w fuel ys pre.length) (WorldOk w) := by
  have hns : ∀ s ∈ w.seasons, nSeason s ≤ 1048576 := fun s hs => by have := le_sum hs (fun x => nSeason x); unfold nWorld nSeasonS at hb; omega
  intro ys
  induction ys with
  | nil =>
    intro pre ns pn h1 h2 g1 g2 g3 g4
    obtain rfl : ns = [] := List.eq_nil_of_length_eq_zero g2
    rw [List.append_nil] at h1 h2
    rw [impl_IsWorld_l1]
    exact .t ⟨by rw [h1]; exact g3, h4, by rw [h2]; exact g4, h3, h5⟩
  | cons y ys ih =>
    intro pre ns pn h1 h2 g1 g2 g3 g4
    cases ns with
    | nil => simp at g2
    | cons n ns =>
    have hy : y ∈ w.seasons := by rw [h1]; simp
    rw [impl_IsWorld_l1]
    refine (ret_impl_IsSeason y (hns y hy) fuel hf).bindR (fun h => ?_) (fun h => .f fun k => h (k.1 y hy))
    simp only [Bool.not_true, Bool.not_false, Bool.true_and, Bool.false_or]
    have fin : (∀ l, pn.getLast? = some l → l ≥ n) → Ret (impl_IsWorld_l1 w fuel ys (pre.length + 1)) (WorldOk w) := by
      intro hlast
      have := ih (pre ++ [y]) ns (pn ++ [n]) (by rw [h1]; simp) (by rw [h2]; simp) (by simp [g1]) (by simpa using g2) (by
        intro n hn; rcases List.mem_append.1 hn with hn | hn
        · exact g3 n hn
        · obtain rfl := List.mem_singleton.1 hn; exact h) (pw_snoc (R := fun a b : Int => a ≥ b) (fun a b c p q => by omega) g4 hlast)
      simpa using this
    rcases List.eq_nil_or_concat pn with rfl | ⟨q, z, rfl⟩
    · obtain rfl : pre = [] := List.eq_nil_of_length_eq_zero g1.symm
      simp only [List.length_nil, zero_d, opt_f, Option.bind_some, Bool.false_and, cond_false]
      exact fin (by simp)
    · simp only [List.concat_eq_append] at *
      have hkl : pre.length = q.length + 1 := by rw [← g1]; simp
      have hq : q.length ≤ 3 := by rw [h2] at h5; simp at h5; omega
      rw [hkl] at fin ⊢
      simp only [pos_d, opt_t, Bool.true_and]
      rw [bnd (getI_app h2 (by simp)), w64_pred (by omega), bnd (getI_app (pre := q) (y := z) (ys := n :: ns) (by rw [h2]; simp) rfl)]
      refine .dcond (fun hlt => .f fun k => ?_) (fun hlt => fin ?_)
      · have := k.2.2.1
        rw [h2] at this
        have := (List.pairwise_append.1 this).2.2 z (by simp) n (by simp)
        omega
      · intro l hl'; simp at hl'; subst hl'; omega
theorem ret_impl_IsWorld (w : World) (hb : nWorld w ≤ 1048576) (fuel : Nat) (hf : 1048576 < fuel) : Ret (impl_IsWorld_p fuel w) (WorldOk w) := by
  unfold impl_IsWorld_p
  refine (ret_within (w.seasons.length : Int) 1 3).bindR (fun h => ?_) (fun h => .f fun k => h ?_)
  · simp only [Bool.not_true, Bool.false_or]
    by_cases h5 : w.weights.length = w.seasons.length
    · rw [show ((w.weights.length : Int) != (w.seasons.length : Int)) = false from by simp [h5]]
      simp only [Bool.not_false, opt_t, Bool.false_or]
      refine (ret_allWithin 0 100 w.weights 0).bindR (fun h4 => ?_) (fun h4 => .f fun k => h4 k.2.1)
      simp only [Bool.not_true, cond_false]
      exact ret_IsWorld_l w hb fuel hf (by omega) h4 h5 w.seasons [] w.weights [] rfl rfl rfl h5 (by simp) List.Pairwise.nil
    · rw [show ((w.weights.length : Int) != (w.seasons.length : Int)) = true from by simpa using (by omega)]
      exact .f fun k => h5 k.2.2.2.2
  · have := k.2.2.2.1; omega
/-- both say whether it is a world -/
theorem both_world (w : World) (hb : nWorld w ≤ 1048576) (fuel : Nat) (hf : 1048576 < fuel) : (spec_wlGood_p w = some true ∧ impl_IsWorld_p fuel w = some true ∧ WorldOk w) ∨ (spec_wlGood_p w = some false ∧ impl_IsWorld_p fuel w = some false ∧ ¬ WorldOk w) := by
  obtain ⟨b, h1, h2⟩ := ret_wlGood w hb
  obtain ⟨b', h3, h4⟩ := ret_impl_IsWorld w hb fuel hf
  obtain rfl : b = b' := Bool.eq_iff_iff.2 (h2.trans h4.symm)
  cases b
  · right; exact ⟨h1, h3, fun h => by have := h2.2 h; simp at this⟩
  · left; exact ⟨h1, h3, h2.1 rfl⟩
theorem season_n {s : Season} (h : SeasonOk s) : nSeason s ≤ 240 := by have := fresh_size (season_fresh h); have := h.2.2.2.2; omega

/-! the parts of a total -/
/-! copies of seasons -/
theorem copySeason_eq (s : Season) (h : SeasonOk s) : impl_copySeason_p s = some s := by
  unfold impl_copySeason_p
  have hl := h.2.2.2.2
  rw [bnd (entriesOf_eq s (by have := season_n h; omega) (fun x hx => (h.2.1 x hx).1))]
  obtain ⟨t, t1, t2⟩ := impl_fresh_of s.best _ (season_good h) (by omega)
  obtain rfl := t2.uniq (season_fresh h)
  rw [bnd t1]
theorem seOwn_n (s : Season) (hb : nSeason s ≤ 1048576) : spec_seOwn_p s = some s := by
  have hev : ∀ x ∈ s.lines, nLine x ≤ 1048576 := fun x hx => by have := le_sum hx (fun x => nLine x); unfold nSeason nLineS at hb; omega
  refine seOwn_eq s (fun x hx => ?_) (by unfold nSeason nLineS at hb; omega)
  have := hev x hx
  unfold nLine nIntS at this; omega
theorem wlWith_l (x1 : List Int) : ∀ (ys : List Season) (k : Nat) (acc : List Season), (∀ s ∈ ys, nSeason s ≤ 1048576) → acc.length + ys.length ≤ 1048577 → spec_wlWith_l1 x1 ys k acc = some ⟨acc ++ ys, x1⟩ := by
  intro ys
  induction ys with
  | nil => intro k acc _ _; rw [spec_wlWith_l1]; simp
  | cons y ys ih =>
    intro k acc h1 h2
    simp only [List.length_cons] at h2
    rw [spec_wlWith_l1, bnd (seOwn_n y (h1 y (by simp))), bnd (x := ()) (by rw [fits_of (by simp; omega)]; rfl), ih (k + 1) _ (fun s hs => h1 s (by simp [hs])) (by simp; omega)]
    simp
theorem wlWith_eq (l : List Season) (ns : List Int) (h1 : ∀ s ∈ l, nSeason s ≤ 1048576) (h2 : l.length ≤ 1048577) (h3 : ns.length ≤ 1048577) : spec_wlWith_p l ns = some ⟨l, ns⟩ := by
  unfold spec_wlWith_p
  rw [bnd (own_eq ns h3), wlWith_l ns l 0 [] h1 (by simpa using h2)]
  simp
def nsEnd (w : World) (ns : List Int) (l : List Season) : Option (World × Bool) :=
  cond (decide ((w.seasons.length : Int) < 3)) ((getI w.weights (w64 ((w.weights.length : Int) - 1))).bind fun x26 => (need (fitsB 8 (ns.length + ([x26]).length))).bind fun _ => some ((World.mk l (ns ++ [x26])), true)) (some ((World.mk l ns), true))
theorem newSeason_l (w : World) (ns : List Int) (hn : ns.length ≤ 3) : ∀ (ys : List Season) (k : Nat) (acc : List Season), (∀ s ∈ ys, SeasonOk s) → acc.length + ys.length ≤ 10 → impl_NewSeason_l1 w ns ys k acc = nsEnd w ns (acc ++ ys) := by
  intro ys
  induction ys with
  | nil => intro k acc _ _; rw [impl_NewSeason_l1, List.append_nil]; rfl
  | cons y ys ih =>
    intro k acc h1 h2
    simp only [List.length_cons] at h2
    rw [impl_NewSeason_l1, bnd (copySeason_eq y (h1 y (by simp))), bnd (x := ()) (by rw [fits_of (by simp; omega)]; rfl), ih (k + 1) _ (fun s hs => h1 s (by simp [hs])) (by simp; omega)]
    simp only [List.append_assoc, List.singleton_append]
theorem nSeasonS_le {l : List Season} (h : ∀ s ∈ l, nSeason s ≤ 240) : nSeasonS l ≤ 241 * l.length := by
  unfold nSeasonS
  induction l with
  | nil => simp
  | cons y l ih =>
    have := h y (by simp)
    have := ih (fun s hs => h s (by simp [hs]))
    simp only [List.map_cons, List.sum_cons, List.length_cons]; omega
theorem same_NewSeason (w : World) (hb : nWorld w ≤ 1048576) (best : Int) (fuel : Nat) (hf : 1048576 < fuel) : ∃ r : World × Bool, spec_NewSeason_p w best = some r ∧ impl_NewSeason_p fuel w best = some r ∧ nWorld r.1 ≤ 1000 := by
  unfold spec_NewSeason_p impl_NewSeason_p
  rcases both_world w hb fuel hf with ⟨h1, h2, h3⟩ | ⟨h1, h2, h3⟩
  · rw [bnd h1, bnd h2]
    simp only [Bool.not_true, Bool.not_false, opt_t, Bool.false_or]
    obtain ⟨b, e1, e2⟩ := ret_l1In best 1 9
    obtain ⟨b', f1, f2⟩ := ret_isBest best
    obtain rfl : b = b' := Bool.eq_iff_iff.2 (e2.trans f2.symm)
    rw [bnd e1, bnd f1]
    cases b
    · exact ⟨_, rfl, rfl, by decide⟩
    · simp only [Bool.not_true, cond_false]
      have hl := h3.2.2.2.1; have hwl := h3.2.2.2.2
      rw [bnd (x := ()) (by rw [fits_of (by simp; omega)]; rfl), bnd (own_eq w.weights (by omega)), bnd (copyInts_eq w.weights (by omega))]
      have hn : ∀ s ∈ [Season.mk best []] ++ w.seasons, nSeason s ≤ 240 := by
        intro s hs; rcases List.mem_append.1 hs with hs | hs
        · obtain rfl := List.mem_singleton.1 hs; exact Nat.zero_le 240
        · exact season_n (h3.1 s hs)
      by_cases h : w.seasons.length = 3
      · rw [decide_eq_true (by simp [h]), cond_true, show min (w.seasons.length : Int) 2 = ((2 : Nat) : Int) from by rw [h]; rfl, bnd (sliceHi_of (i := 3) (k := 3) rfl (by rw [List.length_append, h]; exact Nat.le_add_left 3 1)), bnd (sliceHi_of (k := 2) rfl (by omega)),
          newSeason_l w w.weights (by omega) _ 0 _ (fun s hs => h3.1 s (List.mem_of_mem_take hs)) (by simp; omega)]
        unfold nsEnd
        rw [decide_eq_false (by omega), cond_false]
        have e : List.take 3 ([Season.mk best []] ++ w.seasons) = [Season.mk best []] ++ w.seasons.take 2 := rfl
        rw [e, bnd (wlWith_eq _ _ (fun s hs => by have := hn s (by rcases List.mem_append.1 hs with hs | hs; exact List.mem_append_left _ hs; exact List.mem_append_right _ (List.mem_of_mem_take hs)); omega) (by simp; omega) (by omega))]
        refine ⟨_, rfl, rfl, ?_⟩
        have := nSeasonS_le (l := [Season.mk best []] ++ w.seasons.take 2) (fun s hs => hn s (by rcases List.mem_append.1 hs with hs | hs; exact List.mem_append_left _ hs; exact List.mem_append_right _ (List.mem_of_mem_take hs)))
        simp only [List.length_append, List.length_take, List.length_cons, List.length_nil] at this
        unfold nWorld nIntS; dsimp only; omega
      · rw [decide_eq_false (by simp; omega), cond_false, w64_in (by omega)]
        have hlast : getI w.weights ((w.weights.length : Int) - 1) = some (w.weights[w.weights.length - 1]'(by omega)) := by
          rw [getI_of (k := w.weights.length - 1) (by omega)]; exact List.getElem?_eq_getElem _
        rw [bnd hlast, bnd (x := ()) (by rw [fits_of (by simp; omega)]; rfl), show min (w.seasons.length : Int) 2 = (w.seasons.length : Int) from by omega, bnd (sliceHi_of (k := w.seasons.length) rfl (Nat.le_refl _)), List.take_length,
          newSeason_l w w.weights (by omega) _ 0 _ h3.1 (by simp; omega)]
        unfold nsEnd
        rw [decide_eq_true (by omega), cond_true, w64_in (by omega), bnd hlast, bnd (x := ()) (by rw [fits_of (by simp; omega)]; rfl),
          bnd (wlWith_eq _ _ (fun s hs => by have := hn s hs; omega) (by simp; omega) (by simp; omega))]
        refine ⟨_, rfl, rfl, ?_⟩
        have := nSeasonS_le hn
        simp only [List.length_append, List.length_cons, List.length_nil] at this
        unfold nWorld nIntS; dsimp only; simp only [List.length_append, List.length_cons, List.length_nil]; omega
  · rw [bnd h1, bnd h2]
    exact ⟨_, rfl, rfl, by decide⟩


end Go.Proofs.Ytekdnjnefbkikaa
