/- Plain lemmas: what the functions compute is what the reference says, in plain Lean. No condition. -/
import Derived.Test.YtegdphhfimaieacGreatPPanel1
set_option maxRecDepth 4000
set_option maxHeartbeats 1000000
set_option linter.unusedVariables false
set_option linter.unusedSimpArgs false
set_option linter.unusedSectionVars false

namespace Go.Proofs.YtegdphhfimaieacGreat
open Go.AM

def eliP (clubs : List Int) (level : Int) (x : Official) : Bool := decide (x.club ∉ clubs) && decide (x.level ≥ level)
def eliK (clubs : List Int) (level : Int) (l : List Official) : List Int := sortI ((l.filter (eliP clubs level)).map fun x => x.number)
theorem eli_nodup {l : List Official} (h : l.Pairwise (fun a b => a.number ≠ b.number)) (p : Official → Bool) : ((l.filter p).map fun x => x.number).Nodup := nums_nodup (h.filter _)
theorem paEligible_l (clubs : List Int) (level : Int) (fuel : Nat) (hf : 1048576 < fuel) : ∀ (ys : List Official) (k : Nat) (acc : List Int), acc.Pairwise (· < ·) → acc.length + ys.length ≤ 999 →
    ∃ r, spec_paEligible_l1 clubs level fuel ys k acc = some r ∧ r.Pairwise (· < ·) ∧ (∀ x, x ∈ r ↔ x ∈ acc ∨ x ∈ (ys.filter (eliP clubs level)).map fun y => y.number) := by
  intro ys
  induction ys with
  | nil => intro k acc h _; exact ⟨acc, by rw [spec_paEligible_l1], h, by simp⟩
  | cons y ys ih =>
    intro k acc h hb
    simp only [List.length_cons] at hb
    obtain ⟨b, b1, b2⟩ := ret_l1Has clubs y.club
    have he : ((!b) && decide (y.level ≥ level)) = eliP clubs level y := by
      unfold eliP
      congr 1
      rw [Bool.eq_iff_iff, decide_eq_true_eq, Bool.not_eq_true', ← b2]; simp
    cases hp : eliP clubs level y
    · obtain ⟨r, r1, r2, r3⟩ := ih (k + 1) acc h (by omega)
      refine ⟨r, ?_, r2, fun x => ?_⟩
      · rw [spec_paEligible_l1, bnd b1, he, hp, cond_false, r1]
      · rw [r3, List.filter_cons_of_neg (by simp [hp])]
    · obtain ⟨g, g1, g2, g3, g4⟩ := put_eq acc y.number h (by omega) fuel hf
      obtain ⟨r, r1, r2, r3⟩ := ih (k + 1) g g2 (by omega)
      refine ⟨r, ?_, r2, fun x => ?_⟩
      · rw [spec_paEligible_l1, bnd b1, he, hp, cond_true, bnd g1, r1]
      · rw [r3, g3, List.filter_cons_of_pos (by simp [hp]), List.map_cons, List.mem_cons]; constructor
        · rintro ((a | a) | a)
          · exact .inl a
          · exact .inr (.inl a)
          · exact .inr (.inr a)
        · rintro (a | a | a)
          · exact .inl (.inl a)
          · exact .inl (.inr a)
          · exact .inr a
theorem paEligible_eq {l : List Official} (h : OffOk l) (clubs : List Int) (level : Int) (fuel : Nat) (hf : 1048576 < fuel) : spec_paEligible_p fuel l clubs level = some (eliK clubs level l) := by
  obtain ⟨r, r1, r2, r3⟩ := paEligible_l clubs level fuel hf l 0 [] List.Pairwise.nil (by have := h.2.2; simp; omega)
  rw [show spec_paEligible_p fuel l clubs level = some r from r1]
  congr 1
  exact sort_of r2 (eli_nodup h.2.1 _) (by intro x; rw [r3]; simp)
theorem eligible_l (clubs : List Int) (level : Int) : ∀ (ys : List Official) (k : Nat) (acc : List Int), acc.length + ys.length ≤ 1000 → impl_eligible_l1 clubs level ys k acc = some (sortI (acc ++ (ys.filter (eliP clubs level)).map fun y => y.number)) := by
  intro ys
  induction ys with
  | nil =>
    intro k acc h
    rw [impl_eligible_l1, bnd (slSort_eq _ (by omega))]; simp
  | cons y ys ih =>
    intro k acc hb
    simp only [List.length_cons] at hb
    obtain ⟨b, b1, b2⟩ := contains_eq clubs y.club
    have he : (decide (y.level ≥ level) && (!b)) = eliP clubs level y := by
      unfold eliP
      rw [Bool.and_comm]
      congr 1
      rw [Bool.eq_iff_iff, decide_eq_true_eq, Bool.not_eq_true', ← b2]; simp
    have hu : impl_eligible_l1 clubs level (y :: ys) k acc = cond (eliP clubs level y) (impl_eligible_l1 clubs level ys (k + 1) (acc ++ [y.number])) (impl_eligible_l1 clubs level ys (k + 1) acc) := by
      rw [impl_eligible_l1]
      by_cases hl : y.level ≥ level
      · rw [decide_eq_true hl] at he ⊢
        rw [opt_t, bnd b1, he, fits_of (by simp; omega), need_t, Option.bind_some]
      · rw [decide_eq_false hl] at he ⊢
        rw [opt_f, Option.bind_some, ← he, Bool.false_and, Bool.false_and, cond_false, cond_false]
    rw [hu]
    cases hp : eliP clubs level y
    · rw [cond_false, ih _ _ (by omega), List.filter_cons_of_neg (by simp [hp])]
    · rw [cond_true, ih _ _ (by simp; omega), List.filter_cons_of_pos (by simp [hp])]
      simp
theorem eligible_eq {l : List Official} (h : OffOk l) (clubs : List Int) (level : Int) : impl_eligible_p l clubs level = some (eliK clubs level l) := by
  have := eligible_l clubs level l 0 [] (by have := h.2.2; simp; omega)
  rw [List.nil_append] at this
  exact this
theorem eli_mem {l : List Official} {clubs : List Int} {level n : Int} (h : n ∈ eliK clubs level l) : ∃ x ∈ l, x.number = n := by
  have := (sortI_perm _).mem_iff.1 h
  obtain ⟨x, hx, e⟩ := List.mem_map.1 this
  exact ⟨x, (List.mem_filter.1 hx).1, e⟩
theorem eli_lt {l : List Official} (h : OffOk l) (clubs : List Int) (level : Int) : (eliK clubs level l).Pairwise (· < ·) := sortI_lt (eli_nodup h.2.1 _)
theorem eli_len {l : List Official} (h : OffOk l) (clubs : List Int) (level : Int) : (eliK clubs level l).length ≤ 24 := by
  unfold eliK
  rw [(sortI_perm _).length_eq, List.length_map]
  exact Nat.le_trans (List.length_filter_le _ _) h.2.2
def clubN (l : List Official) (n : Int) : Int := ((l.find? fun x => decide (x.number = n)).map fun x => x.club).getD 0
theorem clubOf_eq (n : Int) : ∀ (l : List Official) (k : Nat), impl_clubOf_l1 n l k = some (clubN l n) := by
  intro l
  induction l with
  | nil => intro k; rw [impl_clubOf_l1]; rfl
  | cons y l ih =>
    intro k
    rw [impl_clubOf_l1]
    by_cases h : y.number = n
    · rw [show (y.number == n) = true from by simpa using h, cond_true]
      unfold clubN; simp [h]
    · rw [show (y.number == n) = false from by simpa using h, cond_false, ih]
      unfold clubN; simp [h]
theorem paFind_l (L : List Official) (n : Int) : ∀ (ys pre : List Official), L = pre ++ ys → (∃ x ∈ ys, x.number = n) → ∃ i x, spec_paFind_l1 n ys pre.length = some i ∧ getI L i = some x ∧ x ∈ ys ∧ x.club = clubN ys n := by
  intro ys
  induction ys with
  | nil => intro pre _ h; obtain ⟨x, hx, _⟩ := h; simp at hx
  | cons y ys ih =>
    intro pre h1 h2
    rw [spec_paFind_l1]
    by_cases h : y.number = n
    · rw [show (y.number == n) = true from by simpa using h, cond_true]
      exact ⟨_, y, rfl, getI_app h1 rfl, by simp, by unfold clubN; simp [h]⟩
    · rw [show (y.number == n) = false from by simpa using h, cond_false]
      have hex : ∃ x ∈ ys, x.number = n := by
        obtain ⟨x, hx, e⟩ := h2
        rcases List.mem_cons.1 hx with rfl | hx
        · exact absurd e h
        · exact ⟨x, hx, e⟩
      obtain ⟨i, x, i1, i2, i3, i4⟩ := ih (pre ++ [y]) (by rw [h1]; simp) hex
      rw [show (pre ++ [y]).length = pre.length + 1 from by simp] at i1
      exact ⟨i, x, i1, i2, by simp [i3], by rw [i4]; unfold clubN; simp [h]⟩
theorem found_off {l : List Official} (h : OffOk l) {n : Int} (hn : ∃ x ∈ l, x.number = n) : ∃ i x, spec_paFind_p l n = some i ∧ getI l i = some x ∧ x.club = clubN l n ∧ 1 ≤ clubN l n ∧ clubN l n ≤ 20 := by
  obtain ⟨i, x, i1, i2, i3, i4⟩ := paFind_l l n l [] rfl hn
  have := (h.1 x i3).2.1
  exact ⟨i, x, i1, i2, i4, by omega, by omega⟩
theorem getI_at {l : List Int} {c : Int} {N : Nat} (hl : l.length = N) (hc : 0 ≤ c ∧ c < (N : Int)) : ∃ v, getI l c = some v ∧ l[c.toNat]? = some v := by
  have hlt : c.toNat < l.length := by omega
  refine ⟨l[c.toNat], ?_, List.getElem?_eq_getElem hlt⟩
  rw [getI_of (k := c.toNat) (by omega)]; exact List.getElem?_eq_getElem hlt
theorem up_conf {l : List Int} : UpOk l 1 20 ↔ UpOk l 0 (21 - 1) ∧ 0 ∉ l := by
  constructor
  · intro h
    exact ⟨⟨fun n hn => by have := h.1 n hn; omega, h.2⟩, fun k => by have := h.1 0 k; omega⟩
  · rintro ⟨h, h0⟩
    refine ⟨fun n hn => ?_, h.2⟩
    have := h.1 n hn
    have : n ≠ 0 := fun e => h0 (e ▸ hn)
    omega
theorem ret_areConflicts (l : List Int) (hl : l.length ≤ 1048576) : Ret (impl_areConflicts_p l) (UpOk l 1 20) := by
  unfold impl_areConflicts_p
  obtain ⟨b, h1, h2⟩ := ret_isIncreasing l 21 (by omega) hl
  rw [bnd h1]
  cases b
  · simp only [opt_f, Option.bind_some, Bool.false_and]
    exact .f fun k => by have := h2.2 (up_conf.1 k).1; simp at this
  · simp only [opt_t, Bool.true_and]
    obtain ⟨c, c1, c2⟩ := contains_eq l 0
    rw [bnd c1]
    refine .some ?_
    rw [Bool.not_eq_true', up_conf]
    cases c
    · simp only [true_iff]
      exact ⟨h2.1 rfl, fun k => by have := c2.2 k; simp at this⟩
    · simp only [Bool.true_eq_false, false_iff]
      exact fun k => k.2 (c2.1 rfl)
def AskOk (l : List Official) (clubs : List Int) (level : Int) : Prop := OffOk l ∧ UpOk clubs 1 20 ∧ (1 ≤ level ∧ level ≤ 3)
theorem ret_paAsked (l : List Official) (hl : l.length ≤ 1048576) (clubs : List Int) (hc : clubs.length ≤ 1048576) (level : Int) : Ret (spec_paAsked_p l clubs level) (AskOk l clubs level) := by
  unfold spec_paAsked_p
  obtain ⟨b, h1, h2⟩ := ret_paOfficials l hl
  rw [bnd h1]
  cases b
  · exact .f fun k => by have := h2.2 k.1; simp at this
  simp only [opt_t, Bool.true_and]
  obtain ⟨c, c1, c2⟩ := ret_l1Rising clubs 1 20 hc
  rw [bnd c1]
  cases c
  · exact .f fun k => by have := c2.2 k.2.1; simp at this
  simp only [opt_t, Bool.true_and]
  obtain ⟨d, d1, d2⟩ := ret_l1In level 1 3
  rw [bnd d1]
  exact .some (d2.trans ⟨fun k => ⟨h2.1 rfl, c2.1 rfl, k⟩, fun k => k.2.2⟩)
theorem ret_canPanel (l : List Official) (hl : l.length ≤ 1048576) (clubs : List Int) (hc : clubs.length ≤ 1048576) (level most : Int) : Ret (impl_canPanel_p l clubs level most) (AskOk l clubs level ∧ (1 ≤ most ∧ most ≤ 9)) := by
  unfold impl_canPanel_p
  obtain ⟨b, h1, h2⟩ := ret_AreOfficials l hl
  rw [bnd h1]
  cases b
  · exact .f fun k => by have := h2.2 k.1.1; simp at this
  simp only [opt_t, Bool.true_and]
  obtain ⟨c, c1, c2⟩ := ret_areConflicts clubs hc
  rw [bnd c1]
  cases c
  · exact .f fun k => by have := c2.2 k.1.2.1; simp at this
  simp only [opt_t, Bool.true_and]
  obtain ⟨d, d1, d2⟩ := ret_within level 1 3
  rw [bnd d1]
  cases d
  · exact .f fun k => by have := d2.2 k.1.2.2; simp at this
  simp only [opt_t, Bool.true_and]
  obtain ⟨e, e1, e2⟩ := ret_within most 1 9
  rw [bnd e1]
  exact .some (e2.trans ⟨fun k => ⟨⟨h2.1 rfl, c2.1 rfl, d2.1 rfl⟩, k⟩, fun k => k.2⟩)

end Go.Proofs.YtegdphhfimaieacGreat
