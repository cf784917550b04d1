/- Plain lemmas: what the functions compute is what the reference says, in plain Lean. No condition. -/
import Derived.Test.YtbclgnikhophlaaGreatPEvent4
set_option maxRecDepth 4000
set_option maxHeartbeats 1000000
set_option linter.unusedVariables false
set_option linter.unusedSimpArgs false
set_option linter.unusedSectionVars false

namespace Go.Proofs.YtbclgnikhophlaaGreat
open Go.AM

theorem copyInts_l (l : List Int) (h : l.length ≤ 1048576) : impl_copyInts_p l = some l := by
  unfold impl_copyInts_p; rw [fits_of (by omega), need_t, Option.bind_some]
theorem copyEvent_l (e : Event) (h1 : e.entrants.length ≤ 1048576) (h2 : e.gone.length ≤ 1048576) (h3 : e.order.length ≤ 1048576) : ∀ (ys : List Result) (k : Nat) (acc : List Result), acc.length + ys.length ≤ 1048576 → (∀ r ∈ ys, r.scores.length ≤ 1048576) →
    impl_copyEvent_l1 e ys k acc = some { e with results := acc ++ ys } := by
  intro ys
  induction ys with
  | nil =>
    intro k acc _ _
    rw [impl_copyEvent_l1, fits_of (by omega), need_t, Option.bind_some, bnd (copyInts_l _ h2), bnd (copyInts_l _ h3)]
    simp
  | cons y ys ih =>
    intro k acc h h'
    simp only [List.length_cons] at h
    rw [impl_copyEvent_l1, bnd (copyInts_l _ (h' y (by simp))), fits_of (by simp; omega), need_t, Option.bind_some, ih (k + 1) _ (by simp; omega) (fun r hr => h' r (by simp [hr]))]
    simp
theorem copyEvent_eq (e : Event) (hb : nEvent e ≤ 1048576) : impl_copyEvent_p e = some e := by
  obtain ⟨b1, b2, b3, b4, b5, b6⟩ := sizes_E hb
  exact copyEvent_l e b1 b2 b3 e.results 0 [] (by simpa using b4) b5
theorem evOwn_l (e : Event) : ∀ (ys : List Result) (k : Nat) (acc : List Result), acc.length + ys.length ≤ 1048576 → (∀ r ∈ ys, r.scores.length ≤ 1048576) →
    spec_evOwn_l1 e e.gone e.order ys k acc = some { e with results := acc ++ ys } := by
  intro ys
  induction ys with
  | nil => intro k acc _ _; rw [spec_evOwn_l1]; simp
  | cons y ys ih =>
    intro k acc h h'
    simp only [List.length_cons] at h
    rw [spec_evOwn_l1, bnd (own_l _ (h' y (by simp))), fits_of (by simp; omega), need_t, Option.bind_some, ih (k + 1) _ (by simp; omega) (fun r hr => h' r (by simp [hr]))]
    simp
theorem evOwn_eq (e : Event) (hb : nEvent e ≤ 1048576) : spec_evOwn_p e = some e := by
  obtain ⟨b1, b2, b3, b4, b5, b6⟩ := sizes_E hb
  unfold spec_evOwn_p
  rw [fits_of (by omega), need_t, Option.bind_some, bnd (own_l _ b2), bnd (own_l _ b3)]
  exact evOwn_l e e.results 0 [] (by simpa using b4) b5
theorem running (e : Event) (hb : nEvent e ≤ 1048576) (fuel : Nat) (hf : 1048576 < fuel) : (spec_evGood_p fuel e = some true ∧ impl_isRunning_p e = some (decide (e.segment < e.segments)) ∧ EvOk e) ∨ (spec_evGood_p fuel e = some false ∧ impl_isRunning_p e = some false) := by
  unfold impl_isRunning_p
  rcases both_event e hb fuel hf with ⟨h1, h2, h3⟩ | ⟨h1, h2⟩
  · left; rw [bnd h2]; exact ⟨h1, rfl, h3⟩
  · right; rw [bnd h2]; exact ⟨h1, rfl⟩
def noE : Event := Event.mk 0 0 0 [] [] 0 [] []
theorem asked (e : Event) (s : Step) (fuel : Nat) (hg : spec_evGood_p fuel e = some true) (hlt : e.segment < e.segments) : spec_evAsked_p fuel e s =
    cond (s.kind == 1) (spec_evEnter_p fuel e (Entrant.mk s.skater s.number)) (cond (s.kind == 2) (spec_evLeave_p fuel e s.skater) (cond (s.kind == 3) (spec_evDraw_p fuel e) (cond (s.kind == 4) (spec_evScore_p fuel e s.number) (some (noE, false))))) := by
  unfold spec_evAsked_p
  rw [bnd hg]
  simp only [Bool.not_true, cond_false]
  unfold spec_evStep_p
  rw [show (e.segment == e.segments) = false from by simp only [beq_eq_false_iff_ne, ne_eq]; omega, cond_false]
  have id2 : ∀ o : Option (Event × Bool), (o.bind fun x => some (Event.mk x.1.segments x.1.size x.1.key x.1.entrants x.1.gone x.1.segment x.1.order x.1.results, x.2)) = o := by
    intro o; cases o <;> rfl
  rw [id2]
  cases (s.kind == 1) <;> simp only [cond_true, cond_false]
  · cases (s.kind == 2) <;> simp only [cond_true, cond_false]
    · cases (s.kind == 3) <;> simp only [cond_true, cond_false]
      · cases (s.kind == 4) <;> simp only [cond_true, cond_false]
        · rfl
        · exact id2 _
      · exact id2 _
    · exact id2 _
  · exact id2 _
theorem asked_over (e : Event) (s : Step) (fuel : Nat) (hg : spec_evGood_p fuel e = some true) (hlt : ¬ e.segment < e.segments) (hle : e.segment ≤ e.segments) : spec_evAsked_p fuel e s = some (noE, false) := by
  unfold spec_evAsked_p
  rw [bnd hg]
  simp only [Bool.not_true, cond_false]
  unfold spec_evStep_p
  rw [show (e.segment == e.segments) = true from by simp only [beq_iff_eq]; omega, cond_true]
  rfl
theorem asked_bad (e : Event) (s : Step) (fuel : Nat) (hg : spec_evGood_p fuel e = some false) : spec_evAsked_p fuel e s = some (noE, false) := by
  unfold spec_evAsked_p
  rw [bnd hg]
  rfl
theorem there_l (e : Event) : ∀ (ys : List Entrant) (k : Nat) (acc : List Entrant), acc.length + ys.length ≤ 1048576 → spec_evThere_l1 e ys k acc = some (acc ++ ys.filter fun x => decide (x.skater ∉ e.gone)) := by
  intro ys
  induction ys with
  | nil => intro k acc _; rw [spec_evThere_l1]; simp
  | cons y ys ih =>
    intro k acc h
    simp only [List.length_cons] at h
    rw [spec_evThere_l1]
    obtain ⟨b, h1, h2⟩ := ret_l1Has e.gone y.skater
    rw [bnd h1]
    cases b
    · have hy : y.skater ∉ e.gone := fun k => by simpa using h2.2 k
      simp only [Bool.not_false, cond_true]
      rw [fits_of (by simp; omega), need_t, Option.bind_some, ih (k + 1) _ (by simp; omega)]
      simp [hy]
    · have hy : y.skater ∈ e.gone := h2.1 rfl
      simp only [Bool.not_true, cond_false]
      rw [ih (k + 1) _ (by omega)]
      simp [hy]
theorem there_eq (e : Event) (h : e.entrants.length ≤ 1048576) : spec_evThere_p e = some (e.entrants.filter fun x => decide (x.skater ∉ e.gone)) := there_l e e.entrants 0 [] (by simpa using h)

end Go.Proofs.YtbclgnikhophlaaGreat
