/- Plain lemmas: what the functions compute is what the reference says, in plain Lean. No condition. -/
import Derived.Test.YtioegmjleofmeaaGreatPEvent4
set_option maxRecDepth 4000
set_option maxHeartbeats 1000000
set_option linter.unusedVariables false
set_option linter.unusedSimpArgs false
set_option linter.unusedSectionVars false

namespace Go.Proofs.YtioegmjleofmeaaGreat
open Go.AM
/-! EnterSkater, LeaveEvent, GiveScore -/
theorem copyInts_l (l : List Int) (h : l.length ≤ 1048576) : impl_copyInts_p l = some l := by
  unfold impl_copyInts_p; rw [fits_of (by omega), need_t, Option.bind_some]
theorem copyEvent_l (e : Event) (h1 : e.entrants.length ≤ 1048576) (h2 : e.gone.length ≤ 1048576) (h3 : e.order.length ≤ 1048576) : ∀ (ys : List Result) (k : Nat) (acc : List Result), acc.length + ys.length ≤ 1048576 → (∀ r ∈ ys, r.scores.length ≤ 1048576) →
    impl_copyEvent_l1 e ys k acc = some { e with results := acc ++ ys } := by
  intro ys
  induction ys with
  | nil =>
    intro k acc _ _
    rw [impl_copyEvent_l1, fits_of (by omega), need_t, Option.bind_some, bnd (copyInts_l _ h2), bnd (copyInts_l _ h3)]
    simp
  | cons y ys ih =>
    intro k acc h h'
    simp only [List.length_cons] at h
    rw [impl_copyEvent_l1, bnd (copyInts_l _ (h' y (by simp))), fits_of (by simp; omega), need_t, Option.bind_some, ih (k + 1) _ (by simp; omega) (fun r hr => h' r (by simp [hr]))]
    simp
theorem copyEvent_eq (e : Event) (hb : nEvent e ≤ 1048576) : impl_copyEvent_p e = some e := by
  obtain ⟨b1, b2, b3, b4, b5, b6⟩ := sizes_E hb
  exact copyEvent_l e b1 b2 b3 e.results 0 [] (by simpa using b4) b5
theorem evOwn_l (e : Event) : ∀ (ys : List Result) (k : Nat) (acc : List Result), acc.length + ys.length ≤ 1048576 → (∀ r ∈ ys, r.scores.length ≤ 1048576) →
    spec_evOwn_l1 e e.gone e.order ys k acc = some { e with results := acc ++ ys } := by
  intro ys
  induction ys with
  | nil => intro k acc _ _; rw [spec_evOwn_l1]; simp
  | cons y ys ih =>
    intro k acc h h'
    simp only [List.length_cons] at h
    rw [spec_evOwn_l1, bnd (own_l _ (h' y (by simp))), fits_of (by simp; omega), need_t, Option.bind_some, ih (k + 1) _ (by simp; omega) (fun r hr => h' r (by simp [hr]))]
    simp
theorem evOwn_eq (e : Event) (hb : nEvent e ≤ 1048576) : spec_evOwn_p e = some e := by
  obtain ⟨b1, b2, b3, b4, b5, b6⟩ := sizes_E hb
  unfold spec_evOwn_p
  rw [fits_of (by omega), need_t, Option.bind_some, bnd (own_l _ b2), bnd (own_l _ b3)]
  exact evOwn_l e e.results 0 [] (by simpa using b4) b5
theorem running (e : Event) (hb : nEvent e ≤ 1048576) (fuel : Nat) (hf : 1048576 < fuel) : (spec_evGood_p fuel e = some true ∧ impl_isRunning_p e = some (decide (e.segment < e.segments)) ∧ EvOk e) ∨ (spec_evGood_p fuel e = some false ∧ impl_isRunning_p e = some false) := by
  unfold impl_isRunning_p
  rcases both_event e hb fuel hf with ⟨h1, h2, h3⟩ | ⟨h1, h2⟩
  · left; rw [bnd h2]; exact ⟨h1, rfl, h3⟩
  · right; rw [bnd h2]; exact ⟨h1, rfl⟩
def noE : Event := Event.mk 0 0 0 [] [] 0 [] []
/-- how a step of the reference begins -/
theorem asked (e : Event) (s : Step) (fuel : Nat) (hg : spec_evGood_p fuel e = some true) (hlt : e.segment < e.segments) : spec_evAsked_p fuel e s = 
    cond (s.kind == 1) (spec_evEnter_p fuel e (Entrant.mk s.skater s.number)) (cond (s.kind == 2) (spec_evLeave_p fuel e s.skater) (cond (s.kind == 3) (spec_evDraw_p fuel e) (cond (s.kind == 4) (spec_evScore_p fuel e s.number) (some (noE, false))))) := by
  unfold spec_evAsked_p
  rw [bnd hg]
  simp only [Bool.not_true, cond_false]
  unfold spec_evStep_p
  rw [show (e.segment == e.segments) = false from by simp only [beq_eq_false_iff_ne, ne_eq]; omega, cond_false]
  have id2 : ∀ o : Option (Event × Bool), (o.bind fun x => some (Event.mk x.1.segments x.1.size x.1.key x.1.entrants x.1.gone x.1.segment x.1.order x.1.results, x.2)) = o := by
    intro o; cases o <;> rfl
  rw [id2]
  cases (s.kind == 1) <;> simp only [cond_true, cond_false]
  · cases (s.kind == 2) <;> simp only [cond_true, cond_false]
    · cases (s.kind == 3) <;> simp only [cond_true, cond_false]
      · cases (s.kind == 4) <;> simp only [cond_true, cond_false]
        · rfl
        · exact id2 _
      · exact id2 _
    · exact id2 _
  · exact id2 _
theorem asked_over (e : Event) (s : Step) (fuel : Nat) (hg : spec_evGood_p fuel e = some true) (hlt : ¬ e.segment < e.segments) (hle : e.segment ≤ e.segments) : spec_evAsked_p fuel e s = some (noE, false) := by
  unfold spec_evAsked_p
  rw [bnd hg]
  simp only [Bool.not_true, cond_false]
  unfold spec_evStep_p
  rw [show (e.segment == e.segments) = true from by simp only [beq_iff_eq]; omega, cond_true]
  rfl
theorem asked_bad (e : Event) (s : Step) (fuel : Nat) (hg : spec_evGood_p fuel e = some false) : spec_evAsked_p fuel e s = some (noE, false) := by
  unfold spec_evAsked_p
  rw [bnd hg]
  rfl
theorem repl_succ (n : Nat) : List.replicate n (-1 : Int) ++ [-1] = List.replicate (n + 1) (-1) := by rw [List.replicate_succ']
theorem enter_l (e : Event) (x : Entrant) (n : Nat) (hn : e.segments = (n : Int)) (h3 : n ≤ 3) (hr : e.results.length ≤ 1048576) : ∀ (m j : Nat) (fuel : Nat), j + m = n → m < fuel →
    spec_evEnter_l1 e x e fuel (List.replicate j (-1)) (j : Int) = some ({ e with entrants := e.entrants ++ [x], results := e.results ++ [Result.mk x.skater (List.replicate n (-1))] }, true) ∧
    impl_EnterSkater_l1 e x e fuel (List.replicate j (-1)) (j : Int) = some ({ e with entrants := e.entrants ++ [x], results := e.results ++ [Result.mk x.skater (List.replicate n (-1))] }, true) := by
  intro m
  induction m with
  | zero =>
    intro j fuel h hf
    obtain ⟨f, rfl⟩ := Nat.exists_eq_succ_of_ne_zero (by omega : fuel ≠ 0)
    obtain rfl : j = n := by omega
    rw [spec_evEnter_l1, impl_EnterSkater_l1, decide_eq_false (by omega), cond_false, fits_of (by simp; omega), need_t, Option.bind_some]
    exact ⟨rfl, rfl⟩
  | succ m ih =>
    intro j fuel h hf
    obtain ⟨f, rfl⟩ := Nat.exists_eq_succ_of_ne_zero (by omega : fuel ≠ 0)
    rw [spec_evEnter_l1, impl_EnterSkater_l1, decide_eq_true (by omega), cond_true, fits_of (by simp; omega), need_t, Option.bind_some, Option.bind_some, w64_in (by omega), repl_succ]
    exact ih (j + 1) f (by omega) (by omega)
theorem n_enter (e : Event) (x : Entrant) (n : Nat) (h : n ≤ 3) : nEvent { e with entrants := e.entrants ++ [x], results := e.results ++ [Result.mk x.skater (List.replicate n (-1))] } ≤ nEvent e + 5 := by
  have h1 : nEntrantS (e.entrants ++ [x]) = nEntrantS e.entrants + 1 := by unfold nEntrantS; simp
  have h2 : nResultS (e.results ++ [Result.mk x.skater (List.replicate n (-1))]) = nResultS e.results + 1 + n := by
    unfold nResultS nResult nIntS
    simp
    omega
  unfold nEvent
  dsimp only
  rw [h1, h2]; omega
theorem same_EnterSkater (e : Event) (hb : nEvent e ≤ 1048576) (x : Entrant) (fuel : Nat) (hf : 1048576 < fuel) : ∃ r : Event × Bool, spec_EnterSkater_p fuel e x = some r ∧ impl_EnterSkater_p fuel e x = some r ∧ nEvent r.1 ≤ 1048581 := by
  obtain ⟨b1, b2, b3, b4, b5, b6⟩ := sizes_E hb
  have hno : nEvent noE ≤ 1048581 := Nat.zero_le _
  have id2 : ∀ o : Option (Event × Bool), (o.bind fun x => some (Event.mk x.1.segments x.1.size x.1.key x.1.entrants x.1.gone x.1.segment x.1.order x.1.results, x.2)) = o := by
    intro o; cases o <;> rfl
  unfold spec_EnterSkater_p impl_EnterSkater_p
  rw [id2]
  rcases running e hb fuel hf with ⟨h1, h2, h3⟩ | ⟨h1, h2⟩
  · rw [bnd h2]
    have hseg := h3.1.2.2.2.1
    have hsegs := h3.1.1
    by_cases hlt : e.segment < e.segments
    · rw [decide_eq_true hlt, asked e _ fuel h1 hlt]
      rw [show ((Step.mk 1 x.skater x.rank).kind == 1) = true from rfl, cond_true]
      simp only [Bool.not_true, Bool.false_or]
      unfold spec_evEnter_p
      rw [bnd (evOwn_eq e hb), fits_of (by simp; omega), need_t, Option.bind_some]
      cases hc : (decide (e.segment > 0) || decide ((e.order.length : Int) > 0))
      · simp only [Bool.not_false, opt_t, Bool.false_or, cond_false]
        obtain ⟨b, e1, e2⟩ := ret_soEntrants (e.entrants ++ [x]) (by have := h3.1.2.2.2.2.2.1.1.2.2; simp; omega)
        obtain ⟨b', e3, e4⟩ := ret_AreEntrants (e.entrants ++ [x]) (by have := h3.1.2.2.2.2.2.1.1.2.2; simp; omega)
        obtain rfl : b = b' := Bool.eq_iff_iff.2 (e2.trans e4.symm)
        rw [bnd (copyEvent_eq e hb), fits_of (by simp; omega), need_t, Option.bind_some]
        have hx : (⟨x.skater, x.rank⟩ : Entrant) = x := rfl
        rw [hx, bnd e1, bnd e3]
        cases b
        · exact ⟨_, rfl, rfl, hno⟩
        · simp only [Bool.not_true, cond_false]
          obtain ⟨n, hn⟩ : ∃ n : Nat, e.segments = (n : Int) := ⟨e.segments.toNat, by omega⟩
          obtain ⟨k1, k2⟩ := enter_l e x n hn (by omega) b4 n 0 fuel (by omega) (by omega)
          exact ⟨_, k1, k2, by have := n_enter e x n (by omega); dsimp only; omega⟩
      · exact ⟨_, rfl, rfl, hno⟩
    · rw [decide_eq_false hlt, asked_over e _ fuel h1 hlt hseg.2]
      exact ⟨_, rfl, rfl, hno⟩
  · rw [bnd h2, asked_bad e _ fuel h1]
    exact ⟨_, rfl, rfl, hno⟩
/-! a score -/

end Go.Proofs.YtioegmjleofmeaaGreat
