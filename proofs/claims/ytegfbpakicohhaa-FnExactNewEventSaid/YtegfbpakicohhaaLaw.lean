/- Plain lemmas on what the law FnExactNewEvent makes of its arguments: sizes, copies, comparisons. No condition. -/
import Derived.Test.YtegfbpakicohhaaWalk2
set_option maxRecDepth 4000
set_option maxHeartbeats 1000000
set_option linter.unusedVariables false
set_option linter.unusedSimpArgs false
set_option linter.unusedSectionVars false

namespace Go.Proofs.Ytegfbpakicohhaa
open Go.AM
theorem hasInt_3 {ds : List D} (h : HasT te 3 ds) : ∃ x : Int, ds = [.v (.int .i64 x)] ∧ inR x := by
  cases h with
  | int h' hw => cases h'; exact ⟨_, rfl, inR_of hw⟩
  | bool h' => cases h'
  | str h' _ => cases h'
  | slice h' _ _ => cases h'
  | struct h' _ _ => cases h'
theorem eq_Entrant (a b : Entrant) : laws_eqEntrant_p a b = some (decide (a = b)) := by
  cases a with | mk a0 a1 =>
  cases b with | mk b0 b1 =>
  unfold laws_eqEntrant_p
  by_cases e0 : a0 = b0
  case neg => simp [show (a0 != b0) = true from by simpa using e0, e0]
  subst e0
  simp only [bne_self_eq_false, cond_false, beq_self_eq_true, decide_true, Bool.not_true]
  by_cases e1 : a1 = b1
  case neg => simp [show (a1 != b1) = true from by simpa using e1, e1]
  subst e1
  simp only [bne_self_eq_false, cond_false, beq_self_eq_true, decide_true, Bool.not_true]
  all_goals (try simp)
theorem eq_EntrantS_l (ys : List Entrant) : ∀ (pre zs : List Entrant), ys.length = zs.length → laws_eqEntrantS_l1 (pre ++ zs) ys pre.length = some (decide (ys = zs)) := by
  induction ys with
  | nil => intro pre zs h; obtain rfl : zs = [] := List.eq_nil_of_length_eq_zero h.symm; rw [laws_eqEntrantS_l1]; simp
  | cons y ys ih =>
    intro pre zs h
    cases zs with
    | nil => simp at h
    | cons z zs =>
    rw [laws_eqEntrantS_l1, bnd (getI_pre pre z zs rfl), bnd (eq_Entrant y z)]
    have h1 := ih (pre ++ [z]) zs (by simpa using h)
    simp only [List.append_assoc, List.cons_append, List.nil_append, List.length_append, List.length_cons, List.length_nil, Nat.zero_add] at h1
    by_cases e : y = z
    · rw [decide_eq_true e]; simp only [Bool.not_true, cond_false]; rw [h1, e]; simp
    · rw [decide_eq_false e]; simp [e]
theorem eq_EntrantS (a b : List Entrant) : laws_eqEntrantS_p a b = some (decide (a = b)) := by
  unfold laws_eqEntrantS_p
  by_cases h : a.length = b.length
  · rw [show ((a.length : Int) != (b.length : Int)) = false from by simp [h], cond_false]
    exact eq_EntrantS_l a [] b h
  · rw [show ((a.length : Int) != (b.length : Int)) = true from by simpa using (by omega), cond_true]
    rw [decide_eq_false (fun e => h (by rw [e]))]
theorem eq_IntS_l (ys : List Int) : ∀ (pre zs : List Int), ys.length = zs.length → laws_eqIntS_l1 (pre ++ zs) ys pre.length = some (decide (ys = zs)) := by
  induction ys with
  | nil => intro pre zs h; obtain rfl : zs = [] := List.eq_nil_of_length_eq_zero h.symm; rw [laws_eqIntS_l1]; simp
  | cons y ys ih =>
    intro pre zs h
    cases zs with
    | nil => simp at h
    | cons z zs =>
    rw [laws_eqIntS_l1, bnd (getI_pre pre z zs rfl)]
    have h1 := ih (pre ++ [z]) zs (by simpa using h)
    simp only [List.append_assoc, List.cons_append, List.nil_append, List.length_append, List.length_cons, List.length_nil, Nat.zero_add] at h1
    by_cases e : y = z
    · subst e; simp only [bne_self_eq_false, cond_false]; rw [h1]; simp
    · rw [show (y != z) = true from by simpa using e]; simp [e]
theorem eq_IntS (a b : List Int) : laws_eqIntS_p a b = some (decide (a = b)) := by
  unfold laws_eqIntS_p
  by_cases h : a.length = b.length
  · rw [show ((a.length : Int) != (b.length : Int)) = false from by simp [h], cond_false]
    exact eq_IntS_l a [] b h
  · rw [show ((a.length : Int) != (b.length : Int)) = true from by simpa using (by omega), cond_true]
    rw [decide_eq_false (fun e => h (by rw [e]))]
theorem eq_Result (a b : Result) : laws_eqResult_p a b = some (decide (a = b)) := by
  cases a with | mk a0 a1 =>
  cases b with | mk b0 b1 =>
  unfold laws_eqResult_p
  by_cases e0 : a0 = b0
  case neg => simp [show (a0 != b0) = true from by simpa using e0, e0]
  subst e0
  simp only [bne_self_eq_false, cond_false, beq_self_eq_true, decide_true, Bool.not_true]
  by_cases e1 : a1 = b1
  case neg => simp [eq_IntS, e1, bnd]
  subst e1
  simp only [eq_IntS, decide_true, Option.bind_some, Bool.not_true, cond_false, bne_self_eq_false, beq_self_eq_true]
  all_goals (try simp)
theorem eq_ResultS_l (ys : List Result) : ∀ (pre zs : List Result), ys.length = zs.length → laws_eqResultS_l1 (pre ++ zs) ys pre.length = some (decide (ys = zs)) := by
  induction ys with
  | nil => intro pre zs h; obtain rfl : zs = [] := List.eq_nil_of_length_eq_zero h.symm; rw [laws_eqResultS_l1]; simp
  | cons y ys ih =>
    intro pre zs h
    cases zs with
    | nil => simp at h
    | cons z zs =>
    rw [laws_eqResultS_l1, bnd (getI_pre pre z zs rfl), bnd (eq_Result y z)]
    have h1 := ih (pre ++ [z]) zs (by simpa using h)
    simp only [List.append_assoc, List.cons_append, List.nil_append, List.length_append, List.length_cons, List.length_nil, Nat.zero_add] at h1
    by_cases e : y = z
    · rw [decide_eq_true e]; simp only [Bool.not_true, cond_false]; rw [h1, e]; simp
    · rw [decide_eq_false e]; simp [e]
theorem eq_ResultS (a b : List Result) : laws_eqResultS_p a b = some (decide (a = b)) := by
  unfold laws_eqResultS_p
  by_cases h : a.length = b.length
  · rw [show ((a.length : Int) != (b.length : Int)) = false from by simp [h], cond_false]
    exact eq_ResultS_l a [] b h
  · rw [show ((a.length : Int) != (b.length : Int)) = true from by simpa using (by omega), cond_true]
    rw [decide_eq_false (fun e => h (by rw [e]))]
theorem eq_Event (a b : Event) : laws_eqEvent_p a b = some (decide (a = b)) := by
  cases a with | mk a0 a1 a2 a3 a4 a5 a6 a7 =>
  cases b with | mk b0 b1 b2 b3 b4 b5 b6 b7 =>
  unfold laws_eqEvent_p
  by_cases e0 : a0 = b0
  case neg => simp [show (a0 != b0) = true from by simpa using e0, e0]
  subst e0
  simp only [bne_self_eq_false, cond_false, beq_self_eq_true, decide_true, Bool.not_true]
  by_cases e1 : a1 = b1
  case neg => simp [show (a1 != b1) = true from by simpa using e1, e1]
  subst e1
  simp only [bne_self_eq_false, cond_false, beq_self_eq_true, decide_true, Bool.not_true]
  by_cases e2 : a2 = b2
  case neg => simp [show (a2 != b2) = true from by simpa using e2, e2]
  subst e2
  simp only [bne_self_eq_false, cond_false, beq_self_eq_true, decide_true, Bool.not_true]
  by_cases e3 : a3 = b3
  case neg => simp [eq_EntrantS, e3, bnd]
  subst e3
  simp only [eq_EntrantS, decide_true, Option.bind_some, Bool.not_true, cond_false, bne_self_eq_false, beq_self_eq_true]
  by_cases e4 : a4 = b4
  case neg => simp [eq_IntS, e4, bnd]
  subst e4
  simp only [eq_IntS, decide_true, Option.bind_some, Bool.not_true, cond_false, bne_self_eq_false, beq_self_eq_true]
  by_cases e5 : a5 = b5
  case neg => simp [show (a5 != b5) = true from by simpa using e5, e5]
  subst e5
  simp only [bne_self_eq_false, cond_false, beq_self_eq_true, decide_true, Bool.not_true]
  by_cases e6 : a6 = b6
  case neg => simp [eq_IntS, e6, bnd]
  subst e6
  simp only [eq_IntS, decide_true, Option.bind_some, Bool.not_true, cond_false, bne_self_eq_false, beq_self_eq_true]
  by_cases e7 : a7 = b7
  case neg => simp [eq_ResultS, e7, bnd]
  subst e7
  simp only [eq_ResultS, decide_true, Option.bind_some, Bool.not_true, cond_false, bne_self_eq_false, beq_self_eq_true]
  all_goals (try simp)
def wfEntrant (x : Entrant) : Prop := inR x.skater ∧ inR x.rank
def nEntrantS (l : List Entrant) : Nat := l.length
def wfEntrantS (l : List Entrant) : Prop := l.length ≤ maxN ∧ ∀ x ∈ l, wfEntrant x
def cEntrant (x : Entrant) : Nat := 2
def cEntrantS (l : List Entrant) : Nat := (l.map fun x => 1 + cEntrant x).sum
theorem c_EntrantS (l : List Entrant) : cEntrantS l ≤ 16 * nEntrantS l := by
  unfold cEntrantS nEntrantS
  induction l with
  | nil => simp
  | cons y l ih =>
    have : cEntrant y ≤ 2 := by unfold cEntrant; omega
    simp only [List.map_cons, List.sum_cons, List.length_cons] at ih ⊢
    omega
theorem cl_EntrantS (l : List Entrant) : l.length ≤ cEntrantS l := by
  unfold cEntrantS
  induction l with
  | nil => simp
  | cons y l ih => simp only [List.map_cons, List.sum_cons, List.length_cons]; omega
theorem mark_EntrantS_l : ∀ (ys pre : List Entrant) (k : Int) (f : Nat), 0 ≤ k → k + (((ys.map fun x => 1 + cEntrant x).sum : Nat) : Int) ≤ 1099511627776 → (pre ++ ys).length ≤ 1099511627776 → ys.length < f → ∃ ys' k', laws_markEntrantS_l1 f (pre ++ ys) k (pre.length : Int) = some (pre ++ ys', k') ∧ k ≤ k' ∧ k' ≤ k + (((ys.map fun x => 1 + cEntrant x).sum : Nat) : Int) ∧ ∀ j, laws_heldEntrantS_l1 ys' j k = some k' := by
  intro ys
  induction ys with
  | nil =>
    intro pre k f h0 hk hl hf
    obtain ⟨f, rfl⟩ := Nat.exists_eq_succ_of_ne_zero (by omega : f ≠ 0)
    refine ⟨[], k, ?_, Int.le_refl _, by simp, fun j => by rw [laws_heldEntrantS_l1]⟩
    rw [laws_markEntrantS_l1, decide_eq_false (by simp), cond_false]
  | cons y ys ih =>
    intro pre k f h0 hk hl hf
    obtain ⟨f, rfl⟩ := Nat.exists_eq_succ_of_ne_zero (by omega : f ≠ 0)
    simp only [List.map_cons, List.sum_cons, List.length_cons] at hk hf
    have hp : pre.length + 1 ≤ 1099511627776 := by simp at hl; omega
    have hcy : cEntrant y = 2 := rfl
    rw [laws_markEntrantS_l1, decide_eq_true (by simp only [List.length_append, List.length_cons]; omega), cond_true]
    simp only [getI_pre1, set_pre1, Option.bind_some]
    rw [w64_in (n := k + 1) (by omega)]
    rw [w64_in (n := k + 1 + 1) (by omega)]
    rw [w64_in (n := (pre.length : Int) + 1) (by omega)]
    obtain ⟨ys', k', h1, h2, h3, hh⟩ := ih (pre ++ [(Entrant.mk (k) (k + 1))]) (k + 1 + 1) f (by omega) (by omega) (by simp at hl ⊢; omega) (by omega)
    refine ⟨(Entrant.mk (k) (k + 1)) :: ys', k', ?_, by omega, by simp only [List.map_cons, List.sum_cons, List.length_cons]; omega, ?_⟩
    · simp only [List.append_assoc, List.cons_append, List.nil_append, List.length_append, List.length_cons, List.length_nil, Nat.zero_add, Int.natCast_add, Int.natCast_one] at h1
      simpa using h1
    · intro j
      rw [laws_heldEntrantS_l1]
      rw [w64_in (n := k + 1) (by omega)]
      rw [w64_in (n := k + 1 + 1) (by omega)]
      simpa using hh (j + 1)
theorem mark_EntrantS (a : List Entrant) (k : Int) (fuel : Nat) (h0 : 0 ≤ k) (hk : k + (cEntrantS a : Int) ≤ 1099511627776) (hf : cEntrantS a < fuel) : ∃ a' k', laws_markEntrantS_p fuel a k = some (a', k') ∧ k ≤ k' ∧ k' ≤ k + (cEntrantS a : Int) ∧ laws_heldEntrantS_p a' k = some k' := by
  obtain ⟨a', k', h1, h2, h3, h4⟩ := mark_EntrantS_l a [] k fuel h0 (by unfold cEntrantS at hk; exact hk) (by have := cl_EntrantS a; simp; omega) (by have := cl_EntrantS a; omega)
  exact ⟨a', k', h1, h2, by unfold cEntrantS; exact h3, h4 0⟩
def nIntS (l : List Int) : Nat := l.length
def wfIntS (l : List Int) : Prop := l.length ≤ maxN ∧ ∀ x ∈ l, inR x
def nResult (x : Result) : Nat := nIntS x.scores
def wfResult (x : Result) : Prop := inR x.skater ∧ wfIntS x.scores
def nResultS (l : List Result) : Nat := l.length + (l.map fun x => nResult x).sum
def wfResultS (l : List Result) : Prop := l.length ≤ maxN ∧ ∀ x ∈ l, wfResult x
def nEvent (x : Event) : Nat := nEntrantS x.entrants + nIntS x.gone + nIntS x.order + nResultS x.results
def wfEvent (x : Event) : Prop := inR x.segments ∧ inR x.size ∧ inR x.key ∧ wfEntrantS x.entrants ∧ wfIntS x.gone ∧ inR x.segment ∧ wfIntS x.order ∧ wfResultS x.results
def cIntS (l : List Int) : Nat := l.length
theorem c_IntS (l : List Int) : cIntS l ≤ 16 * nIntS l := by unfold cIntS nIntS; omega
def cResult (x : Result) : Nat := 1 + cIntS x.scores
theorem c_Result (x : Result) : cResult x ≤ 1 + 16 * nResult x := by
  unfold cResult nResult
  have := c_IntS x.scores
  omega
def cResultS (l : List Result) : Nat := (l.map fun x => 1 + cResult x).sum
theorem c_ResultS (l : List Result) : cResultS l ≤ 16 * nResultS l := by
  unfold cResultS nResultS
  induction l with
  | nil => simp
  | cons y l ih =>
    have := c_Result y
    simp only [List.map_cons, List.sum_cons, List.length_cons] at ih ⊢
    omega
theorem cl_ResultS (l : List Result) : l.length ≤ cResultS l := by
  unfold cResultS
  induction l with
  | nil => simp
  | cons y l ih => simp only [List.map_cons, List.sum_cons, List.length_cons]; omega
def cEvent (x : Event) : Nat := 4 + cEntrantS x.entrants + cIntS x.gone + cIntS x.order + cResultS x.results
theorem c_Event (x : Event) : cEvent x ≤ 4 + 16 * nEvent x := by
  unfold cEvent nEvent
  have := c_EntrantS x.entrants
  have := c_IntS x.gone
  have := c_IntS x.order
  have := c_ResultS x.results
  omega
theorem mark_IntS_l : ∀ (ys pre : List Int) (k : Int) (f : Nat), 0 ≤ k → k + (ys.length : Int) ≤ 1099511627776 → (pre ++ ys).length ≤ 1099511627776 → ys.length < f → ∃ ys' k', laws_markIntS_l1 f (pre ++ ys) k (pre.length : Int) = some (pre ++ ys', k') ∧ k ≤ k' ∧ k' ≤ k + (ys.length : Int) ∧ ∀ j, laws_heldIntS_l1 ys' j k = some k' := by
  intro ys
  induction ys with
  | nil =>
    intro pre k f h0 hk hl hf
    obtain ⟨f, rfl⟩ := Nat.exists_eq_succ_of_ne_zero (by omega : f ≠ 0)
    refine ⟨[], k, ?_, Int.le_refl _, by simp, fun j => by rw [laws_heldIntS_l1]⟩
    rw [laws_markIntS_l1, decide_eq_false (by simp), cond_false]
  | cons y ys ih =>
    intro pre k f h0 hk hl hf
    obtain ⟨f, rfl⟩ := Nat.exists_eq_succ_of_ne_zero (by omega : f ≠ 0)
    simp only [List.length_cons] at hk hf
    have hp : pre.length + 1 ≤ 1099511627776 := by simp at hl; omega
    rw [laws_markIntS_l1, decide_eq_true (by simp only [List.length_append, List.length_cons]; omega), cond_true]
    simp only [getI_pre1, set_pre1, Option.bind_some]
    rw [w64_in (n := k + 1) (by omega)]
    rw [w64_in (n := (pre.length : Int) + 1) (by omega)]
    obtain ⟨ys', k', h1, h2, h3, hh⟩ := ih (pre ++ [k]) (k + 1) f (by omega) (by omega) (by simp at hl ⊢; omega) (by omega)
    refine ⟨k :: ys', k', ?_, by omega, by simp only [List.length_cons]; omega, ?_⟩
    · simp only [List.append_assoc, List.cons_append, List.nil_append, List.length_append, List.length_cons, List.length_nil, Nat.zero_add, Int.natCast_add, Int.natCast_one] at h1
      simpa using h1
    · intro j
      rw [laws_heldIntS_l1]
      rw [w64_in (n := k + 1) (by omega)]
      simpa using hh (j + 1)
theorem mark_IntS (a : List Int) (k : Int) (fuel : Nat) (h0 : 0 ≤ k) (hk : k + (cIntS a : Int) ≤ 1099511627776) (hf : cIntS a < fuel) : ∃ a' k', laws_markIntS_p fuel a k = some (a', k') ∧ k ≤ k' ∧ k' ≤ k + (cIntS a : Int) ∧ laws_heldIntS_p a' k = some k' := by
  obtain ⟨a', k', h1, h2, h3, h4⟩ := mark_IntS_l a [] k fuel h0 (by unfold cIntS at hk; exact hk) (by unfold cIntS at hk; simp; omega) (by unfold cIntS at hf; exact hf)
  exact ⟨a', k', h1, h2, by unfold cIntS; exact h3, h4 0⟩
theorem mark_ResultS_l (fuel : Nat) : ∀ (ys pre : List Result) (k : Int) (f : Nat), 0 ≤ k → k + (((ys.map fun x => 1 + cResult x).sum : Nat) : Int) ≤ 1099511627776 → (pre ++ ys).length ≤ 1099511627776 → ys.length < f → (ys.map fun x => 1 + cResult x).sum < fuel → ∃ ys' k', laws_markResultS_l1 fuel f (pre ++ ys) k (pre.length : Int) = some (pre ++ ys', k') ∧ k ≤ k' ∧ k' ≤ k + (((ys.map fun x => 1 + cResult x).sum : Nat) : Int) ∧ ∀ j, laws_heldResultS_l1 ys' j k = some k' := by
  intro ys
  induction ys with
  | nil =>
    intro pre k f h0 hk hl hf _
    obtain ⟨f, rfl⟩ := Nat.exists_eq_succ_of_ne_zero (by omega : f ≠ 0)
    refine ⟨[], k, ?_, Int.le_refl _, by simp, fun j => by rw [laws_heldResultS_l1]⟩
    rw [laws_markResultS_l1, decide_eq_false (by simp), cond_false]
  | cons y ys ih =>
    intro pre k f h0 hk hl hf hfu
    obtain ⟨f, rfl⟩ := Nat.exists_eq_succ_of_ne_zero (by omega : f ≠ 0)
    simp only [List.map_cons, List.sum_cons, List.length_cons] at hk hf hfu
    have hp : pre.length + 1 ≤ 1099511627776 := by simp at hl; omega
    have hcy : cResult y = 1 + cIntS y.scores := rfl
    rw [laws_markResultS_l1, decide_eq_true (by simp only [List.length_append, List.length_cons]; omega), cond_true]
    simp only [getI_pre1, set_pre1, Option.bind_some]
    rw [w64_in (n := k + 1) (by omega)]
    obtain ⟨e1, k1, g1, l1, m1, d1⟩ := mark_IntS y.scores (k + 1) fuel (by omega) (by omega) (by omega)
    rw [bnd g1]
    dsimp only
    try simp only [getI_pre1, set_pre1, Option.bind_some]
    rw [w64_in (n := (pre.length : Int) + 1) (by omega)]
    obtain ⟨ys', k', h1, h2, h3, hh⟩ := ih (pre ++ [(Result.mk (k) e1)]) (k1) f (by omega) (by omega) (by simp at hl ⊢; omega) (by omega) (by omega)
    refine ⟨(Result.mk (k) e1) :: ys', k', ?_, by omega, by simp only [List.map_cons, List.sum_cons, List.length_cons]; omega, ?_⟩
    · simp only [List.append_assoc, List.cons_append, List.nil_append, List.length_append, List.length_cons, List.length_nil, Nat.zero_add, Int.natCast_add, Int.natCast_one] at h1
      simpa using h1
    · intro j
      rw [laws_heldResultS_l1]
      rw [w64_in (n := k + 1) (by omega)]
      rw [bnd d1, decide_eq_false (by omega : ¬ k1 < 0)]
      simpa using hh (j + 1)
theorem mark_ResultS (a : List Result) (k : Int) (fuel : Nat) (h0 : 0 ≤ k) (hk : k + (cResultS a : Int) ≤ 1099511627776) (hf : cResultS a < fuel) : ∃ a' k', laws_markResultS_p fuel a k = some (a', k') ∧ k ≤ k' ∧ k' ≤ k + (cResultS a : Int) ∧ laws_heldResultS_p a' k = some k' := by
  obtain ⟨a', k', h1, h2, h3, h4⟩ := mark_ResultS_l fuel a [] k fuel h0 (by unfold cResultS at hk; exact hk) (by have := cl_ResultS a; simp; omega) (by have := cl_ResultS a; omega) (by unfold cResultS at hf; exact hf)
  exact ⟨a', k', h1, h2, by unfold cResultS; exact h3, h4 0⟩
theorem mark_Event (a : Event) (k : Int) (fuel : Nat) (h0 : 0 ≤ k) (hk : k + (cEvent a : Int) ≤ 1099511627776) (hf : cEvent a < fuel) : ∃ a' k', laws_markEvent_p fuel a k = some (a', k') ∧ k ≤ k' ∧ k' ≤ k + (cEvent a : Int) ∧ laws_heldEvent_p a' k = some k' := by
  unfold laws_markEvent_p
  unfold cEvent at hk hf ⊢
  obtain ⟨e1, k1, g1, l1, m1, d1⟩ := mark_EntrantS a.entrants k fuel (by omega) (by omega) (by omega)
  rw [bnd g1]
  obtain ⟨e2, k2, g2, l2, m2, d2⟩ := mark_IntS a.gone k1 fuel (by omega) (by omega) (by omega)
  rw [bnd g2]
  obtain ⟨e3, k3, g3, l3, m3, d3⟩ := mark_IntS a.order k2 fuel (by omega) (by omega) (by omega)
  rw [bnd g3]
  obtain ⟨e4, k4, g4, l4, m4, d4⟩ := mark_ResultS a.results k3 fuel (by omega) (by omega) (by omega)
  rw [bnd g4]
  refine ⟨_, _, rfl, by omega, by omega, ?_⟩
  unfold laws_heldEvent_p
  dsimp only
  rw [bnd d1, decide_eq_false (by omega : ¬ k1 < 0), cond_false]
  rw [bnd d2, decide_eq_false (by omega : ¬ k2 < 0), cond_false]
  rw [bnd d3, decide_eq_false (by omega : ¬ k3 < 0), cond_false]
  rw [bnd d4, decide_eq_false (by omega : ¬ k4 < 0), cond_false]
theorem markS_Event {a a' : Event} {k k' : Int} {fuel : Nat} (h : laws_markEvent_p fuel a k = some (a', k')) : a' = Event.mk a.segments a.size a.key a'.entrants a'.gone a.segment a'.order a'.results := by
  unfold laws_markEvent_p at h
  obtain ⟨_, _, h⟩ := bindE h
  obtain ⟨_, _, h⟩ := bindE h
  obtain ⟨_, _, h⟩ := bindE h
  obtain ⟨_, _, h⟩ := bindE h
  cases someE h
  rfl

end Go.Proofs.Ytegfbpakicohhaa
