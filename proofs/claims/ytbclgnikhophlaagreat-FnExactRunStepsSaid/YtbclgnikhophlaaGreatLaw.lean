/- Plain lemmas on what the law FnExactRunSteps makes of its arguments: sizes, copies, comparisons. No condition. -/
import Derived.Test.YtbclgnikhophlaaGreatWalk3
set_option maxRecDepth 4000
set_option maxHeartbeats 1000000
set_option linter.unusedVariables false
set_option linter.unusedSimpArgs false
set_option linter.unusedSectionVars false

namespace Go.Proofs.YtbclgnikhophlaaGreat
open Go.AM
def wfEntrant (x : Entrant) : Prop := inR x.skater ∧ inR x.rank
def nEntrantS (l : List Entrant) : Nat := l.length
def wfEntrantS (l : List Entrant) : Prop := l.length ≤ maxN ∧ ∀ x ∈ l, wfEntrant x
def nIntS (l : List Int) : Nat := l.length
def wfIntS (l : List Int) : Prop := l.length ≤ maxN ∧ ∀ x ∈ l, inR x
def nResult (x : Result) : Nat := nIntS x.scores
def wfResult (x : Result) : Prop := inR x.skater ∧ wfIntS x.scores
def nResultS (l : List Result) : Nat := l.length + (l.map fun x => nResult x).sum
def wfResultS (l : List Result) : Prop := l.length ≤ maxN ∧ ∀ x ∈ l, wfResult x
def nEvent (x : Event) : Nat := nEntrantS x.entrants + nIntS x.gone + nIntS x.order + nResultS x.results
def wfEvent (x : Event) : Prop := inR x.segments ∧ inR x.size ∧ inR x.key ∧ wfEntrantS x.entrants ∧ wfIntS x.gone ∧ inR x.segment ∧ wfIntS x.order ∧ wfResultS x.results
theorem hasInt_3 {ds : List D} (h : HasT te 3 ds) : ∃ x : Int, ds = [.v (.int .i64 x)] ∧ inR x := by
  cases h with
  | int h' hw => cases h'; exact ⟨_, rfl, inR_of hw⟩
  | bool h' => cases h'
  | str h' _ => cases h'
  | slice h' _ _ => cases h'
  | struct h' _ _ => cases h'
theorem hasEntrant_122 {ds : List D} (h : HasT te 122 ds) : ∃ x : Entrant, ds = encEntrant x ∧ wfEntrant x := by
  cases h with
  | struct h' hl hf =>
    cases h'
    match ds, hl with
    | [c0, c1], _ =>
      obtain ⟨x0, e0, w0⟩ := hasInt_3 (hf (0, 3) (by simp) _ rfl)
      obtain ⟨x1, e1, w1⟩ := hasInt_3 (hf (1, 3) (by simp) _ rfl)
      cases e0
      cases e1
      exact ⟨⟨x0, x1⟩, rfl, ⟨w0, w1⟩⟩
  | int h' _ => cases h'
  | bool h' => cases h'
  | str h' _ => cases h'
  | slice h' _ _ => cases h'
theorem hasEntrantS_22 {ds : List D} (h : HasT te 22 ds) : ∃ x : List Entrant, ds = [.s (x.map encEntrant)] ∧ wfEntrantS x := by
  cases h with
  | slice h' hl hx =>
    cases h'
    obtain ⟨l, rfl, hp⟩ := list_of_each (f := encEntrant) (p := fun x => wfEntrant x) fun x hx' => (hasEntrant_122 (hx x hx')).imp fun a ha => ⟨ha.2, ha.1⟩
    exact ⟨l, rfl, by simpa using hl, hp⟩
  | int h' _ => cases h'
  | bool h' => cases h'
  | str h' _ => cases h'
  | struct h' _ _ => cases h'
theorem hasIntS_23 {ds : List D} (h : HasT te 23 ds) : ∃ x : List Int, ds = [.s (x.map encInt)] ∧ wfIntS x := by
  cases h with
  | slice h' hl hx =>
    cases h'
    obtain ⟨l, rfl, hp⟩ := list_of_each (f := encInt) (p := fun x => inR x) fun x hx' => (hasInt_3 (hx x hx')).imp fun a ha => ⟨ha.2, ha.1⟩
    exact ⟨l, rfl, by simpa using hl, hp⟩
  | int h' _ => cases h'
  | bool h' => cases h'
  | str h' _ => cases h'
  | struct h' _ _ => cases h'
theorem hasResult_116 {ds : List D} (h : HasT te 116 ds) : ∃ x : Result, ds = encResult x ∧ wfResult x := by
  cases h with
  | struct h' hl hf =>
    cases h'
    match ds, hl with
    | [c0, c1], _ =>
      obtain ⟨x0, e0, w0⟩ := hasInt_3 (hf (0, 3) (by simp) _ rfl)
      obtain ⟨x1, e1, w1⟩ := hasIntS_23 (hf (1, 23) (by simp) _ rfl)
      cases e0
      cases e1
      exact ⟨⟨x0, x1⟩, rfl, ⟨w0, w1⟩⟩
  | int h' _ => cases h'
  | bool h' => cases h'
  | str h' _ => cases h'
  | slice h' _ _ => cases h'
theorem hasResultS_24 {ds : List D} (h : HasT te 24 ds) : ∃ x : List Result, ds = [.s (x.map encResult)] ∧ wfResultS x := by
  cases h with
  | slice h' hl hx =>
    cases h'
    obtain ⟨l, rfl, hp⟩ := list_of_each (f := encResult) (p := fun x => wfResult x) fun x hx' => (hasResult_116 (hx x hx')).imp fun a ha => ⟨ha.2, ha.1⟩
    exact ⟨l, rfl, by simpa using hl, hp⟩
  | int h' _ => cases h'
  | bool h' => cases h'
  | str h' _ => cases h'
  | struct h' _ _ => cases h'
theorem hasEvent_26 {ds : List D} (h : HasT te 26 ds) : ∃ x : Event, ds = encEvent x ∧ wfEvent x := by
  cases h with
  | struct h' hl hf =>
    cases h'
    match ds, hl with
    | [c0, c1, c2, c3, c4, c5, c6, c7], _ =>
      obtain ⟨x0, e0, w0⟩ := hasInt_3 (hf (0, 3) (by simp) _ rfl)
      obtain ⟨x1, e1, w1⟩ := hasInt_3 (hf (1, 3) (by simp) _ rfl)
      obtain ⟨x2, e2, w2⟩ := hasInt_3 (hf (2, 3) (by simp) _ rfl)
      obtain ⟨x3, e3, w3⟩ := hasEntrantS_22 (hf (3, 22) (by simp) _ rfl)
      obtain ⟨x4, e4, w4⟩ := hasIntS_23 (hf (4, 23) (by simp) _ rfl)
      obtain ⟨x5, e5, w5⟩ := hasInt_3 (hf (5, 3) (by simp) _ rfl)
      obtain ⟨x6, e6, w6⟩ := hasIntS_23 (hf (6, 23) (by simp) _ rfl)
      obtain ⟨x7, e7, w7⟩ := hasResultS_24 (hf (7, 24) (by simp) _ rfl)
      cases e0
      cases e1
      cases e2
      cases e3
      cases e4
      cases e5
      cases e6
      cases e7
      exact ⟨⟨x0, x1, x2, x3, x4, x5, x6, x7⟩, rfl, ⟨w0, w1, w2, w3, w4, w5, w6, w7⟩⟩
  | int h' _ => cases h'
  | bool h' => cases h'
  | str h' _ => cases h'
  | slice h' _ _ => cases h'
def wfStep (x : Step) : Prop := inR x.kind ∧ inR x.skater ∧ inR x.number
theorem hasStep_94 {ds : List D} (h : HasT te 94 ds) : ∃ x : Step, ds = encStep x ∧ wfStep x := by
  cases h with
  | struct h' hl hf =>
    cases h'
    match ds, hl with
    | [c0, c1, c2], _ =>
      obtain ⟨x0, e0, w0⟩ := hasInt_3 (hf (0, 3) (by simp) _ rfl)
      obtain ⟨x1, e1, w1⟩ := hasInt_3 (hf (1, 3) (by simp) _ rfl)
      obtain ⟨x2, e2, w2⟩ := hasInt_3 (hf (2, 3) (by simp) _ rfl)
      cases e0
      cases e1
      cases e2
      exact ⟨⟨x0, x1, x2⟩, rfl, ⟨w0, w1, w2⟩⟩
  | int h' _ => cases h'
  | bool h' => cases h'
  | str h' _ => cases h'
  | slice h' _ _ => cases h'
def nStepS (l : List Step) : Nat := l.length
def wfStepS (l : List Step) : Prop := l.length ≤ maxN ∧ ∀ x ∈ l, wfStep x
theorem hasStepS_42 {ds : List D} (h : HasT te 42 ds) : ∃ x : List Step, ds = [.s (x.map encStep)] ∧ wfStepS x := by
  cases h with
  | slice h' hl hx =>
    cases h'
    obtain ⟨l, rfl, hp⟩ := list_of_each (f := encStep) (p := fun x => wfStep x) fun x hx' => (hasStep_94 (hx x hx')).imp fun a ha => ⟨ha.2, ha.1⟩
    exact ⟨l, rfl, by simpa using hl, hp⟩
  | int h' _ => cases h'
  | bool h' => cases h'
  | str h' _ => cases h'
  | struct h' _ _ => cases h'
theorem eq_Entrant (a b : Entrant) : laws_eqEntrant_p a b = some (decide (a = b)) := by
  cases a with | mk a0 a1 =>
  cases b with | mk b0 b1 =>
  unfold laws_eqEntrant_p
  by_cases e0 : a0 = b0
  case neg => simp [show (a0 != b0) = true from by simpa using e0, e0]
  subst e0
  simp only [bne_self_eq_false, cond_false, beq_self_eq_true, decide_true, Bool.not_true]
  by_cases e1 : a1 = b1
  case neg => simp [show (a1 != b1) = true from by simpa using e1, e1]
  subst e1
  simp only [bne_self_eq_false, cond_false, beq_self_eq_true, decide_true, Bool.not_true]
  all_goals (try simp)
theorem eq_EntrantS_l (ys : List Entrant) : ∀ (pre zs : List Entrant), ys.length = zs.length → laws_eqEntrantS_l1 (pre ++ zs) ys pre.length = some (decide (ys = zs)) := by
  induction ys with
  | nil => intro pre zs h; obtain rfl : zs = [] := List.eq_nil_of_length_eq_zero h.symm; rw [laws_eqEntrantS_l1]; simp
  | cons y ys ih =>
    intro pre zs h
    cases zs with
    | nil => simp at h
    | cons z zs =>
    rw [laws_eqEntrantS_l1, bnd (getI_pre pre z zs rfl), bnd (eq_Entrant y z)]
    have h1 := ih (pre ++ [z]) zs (by simpa using h)
    simp only [List.append_assoc, List.cons_append, List.nil_append, List.length_append, List.length_cons, List.length_nil, Nat.zero_add] at h1
    by_cases e : y = z
    · rw [decide_eq_true e]; simp only [Bool.not_true, cond_false]; rw [h1, e]; simp
    · rw [decide_eq_false e]; simp [e]
theorem eq_EntrantS (a b : List Entrant) : laws_eqEntrantS_p a b = some (decide (a = b)) := by
  unfold laws_eqEntrantS_p
  by_cases h : a.length = b.length
  · rw [show ((a.length : Int) != (b.length : Int)) = false from by simp [h], cond_false]
    exact eq_EntrantS_l a [] b h
  · rw [show ((a.length : Int) != (b.length : Int)) = true from by simpa using (by omega), cond_true]
    rw [decide_eq_false (fun e => h (by rw [e]))]
theorem eq_IntS_l (ys : List Int) : ∀ (pre zs : List Int), ys.length = zs.length → laws_eqIntS_l1 (pre ++ zs) ys pre.length = some (decide (ys = zs)) := by
  induction ys with
  | nil => intro pre zs h; obtain rfl : zs = [] := List.eq_nil_of_length_eq_zero h.symm; rw [laws_eqIntS_l1]; simp
  | cons y ys ih =>
    intro pre zs h
    cases zs with
    | nil => simp at h
    | cons z zs =>
    rw [laws_eqIntS_l1, bnd (getI_pre pre z zs rfl)]
    have h1 := ih (pre ++ [z]) zs (by simpa using h)
    simp only [List.append_assoc, List.cons_append, List.nil_append, List.length_append, List.length_cons, List.length_nil, Nat.zero_add] at h1
    by_cases e : y = z
    · subst e; simp only [bne_self_eq_false, cond_false]; rw [h1]; simp
    · rw [show (y != z) = true from by simpa using e]; simp [e]
theorem eq_IntS (a b : List Int) : laws_eqIntS_p a b = some (decide (a = b)) := by
  unfold laws_eqIntS_p
  by_cases h : a.length = b.length
  · rw [show ((a.length : Int) != (b.length : Int)) = false from by simp [h], cond_false]
    exact eq_IntS_l a [] b h
  · rw [show ((a.length : Int) != (b.length : Int)) = true from by simpa using (by omega), cond_true]
    rw [decide_eq_false (fun e => h (by rw [e]))]
theorem eq_Result (a b : Result) : laws_eqResult_p a b = some (decide (a = b)) := by
  cases a with | mk a0 a1 =>
  cases b with | mk b0 b1 =>
  unfold laws_eqResult_p
  by_cases e0 : a0 = b0
  case neg => simp [show (a0 != b0) = true from by simpa using e0, e0]
  subst e0
  simp only [bne_self_eq_false, cond_false, beq_self_eq_true, decide_true, Bool.not_true]
  by_cases e1 : a1 = b1
  case neg => simp [eq_IntS, e1, bnd]
  subst e1
  simp only [eq_IntS, decide_true, Option.bind_some, Bool.not_true, cond_false, bne_self_eq_false, beq_self_eq_true]
  all_goals (try simp)
theorem eq_ResultS_l (ys : List Result) : ∀ (pre zs : List Result), ys.length = zs.length → laws_eqResultS_l1 (pre ++ zs) ys pre.length = some (decide (ys = zs)) := by
  induction ys with
  | nil => intro pre zs h; obtain rfl : zs = [] := List.eq_nil_of_length_eq_zero h.symm; rw [laws_eqResultS_l1]; simp
  | cons y ys ih =>
    intro pre zs h
    cases zs with
    | nil => simp at h
    | cons z zs =>
    rw [laws_eqResultS_l1, bnd (getI_pre pre z zs rfl), bnd (eq_Result y z)]
    have h1 := ih (pre ++ [z]) zs (by simpa using h)
    simp only [List.append_assoc, List.cons_append, List.nil_append, List.length_append, List.length_cons, List.length_nil, Nat.zero_add] at h1
    by_cases e : y = z
    · rw [decide_eq_true e]; simp only [Bool.not_true, cond_false]; rw [h1, e]; simp
    · rw [decide_eq_false e]; simp [e]
theorem eq_ResultS (a b : List Result) : laws_eqResultS_p a b = some (decide (a = b)) := by
  unfold laws_eqResultS_p
  by_cases h : a.length = b.length
  · rw [show ((a.length : Int) != (b.length : Int)) = false from by simp [h], cond_false]
    exact eq_ResultS_l a [] b h
  · rw [show ((a.length : Int) != (b.length : Int)) = true from by simpa using (by omega), cond_true]
    rw [decide_eq_false (fun e => h (by rw [e]))]
theorem eq_Event (a b : Event) : laws_eqEvent_p a b = some (decide (a = b)) := by
  cases a with | mk a0 a1 a2 a3 a4 a5 a6 a7 =>
  cases b with | mk b0 b1 b2 b3 b4 b5 b6 b7 =>
  unfold laws_eqEvent_p
  by_cases e0 : a0 = b0
  case neg => simp [show (a0 != b0) = true from by simpa using e0, e0]
  subst e0
  simp only [bne_self_eq_false, cond_false, beq_self_eq_true, decide_true, Bool.not_true]
  by_cases e1 : a1 = b1
  case neg => simp [show (a1 != b1) = true from by simpa using e1, e1]
  subst e1
  simp only [bne_self_eq_false, cond_false, beq_self_eq_true, decide_true, Bool.not_true]
  by_cases e2 : a2 = b2
  case neg => simp [show (a2 != b2) = true from by simpa using e2, e2]
  subst e2
  simp only [bne_self_eq_false, cond_false, beq_self_eq_true, decide_true, Bool.not_true]
  by_cases e3 : a3 = b3
  case neg => simp [eq_EntrantS, e3, bnd]
  subst e3
  simp only [eq_EntrantS, decide_true, Option.bind_some, Bool.not_true, cond_false, bne_self_eq_false, beq_self_eq_true]
  by_cases e4 : a4 = b4
  case neg => simp [eq_IntS, e4, bnd]
  subst e4
  simp only [eq_IntS, decide_true, Option.bind_some, Bool.not_true, cond_false, bne_self_eq_false, beq_self_eq_true]
  by_cases e5 : a5 = b5
  case neg => simp [show (a5 != b5) = true from by simpa using e5, e5]
  subst e5
  simp only [bne_self_eq_false, cond_false, beq_self_eq_true, decide_true, Bool.not_true]
  by_cases e6 : a6 = b6
  case neg => simp [eq_IntS, e6, bnd]
  subst e6
  simp only [eq_IntS, decide_true, Option.bind_some, Bool.not_true, cond_false, bne_self_eq_false, beq_self_eq_true]
  by_cases e7 : a7 = b7
  case neg => simp [eq_ResultS, e7, bnd]
  subst e7
  simp only [eq_ResultS, decide_true, Option.bind_some, Bool.not_true, cond_false, bne_self_eq_false, beq_self_eq_true]
  all_goals (try simp)
theorem eq_Step (a b : Step) : laws_eqStep_p a b = some (decide (a = b)) := by
  cases a with | mk a0 a1 a2 =>
  cases b with | mk b0 b1 b2 =>
  unfold laws_eqStep_p
  by_cases e0 : a0 = b0
  case neg => simp [show (a0 != b0) = true from by simpa using e0, e0]
  subst e0
  simp only [bne_self_eq_false, cond_false, beq_self_eq_true, decide_true, Bool.not_true]
  by_cases e1 : a1 = b1
  case neg => simp [show (a1 != b1) = true from by simpa using e1, e1]
  subst e1
  simp only [bne_self_eq_false, cond_false, beq_self_eq_true, decide_true, Bool.not_true]
  by_cases e2 : a2 = b2
  case neg => simp [show (a2 != b2) = true from by simpa using e2, e2]
  subst e2
  simp only [bne_self_eq_false, cond_false, beq_self_eq_true, decide_true, Bool.not_true]
  all_goals (try simp)
theorem eq_StepS_l (ys : List Step) : ∀ (pre zs : List Step), ys.length = zs.length → laws_eqStepS_l1 (pre ++ zs) ys pre.length = some (decide (ys = zs)) := by
  induction ys with
  | nil => intro pre zs h; obtain rfl : zs = [] := List.eq_nil_of_length_eq_zero h.symm; rw [laws_eqStepS_l1]; simp
  | cons y ys ih =>
    intro pre zs h
    cases zs with
    | nil => simp at h
    | cons z zs =>
    rw [laws_eqStepS_l1, bnd (getI_pre pre z zs rfl), bnd (eq_Step y z)]
    have h1 := ih (pre ++ [z]) zs (by simpa using h)
    simp only [List.append_assoc, List.cons_append, List.nil_append, List.length_append, List.length_cons, List.length_nil, Nat.zero_add] at h1
    by_cases e : y = z
    · rw [decide_eq_true e]; simp only [Bool.not_true, cond_false]; rw [h1, e]; simp
    · rw [decide_eq_false e]; simp [e]
theorem eq_StepS (a b : List Step) : laws_eqStepS_p a b = some (decide (a = b)) := by
  unfold laws_eqStepS_p
  by_cases h : a.length = b.length
  · rw [show ((a.length : Int) != (b.length : Int)) = false from by simp [h], cond_false]
    exact eq_StepS_l a [] b h
  · rw [show ((a.length : Int) != (b.length : Int)) = true from by simpa using (by omega), cond_true]
    rw [decide_eq_false (fun e => h (by rw [e]))]
def cEntrant (x : Entrant) : Nat := 2
def cEntrantS (l : List Entrant) : Nat := (l.map fun x => 1 + cEntrant x).sum
theorem c_EntrantS (l : List Entrant) : cEntrantS l ≤ 16 * nEntrantS l := by
  unfold cEntrantS nEntrantS
  induction l with
  | nil => simp
  | cons y l ih =>
    have : cEntrant y ≤ 2 := by unfold cEntrant; omega
    simp only [List.map_cons, List.sum_cons, List.length_cons] at ih ⊢
    omega
theorem cl_EntrantS (l : List Entrant) : l.length ≤ cEntrantS l := by
  unfold cEntrantS
  induction l with
  | nil => simp
  | cons y l ih => simp only [List.map_cons, List.sum_cons, List.length_cons]; omega
theorem mark_EntrantS_l : ∀ (ys pre : List Entrant) (k : Int) (f : Nat), 0 ≤ k → k + (((ys.map fun x => 1 + cEntrant x).sum : Nat) : Int) ≤ 1099511627776 → (pre ++ ys).length ≤ 1099511627776 → ys.length < f → ∃ ys' k', laws_markEntrantS_l1 f (pre ++ ys) k (pre.length : Int) = some (pre ++ ys', k') ∧ k ≤ k' ∧ k' ≤ k + (((ys.map fun x => 1 + cEntrant x).sum : Nat) : Int) ∧ ∀ j, laws_heldEntrantS_l1 ys' j k = some k' := by
  intro ys
  induction ys with
  | nil =>
    intro pre k f h0 hk hl hf
    obtain ⟨f, rfl⟩ := Nat.exists_eq_succ_of_ne_zero (by omega : f ≠ 0)
    refine ⟨[], k, ?_, Int.le_refl _, by simp, fun j => by rw [laws_heldEntrantS_l1]⟩
    rw [laws_markEntrantS_l1, decide_eq_false (by simp), cond_false]
  | cons y ys ih =>
    intro pre k f h0 hk hl hf
    obtain ⟨f, rfl⟩ := Nat.exists_eq_succ_of_ne_zero (by omega : f ≠ 0)
    simp only [List.map_cons, List.sum_cons, List.length_cons] at hk hf
    have hp : pre.length + 1 ≤ 1099511627776 := by simp at hl; omega
    have hcy : cEntrant y = 2 := rfl
    rw [laws_markEntrantS_l1, decide_eq_true (by simp only [List.length_append, List.length_cons]; omega), cond_true]
    simp only [getI_pre1, set_pre1, Option.bind_some]
    rw [w64_in (n := k + 1) (by omega)]
    rw [w64_in (n := k + 1 + 1) (by omega)]
    rw [w64_in (n := (pre.length : Int) + 1) (by omega)]
    obtain ⟨ys', k', h1, h2, h3, hh⟩ := ih (pre ++ [(Entrant.mk (k) (k + 1))]) (k + 1 + 1) f (by omega) (by omega) (by simp at hl ⊢; omega) (by omega)
    refine ⟨(Entrant.mk (k) (k + 1)) :: ys', k', ?_, by omega, by simp only [List.map_cons, List.sum_cons, List.length_cons]; omega, ?_⟩
    · simp only [List.append_assoc, List.cons_append, List.nil_append, List.length_append, List.length_cons, List.length_nil, Nat.zero_add, Int.natCast_add, Int.natCast_one] at h1
      simpa using h1
    · intro j
      rw [laws_heldEntrantS_l1]
      rw [w64_in (n := k + 1) (by omega)]
      rw [w64_in (n := k + 1 + 1) (by omega)]
      simpa using hh (j + 1)
theorem mark_EntrantS (a : List Entrant) (k : Int) (fuel : Nat) (h0 : 0 ≤ k) (hk : k + (cEntrantS a : Int) ≤ 1099511627776) (hf : cEntrantS a < fuel) : ∃ a' k', laws_markEntrantS_p fuel a k = some (a', k') ∧ k ≤ k' ∧ k' ≤ k + (cEntrantS a : Int) ∧ laws_heldEntrantS_p a' k = some k' := by
  obtain ⟨a', k', h1, h2, h3, h4⟩ := mark_EntrantS_l a [] k fuel h0 (by unfold cEntrantS at hk; exact hk) (by have := cl_EntrantS a; simp; omega) (by have := cl_EntrantS a; omega)
  exact ⟨a', k', h1, h2, by unfold cEntrantS; exact h3, h4 0⟩
def cIntS (l : List Int) : Nat := l.length
theorem c_IntS (l : List Int) : cIntS l ≤ 16 * nIntS l := by unfold cIntS nIntS; omega
def cResult (x : Result) : Nat := 1 + cIntS x.scores
theorem c_Result (x : Result) : cResult x ≤ 1 + 16 * nResult x := by
  unfold cResult nResult
  have := c_IntS x.scores
  omega
def cResultS (l : List Result) : Nat := (l.map fun x => 1 + cResult x).sum
theorem c_ResultS (l : List Result) : cResultS l ≤ 16 * nResultS l := by
  unfold cResultS nResultS
  induction l with
  | nil => simp
  | cons y l ih =>
    have := c_Result y
    simp only [List.map_cons, List.sum_cons, List.length_cons] at ih ⊢
    omega
theorem cl_ResultS (l : List Result) : l.length ≤ cResultS l := by
  unfold cResultS
  induction l with
  | nil => simp
  | cons y l ih => simp only [List.map_cons, List.sum_cons, List.length_cons]; omega
def cEvent (x : Event) : Nat := 4 + cEntrantS x.entrants + cIntS x.gone + cIntS x.order + cResultS x.results
theorem c_Event (x : Event) : cEvent x ≤ 4 + 16 * nEvent x := by
  unfold cEvent nEvent
  have := c_EntrantS x.entrants
  have := c_IntS x.gone
  have := c_IntS x.order
  have := c_ResultS x.results
  omega
theorem mark_IntS_l : ∀ (ys pre : List Int) (k : Int) (f : Nat), 0 ≤ k → k + (ys.length : Int) ≤ 1099511627776 → (pre ++ ys).length ≤ 1099511627776 → ys.length < f → ∃ ys' k', laws_markIntS_l1 f (pre ++ ys) k (pre.length : Int) = some (pre ++ ys', k') ∧ k ≤ k' ∧ k' ≤ k + (ys.length : Int) ∧ ∀ j, laws_heldIntS_l1 ys' j k = some k' := by
  intro ys
  induction ys with
  | nil =>
    intro pre k f h0 hk hl hf
    obtain ⟨f, rfl⟩ := Nat.exists_eq_succ_of_ne_zero (by omega : f ≠ 0)
    refine ⟨[], k, ?_, Int.le_refl _, by simp, fun j => by rw [laws_heldIntS_l1]⟩
    rw [laws_markIntS_l1, decide_eq_false (by simp), cond_false]
  | cons y ys ih =>
    intro pre k f h0 hk hl hf
    obtain ⟨f, rfl⟩ := Nat.exists_eq_succ_of_ne_zero (by omega : f ≠ 0)
    simp only [List.length_cons] at hk hf
    have hp : pre.length + 1 ≤ 1099511627776 := by simp at hl; omega
    rw [laws_markIntS_l1, decide_eq_true (by simp only [List.length_append, List.length_cons]; omega), cond_true]
    simp only [getI_pre1, set_pre1, Option.bind_some]
    rw [w64_in (n := k + 1) (by omega)]
    rw [w64_in (n := (pre.length : Int) + 1) (by omega)]
    obtain ⟨ys', k', h1, h2, h3, hh⟩ := ih (pre ++ [k]) (k + 1) f (by omega) (by omega) (by simp at hl ⊢; omega) (by omega)
    refine ⟨k :: ys', k', ?_, by omega, by simp only [List.length_cons]; omega, ?_⟩
    · simp only [List.append_assoc, List.cons_append, List.nil_append, List.length_append, List.length_cons, List.length_nil, Nat.zero_add, Int.natCast_add, Int.natCast_one] at h1
      simpa using h1
    · intro j
      rw [laws_heldIntS_l1]
      rw [w64_in (n := k + 1) (by omega)]
      simpa using hh (j + 1)
theorem mark_IntS (a : List Int) (k : Int) (fuel : Nat) (h0 : 0 ≤ k) (hk : k + (cIntS a : Int) ≤ 1099511627776) (hf : cIntS a < fuel) : ∃ a' k', laws_markIntS_p fuel a k = some (a', k') ∧ k ≤ k' ∧ k' ≤ k + (cIntS a : Int) ∧ laws_heldIntS_p a' k = some k' := by
  obtain ⟨a', k', h1, h2, h3, h4⟩ := mark_IntS_l a [] k fuel h0 (by unfold cIntS at hk; exact hk) (by unfold cIntS at hk; simp; omega) (by unfold cIntS at hf; exact hf)
  exact ⟨a', k', h1, h2, by unfold cIntS; exact h3, h4 0⟩
theorem mark_ResultS_l (fuel : Nat) : ∀ (ys pre : List Result) (k : Int) (f : Nat), 0 ≤ k → k + (((ys.map fun x => 1 + cResult x).sum : Nat) : Int) ≤ 1099511627776 → (pre ++ ys).length ≤ 1099511627776 → ys.length < f → (ys.map fun x => 1 + cResult x).sum < fuel → ∃ ys' k', laws_markResultS_l1 fuel f (pre ++ ys) k (pre.length : Int) = some (pre ++ ys', k') ∧ k ≤ k' ∧ k' ≤ k + (((ys.map fun x => 1 + cResult x).sum : Nat) : Int) ∧ ∀ j, laws_heldResultS_l1 ys' j k = some k' := by
  intro ys
  induction ys with
  | nil =>
    intro pre k f h0 hk hl hf _
    obtain ⟨f, rfl⟩ := Nat.exists_eq_succ_of_ne_zero (by omega : f ≠ 0)
    refine ⟨[], k, ?_, Int.le_refl _, by simp, fun j => by rw [laws_heldResultS_l1]⟩
    rw [laws_markResultS_l1, decide_eq_false (by simp), cond_false]
  | cons y ys ih =>
    intro pre k f h0 hk hl hf hfu
    obtain ⟨f, rfl⟩ := Nat.exists_eq_succ_of_ne_zero (by omega : f ≠ 0)
    simp only [List.map_cons, List.sum_cons, List.length_cons] at hk hf hfu
    have hp : pre.length + 1 ≤ 1099511627776 := by simp at hl; omega
    have hcy : cResult y = 1 + cIntS y.scores := rfl
    rw [laws_markResultS_l1, decide_eq_true (by simp only [List.length_append, List.length_cons]; omega), cond_true]
    simp only [getI_pre1, set_pre1, Option.bind_some]
    rw [w64_in (n := k + 1) (by omega)]
    obtain ⟨e1, k1, g1, l1, m1, d1⟩ := mark_IntS y.scores (k + 1) fuel (by omega) (by omega) (by omega)
    rw [bnd g1]
    dsimp only
    try simp only [getI_pre1, set_pre1, Option.bind_some]
    rw [w64_in (n := (pre.length : Int) + 1) (by omega)]
    obtain ⟨ys', k', h1, h2, h3, hh⟩ := ih (pre ++ [(Result.mk (k) e1)]) (k1) f (by omega) (by omega) (by simp at hl ⊢; omega) (by omega) (by omega)
    refine ⟨(Result.mk (k) e1) :: ys', k', ?_, by omega, by simp only [List.map_cons, List.sum_cons, List.length_cons]; omega, ?_⟩
    · simp only [List.append_assoc, List.cons_append, List.nil_append, List.length_append, List.length_cons, List.length_nil, Nat.zero_add, Int.natCast_add, Int.natCast_one] at h1
      simpa using h1
    · intro j
      rw [laws_heldResultS_l1]
      rw [w64_in (n := k + 1) (by omega)]
      rw [bnd d1, decide_eq_false (by omega : ¬ k1 < 0)]
      simpa using hh (j + 1)
theorem mark_ResultS (a : List Result) (k : Int) (fuel : Nat) (h0 : 0 ≤ k) (hk : k + (cResultS a : Int) ≤ 1099511627776) (hf : cResultS a < fuel) : ∃ a' k', laws_markResultS_p fuel a k = some (a', k') ∧ k ≤ k' ∧ k' ≤ k + (cResultS a : Int) ∧ laws_heldResultS_p a' k = some k' := by
  obtain ⟨a', k', h1, h2, h3, h4⟩ := mark_ResultS_l fuel a [] k fuel h0 (by unfold cResultS at hk; exact hk) (by have := cl_ResultS a; simp; omega) (by have := cl_ResultS a; omega) (by unfold cResultS at hf; exact hf)
  exact ⟨a', k', h1, h2, by unfold cResultS; exact h3, h4 0⟩
theorem mark_Event (a : Event) (k : Int) (fuel : Nat) (h0 : 0 ≤ k) (hk : k + (cEvent a : Int) ≤ 1099511627776) (hf : cEvent a < fuel) : ∃ a' k', laws_markEvent_p fuel a k = some (a', k') ∧ k ≤ k' ∧ k' ≤ k + (cEvent a : Int) ∧ laws_heldEvent_p a' k = some k' := by
  unfold laws_markEvent_p
  unfold cEvent at hk hf ⊢
  obtain ⟨e1, k1, g1, l1, m1, d1⟩ := mark_EntrantS a.entrants k fuel (by omega) (by omega) (by omega)
  rw [bnd g1]
  obtain ⟨e2, k2, g2, l2, m2, d2⟩ := mark_IntS a.gone k1 fuel (by omega) (by omega) (by omega)
  rw [bnd g2]
  obtain ⟨e3, k3, g3, l3, m3, d3⟩ := mark_IntS a.order k2 fuel (by omega) (by omega) (by omega)
  rw [bnd g3]
  obtain ⟨e4, k4, g4, l4, m4, d4⟩ := mark_ResultS a.results k3 fuel (by omega) (by omega) (by omega)
  rw [bnd g4]
  refine ⟨_, _, rfl, by omega, by omega, ?_⟩
  unfold laws_heldEvent_p
  dsimp only
  rw [bnd d1, decide_eq_false (by omega : ¬ k1 < 0), cond_false]
  rw [bnd d2, decide_eq_false (by omega : ¬ k2 < 0), cond_false]
  rw [bnd d3, decide_eq_false (by omega : ¬ k3 < 0), cond_false]
  rw [bnd d4, decide_eq_false (by omega : ¬ k4 < 0), cond_false]
theorem markS_Event {a a' : Event} {k k' : Int} {fuel : Nat} (h : laws_markEvent_p fuel a k = some (a', k')) : a' = Event.mk a.segments a.size a.key a'.entrants a'.gone a.segment a'.order a'.results := by
  unfold laws_markEvent_p at h
  obtain ⟨_, _, h⟩ := bindE h
  obtain ⟨_, _, h⟩ := bindE h
  obtain ⟨_, _, h⟩ := bindE h
  obtain ⟨_, _, h⟩ := bindE h
  cases someE h
  rfl
def cStep (x : Step) : Nat := 3
def cStepS (l : List Step) : Nat := (l.map fun x => 1 + cStep x).sum
theorem c_StepS (l : List Step) : cStepS l ≤ 16 * nStepS l := by
  unfold cStepS nStepS
  induction l with
  | nil => simp
  | cons y l ih =>
    have : cStep y ≤ 3 := by unfold cStep; omega
    simp only [List.map_cons, List.sum_cons, List.length_cons] at ih ⊢
    omega
theorem cl_StepS (l : List Step) : l.length ≤ cStepS l := by
  unfold cStepS
  induction l with
  | nil => simp
  | cons y l ih => simp only [List.map_cons, List.sum_cons, List.length_cons]; omega
theorem mark_StepS_l : ∀ (ys pre : List Step) (k : Int) (f : Nat), 0 ≤ k → k + (((ys.map fun x => 1 + cStep x).sum : Nat) : Int) ≤ 1099511627776 → (pre ++ ys).length ≤ 1099511627776 → ys.length < f → ∃ ys' k', laws_markStepS_l1 f (pre ++ ys) k (pre.length : Int) = some (pre ++ ys', k') ∧ k ≤ k' ∧ k' ≤ k + (((ys.map fun x => 1 + cStep x).sum : Nat) : Int) := by
  intro ys
  induction ys with
  | nil =>
    intro pre k f h0 hk hl hf
    obtain ⟨f, rfl⟩ := Nat.exists_eq_succ_of_ne_zero (by omega : f ≠ 0)
    refine ⟨[], k, ?_, Int.le_refl _, by simp⟩
    rw [laws_markStepS_l1, decide_eq_false (by simp), cond_false]
  | cons y ys ih =>
    intro pre k f h0 hk hl hf
    obtain ⟨f, rfl⟩ := Nat.exists_eq_succ_of_ne_zero (by omega : f ≠ 0)
    simp only [List.map_cons, List.sum_cons, List.length_cons] at hk hf
    have hp : pre.length + 1 ≤ 1099511627776 := by simp at hl; omega
    have hcy : cStep y = 3 := rfl
    rw [laws_markStepS_l1, decide_eq_true (by simp only [List.length_append, List.length_cons]; omega), cond_true]
    simp only [getI_pre1, set_pre1, Option.bind_some]
    rw [w64_in (n := k + 1) (by omega)]
    rw [w64_in (n := k + 1 + 1) (by omega)]
    rw [w64_in (n := k + 1 + 1 + 1) (by omega)]
    rw [w64_in (n := (pre.length : Int) + 1) (by omega)]
    obtain ⟨ys', k', h1, h2, h3⟩ := ih (pre ++ [(Step.mk (k) (k + 1) (k + 1 + 1))]) (k + 1 + 1 + 1) f (by omega) (by omega) (by simp at hl ⊢; omega) (by omega)
    refine ⟨(Step.mk (k) (k + 1) (k + 1 + 1)) :: ys', k', ?_, by omega, by simp only [List.map_cons, List.sum_cons, List.length_cons]; omega⟩
    · simp only [List.append_assoc, List.cons_append, List.nil_append, List.length_append, List.length_cons, List.length_nil, Nat.zero_add, Int.natCast_add, Int.natCast_one] at h1
      simpa using h1
theorem mark_StepS (a : List Step) (k : Int) (fuel : Nat) (h0 : 0 ≤ k) (hk : k + (cStepS a : Int) ≤ 1099511627776) (hf : cStepS a < fuel) : ∃ a' k', laws_markStepS_p fuel a k = some (a', k') ∧ k ≤ k' ∧ k' ≤ k + (cStepS a : Int) := by
  obtain ⟨a', k', h1, h2, h3⟩ := mark_StepS_l a [] k fuel h0 (by unfold cStepS at hk; exact hk) (by have := cl_StepS a; simp; omega) (by have := cl_StepS a; omega)
  exact ⟨a', k', h1, h2, by unfold cStepS; exact h3⟩
theorem sz_EntrantS (a : List Entrant) (hw : wfEntrantS a) (n : Int) (h0 : 0 ≤ n) (hn : n ≤ 1048576) : ∃ r, laws_szEntrantS_p a n = some r ∧ (r < 0 ∨ (0 ≤ r ∧ (nEntrantS a : Int) + r ≤ n)) := by
  have hl := hw.1
  unfold maxN at hl
  unfold laws_szEntrantS_p
  rw [w64_in (by omega)]
  by_cases h : n - (a.length : Int) < 0
  · rw [decide_eq_true h]; exact ⟨-1, rfl, .inl (by decide)⟩
  · rw [decide_eq_false h]; exact ⟨_, rfl, .inr ⟨by omega, by unfold nEntrantS; omega⟩⟩
theorem sz_IntS (a : List Int) (hw : wfIntS a) (n : Int) (h0 : 0 ≤ n) (hn : n ≤ 1048576) : ∃ r, laws_szIntS_p a n = some r ∧ (r < 0 ∨ (0 ≤ r ∧ (nIntS a : Int) + r ≤ n)) := by
  have hl := hw.1
  unfold maxN at hl
  unfold laws_szIntS_p
  rw [w64_in (by omega)]
  by_cases h : n - (a.length : Int) < 0
  · rw [decide_eq_true h]; exact ⟨-1, rfl, .inl (by decide)⟩
  · rw [decide_eq_false h]; exact ⟨_, rfl, .inr ⟨by omega, by unfold nIntS; omega⟩⟩
theorem sz_Result (a : Result) (hw : wfResult a) (n : Int) (h0 : 0 ≤ n) (hn : n ≤ 1048576) : ∃ r, laws_szResult_p a n = some r ∧ (r < 0 ∨ (0 ≤ r ∧ (nResult a : Int) + r ≤ n)) := by
  unfold laws_szResult_p
  obtain ⟨w0, w1⟩ := hw
  obtain ⟨r1, h1, g1⟩ := sz_IntS a.scores w1 n (by omega) (by omega)
  rw [bnd h1]
  rcases g1 with g1 | ⟨g1, k1⟩
  · rw [decide_eq_true g1]; exact ⟨-1, rfl, .inl (by decide)⟩
  rw [decide_eq_false (by omega : ¬ r1 < 0), cond_false]
  exact ⟨_, rfl, .inr ⟨by omega, by unfold nResult; omega⟩⟩
theorem sz_ResultS_l (ys : List Result) (hw : ∀ x ∈ ys, wfResult x) : ∀ (k : Nat) (n : Int), 0 ≤ n → n ≤ 1048576 → ∃ r, laws_szResultS_l1 ys k n = some r ∧ (r < 0 ∨ (0 ≤ r ∧ (((ys.map fun x => nResult x).sum : Nat) : Int) + r ≤ n)) := by
  induction ys with
  | nil => intro k n h0 hn; exact ⟨n, by rw [laws_szResultS_l1], .inr ⟨h0, by simp⟩⟩
  | cons y ys ih =>
    intro k n h0 hn
    rw [laws_szResultS_l1]
    obtain ⟨r0, h1, h2⟩ := sz_Result y (hw y (by simp)) n h0 hn
    rw [bnd h1]
    rcases h2 with h2 | ⟨h2, h3⟩
    · rw [decide_eq_true h2]; exact ⟨-1, rfl, .inl (by decide)⟩
    · rw [decide_eq_false (by omega)]
      obtain ⟨r, h4, h5⟩ := ih (fun x hx => hw x (by simp [hx])) (k + 1) r0 h2 (by omega)
      refine ⟨r, h4, h5.imp (fun h => h) fun h => ⟨h.1, ?_⟩⟩
      simp only [List.map_cons, List.sum_cons]
      omega
theorem sz_ResultS (a : List Result) (hw : wfResultS a) (n : Int) (h0 : 0 ≤ n) (hn : n ≤ 1048576) : ∃ r, laws_szResultS_p a n = some r ∧ (r < 0 ∨ (0 ≤ r ∧ (nResultS a : Int) + r ≤ n)) := by
  have hl := hw.1
  unfold maxN at hl
  unfold laws_szResultS_p
  rw [w64_in (by omega)]
  by_cases h : n - (a.length : Int) < 0
  · rw [decide_eq_true h]; exact ⟨-1, rfl, .inl (by decide)⟩
  · rw [decide_eq_false h]
    obtain ⟨r, h1, h2⟩ := sz_ResultS_l a hw.2 0 (n - (a.length : Int)) (by omega) (by omega)
    exact ⟨r, h1, h2.imp (fun h => h) fun h => ⟨h.1, by unfold nResultS; omega⟩⟩
theorem sz_Event (a : Event) (hw : wfEvent a) (n : Int) (h0 : 0 ≤ n) (hn : n ≤ 1048576) : ∃ r, laws_szEvent_p a n = some r ∧ (r < 0 ∨ (0 ≤ r ∧ (nEvent a : Int) + r ≤ n)) := by
  unfold laws_szEvent_p
  obtain ⟨w0, w1, w2, w3, w4, w5, w6, w7⟩ := hw
  obtain ⟨r1, h1, g1⟩ := sz_EntrantS a.entrants w3 n (by omega) (by omega)
  rw [bnd h1]
  rcases g1 with g1 | ⟨g1, k1⟩
  · rw [decide_eq_true g1]; exact ⟨-1, rfl, .inl (by decide)⟩
  rw [decide_eq_false (by omega : ¬ r1 < 0), cond_false]
  obtain ⟨r2, h2, g2⟩ := sz_IntS a.gone w4 r1 (by omega) (by omega)
  rw [bnd h2]
  rcases g2 with g2 | ⟨g2, k2⟩
  · rw [decide_eq_true g2]; exact ⟨-1, rfl, .inl (by decide)⟩
  rw [decide_eq_false (by omega : ¬ r2 < 0), cond_false]
  obtain ⟨r3, h3, g3⟩ := sz_IntS a.order w6 r2 (by omega) (by omega)
  rw [bnd h3]
  rcases g3 with g3 | ⟨g3, k3⟩
  · rw [decide_eq_true g3]; exact ⟨-1, rfl, .inl (by decide)⟩
  rw [decide_eq_false (by omega : ¬ r3 < 0), cond_false]
  obtain ⟨r4, h4, g4⟩ := sz_ResultS a.results w7 r3 (by omega) (by omega)
  rw [bnd h4]
  rcases g4 with g4 | ⟨g4, k4⟩
  · rw [decide_eq_true g4]; exact ⟨-1, rfl, .inl (by decide)⟩
  rw [decide_eq_false (by omega : ¬ r4 < 0), cond_false]
  exact ⟨_, rfl, .inr ⟨by omega, by unfold nEvent; omega⟩⟩
theorem sz_StepS (a : List Step) (hw : wfStepS a) (n : Int) (h0 : 0 ≤ n) (hn : n ≤ 1048576) : ∃ r, laws_szStepS_p a n = some r ∧ (r < 0 ∨ (0 ≤ r ∧ (nStepS a : Int) + r ≤ n)) := by
  have hl := hw.1
  unfold maxN at hl
  unfold laws_szStepS_p
  rw [w64_in (by omega)]
  by_cases h : n - (a.length : Int) < 0
  · rw [decide_eq_true h]; exact ⟨-1, rfl, .inl (by decide)⟩
  · rw [decide_eq_false h]; exact ⟨_, rfl, .inr ⟨by omega, by unfold nStepS; omega⟩⟩
theorem to_Entrant (a : Entrant) : laws_toEntrant_p a = some a := by
  unfold laws_toEntrant_p
  all_goals rfl
theorem to_EntrantS_l (z : Entrant) (ys : List Entrant) (hy : ∀ y ∈ ys, laws_toEntrant_p y = some y) : ∀ pre : List Entrant, laws_toEntrantS_l1 ys pre.length (pre ++ List.replicate ys.length z) = some (pre ++ ys) := by
  induction ys with
  | nil => intro pre; rw [laws_toEntrantS_l1]; simp
  | cons y ys ih =>
    intro pre
    rw [laws_toEntrantS_l1, bnd (hy y (by simp)), List.length_cons, bnd (show getI (pre ++ List.replicate (ys.length + 1) z) (pre.length : Int) = some z from getI_pre pre z (List.replicate ys.length z) rfl), set_step]
    have := ih (fun x hx => hy x (by simp [hx])) (pre ++ [y])
    simpa using this
theorem to_EntrantS (a : List Entrant) (h : nEntrantS a ≤ 1048576) : laws_toEntrantS_p a = some a := by
  have hl : a.length ≤ 1048576 := by unfold nEntrantS at h; omega
  unfold laws_toEntrantS_p
  rw [bnd (x := ()) (by rw [decide_eq_true (by omega), fits_of (by simp only [Int.toNat_natCast]; omega)]; rfl)]
  exact to_EntrantS_l _ a (fun y _ => to_Entrant y) []
theorem to_IntS_l (z : Int) (ys : List Int) : ∀ pre : List Int, laws_toIntS_l1 ys pre.length (pre ++ List.replicate ys.length z) = some (pre ++ ys) := by
  induction ys with
  | nil => intro pre; rw [laws_toIntS_l1]; simp
  | cons y ys ih =>
    intro pre
    rw [laws_toIntS_l1, List.length_cons, bnd (show getI (pre ++ List.replicate (ys.length + 1) z) (pre.length : Int) = some z from getI_pre pre z (List.replicate ys.length z) rfl), set_step]
    have := ih (pre ++ [y])
    simpa using this
theorem to_IntS (a : List Int) (h : nIntS a ≤ 1048576) : laws_toIntS_p a = some a := by
  have hl : a.length ≤ 1048576 := by unfold nIntS at h; omega
  unfold laws_toIntS_p
  rw [bnd (x := ()) (by rw [decide_eq_true (by omega), fits_of (by simp only [Int.toNat_natCast]; omega)]; rfl)]
  exact to_IntS_l _ a []
theorem to_Result (a : Result) (h : nResult a ≤ 1048576) : laws_toResult_p a = some a := by
  unfold laws_toResult_p
  unfold nResult at h
  rw [bnd (to_IntS a.scores (by omega))]
  all_goals rfl
theorem to_ResultS_l (z : Result) (ys : List Result) (hy : ∀ y ∈ ys, laws_toResult_p y = some y) : ∀ pre : List Result, laws_toResultS_l1 ys pre.length (pre ++ List.replicate ys.length z) = some (pre ++ ys) := by
  induction ys with
  | nil => intro pre; rw [laws_toResultS_l1]; simp
  | cons y ys ih =>
    intro pre
    rw [laws_toResultS_l1, bnd (hy y (by simp)), List.length_cons, bnd (show getI (pre ++ List.replicate (ys.length + 1) z) (pre.length : Int) = some z from getI_pre pre z (List.replicate ys.length z) rfl), set_step]
    have := ih (fun x hx => hy x (by simp [hx])) (pre ++ [y])
    simpa using this
theorem to_ResultS (a : List Result) (h : nResultS a ≤ 1048576) : laws_toResultS_p a = some a := by
  have hl : a.length ≤ 1048576 := by unfold nResultS at h; omega
  unfold laws_toResultS_p
  rw [bnd (x := ()) (by rw [decide_eq_true (by omega), fits_of (by simp only [Int.toNat_natCast]; omega)]; rfl)]
  exact to_ResultS_l _ a (fun y hy => to_Result y (Nat.le_trans (Nat.le_trans (le_sum hy (fun x => nResult x)) (Nat.le_add_left _ _)) h)) []
theorem to_Event (a : Event) (h : nEvent a ≤ 1048576) : laws_toEvent_p a = some a := by
  unfold laws_toEvent_p
  unfold nEvent at h
  rw [bnd (to_EntrantS a.entrants (by omega))]
  rw [bnd (to_IntS a.gone (by omega))]
  rw [bnd (to_IntS a.order (by omega))]
  rw [bnd (to_ResultS a.results (by omega))]
  all_goals rfl
theorem to_Step (a : Step) : laws_toStep_p a = some a := by
  unfold laws_toStep_p
  all_goals rfl
theorem to_StepS_l (z : Step) (ys : List Step) (hy : ∀ y ∈ ys, laws_toStep_p y = some y) : ∀ pre : List Step, laws_toStepS_l1 ys pre.length (pre ++ List.replicate ys.length z) = some (pre ++ ys) := by
  induction ys with
  | nil => intro pre; rw [laws_toStepS_l1]; simp
  | cons y ys ih =>
    intro pre
    rw [laws_toStepS_l1, bnd (hy y (by simp)), List.length_cons, bnd (show getI (pre ++ List.replicate (ys.length + 1) z) (pre.length : Int) = some z from getI_pre pre z (List.replicate ys.length z) rfl), set_step]
    have := ih (fun x hx => hy x (by simp [hx])) (pre ++ [y])
    simpa using this
theorem to_StepS (a : List Step) (h : nStepS a ≤ 1048576) : laws_toStepS_p a = some a := by
  have hl : a.length ≤ 1048576 := by unfold nStepS at h; omega
  unfold laws_toStepS_p
  rw [bnd (x := ()) (by rw [decide_eq_true (by omega), fits_of (by simp only [Int.toNat_natCast]; omega)]; rfl)]
  exact to_StepS_l _ a (fun y _ => to_Step y) []

end Go.Proofs.YtbclgnikhophlaaGreat
