/- Plain lemmas on what the law FnExactSeedsFor makes of its arguments: sizes, copies, comparisons. No condition. -/
import Derived.Test.YtekdnjnefbkikaaGreatWalk4
set_option maxRecDepth 4000
set_option maxHeartbeats 1000000
set_option linter.unusedVariables false
set_option linter.unusedSimpArgs false
set_option linter.unusedSectionVars false

namespace Go.Proofs.YtekdnjnefbkikaaGreat
open Go.AM
def nIntS (l : List Int) : Nat := l.length
def wfIntS (l : List Int) : Prop := l.length ≤ maxN ∧ ∀ x ∈ l, inR x
def nLine (x : Line) : Nat := nIntS x.events + nIntS x.points
def wfLine (x : Line) : Prop := inR x.skater ∧ wfIntS x.events ∧ wfIntS x.points
def nLineS (l : List Line) : Nat := l.length + (l.map fun x => nLine x).sum
def wfLineS (l : List Line) : Prop := l.length ≤ maxN ∧ ∀ x ∈ l, wfLine x
def nSeason (x : Season) : Nat := nLineS x.lines
def wfSeason (x : Season) : Prop := inR x.best ∧ wfLineS x.lines
def nSeasonS (l : List Season) : Nat := l.length + (l.map fun x => nSeason x).sum
def wfSeasonS (l : List Season) : Prop := l.length ≤ maxN ∧ ∀ x ∈ l, wfSeason x
def nWorld (x : World) : Nat := nSeasonS x.seasons + nIntS x.weights
def wfWorld (x : World) : Prop := wfSeasonS x.seasons ∧ wfIntS x.weights
theorem hasInt_3 {ds : List D} (h : HasT te 3 ds) : ∃ x : Int, ds = [.v (.int .i64 x)] ∧ inR x := by
  cases h with
  | int h' hw => cases h'; exact ⟨_, rfl, inR_of hw⟩
  | bool h' => cases h'
  | str h' _ => cases h'
  | slice h' _ _ => cases h'
  | struct h' _ _ => cases h'
theorem hasIntS_23 {ds : List D} (h : HasT te 23 ds) : ∃ x : List Int, ds = [.s (x.map encInt)] ∧ wfIntS x := by
  cases h with
  | slice h' hl hx =>
    cases h'
    obtain ⟨l, rfl, hp⟩ := list_of_each (f := encInt) (p := fun x => inR x) fun x hx' => (hasInt_3 (hx x hx')).imp fun a ha => ⟨ha.2, ha.1⟩
    exact ⟨l, rfl, by simpa using hl, hp⟩
  | int h' _ => cases h'
  | bool h' => cases h'
  | str h' _ => cases h'
  | struct h' _ _ => cases h'
theorem hasLine_149 {ds : List D} (h : HasT te 149 ds) : ∃ x : Line, ds = encLine x ∧ wfLine x := by
  cases h with
  | struct h' hl hf =>
    cases h'
    match ds, hl with
    | [c0, c1, c2], _ =>
      obtain ⟨x0, e0, w0⟩ := hasInt_3 (hf (0, 3) (by simp) _ rfl)
      obtain ⟨x1, e1, w1⟩ := hasIntS_23 (hf (1, 23) (by simp) _ rfl)
      obtain ⟨x2, e2, w2⟩ := hasIntS_23 (hf (2, 23) (by simp) _ rfl)
      cases e0
      cases e1
      cases e2
      exact ⟨⟨x0, x1, x2⟩, rfl, ⟨w0, w1, w2⟩⟩
  | int h' _ => cases h'
  | bool h' => cases h'
  | str h' _ => cases h'
  | slice h' _ _ => cases h'
theorem hasLineS_111 {ds : List D} (h : HasT te 111 ds) : ∃ x : List Line, ds = [.s (x.map encLine)] ∧ wfLineS x := by
  cases h with
  | slice h' hl hx =>
    cases h'
    obtain ⟨l, rfl, hp⟩ := list_of_each (f := encLine) (p := fun x => wfLine x) fun x hx' => (hasLine_149 (hx x hx')).imp fun a ha => ⟨ha.2, ha.1⟩
    exact ⟨l, rfl, by simpa using hl, hp⟩
  | int h' _ => cases h'
  | bool h' => cases h'
  | str h' _ => cases h'
  | struct h' _ _ => cases h'
theorem hasSeason_113 {ds : List D} (h : HasT te 113 ds) : ∃ x : Season, ds = encSeason x ∧ wfSeason x := by
  cases h with
  | struct h' hl hf =>
    cases h'
    match ds, hl with
    | [c0, c1], _ =>
      obtain ⟨x0, e0, w0⟩ := hasInt_3 (hf (0, 3) (by simp) _ rfl)
      obtain ⟨x1, e1, w1⟩ := hasLineS_111 (hf (1, 111) (by simp) _ rfl)
      cases e0
      cases e1
      exact ⟨⟨x0, x1⟩, rfl, ⟨w0, w1⟩⟩
  | int h' _ => cases h'
  | bool h' => cases h'
  | str h' _ => cases h'
  | slice h' _ _ => cases h'
theorem hasSeasonS_22 {ds : List D} (h : HasT te 22 ds) : ∃ x : List Season, ds = [.s (x.map encSeason)] ∧ wfSeasonS x := by
  cases h with
  | slice h' hl hx =>
    cases h'
    obtain ⟨l, rfl, hp⟩ := list_of_each (f := encSeason) (p := fun x => wfSeason x) fun x hx' => (hasSeason_113 (hx x hx')).imp fun a ha => ⟨ha.2, ha.1⟩
    exact ⟨l, rfl, by simpa using hl, hp⟩
  | int h' _ => cases h'
  | bool h' => cases h'
  | str h' _ => cases h'
  | struct h' _ _ => cases h'
theorem hasWorld_25 {ds : List D} (h : HasT te 25 ds) : ∃ x : World, ds = encWorld x ∧ wfWorld x := by
  cases h with
  | struct h' hl hf =>
    cases h'
    match ds, hl with
    | [c0, c1], _ =>
      obtain ⟨x0, e0, w0⟩ := hasSeasonS_22 (hf (0, 22) (by simp) _ rfl)
      obtain ⟨x1, e1, w1⟩ := hasIntS_23 (hf (1, 23) (by simp) _ rfl)
      cases e0
      cases e1
      exact ⟨⟨x0, x1⟩, rfl, ⟨w0, w1⟩⟩
  | int h' _ => cases h'
  | bool h' => cases h'
  | str h' _ => cases h'
  | slice h' _ _ => cases h'
theorem eq_Entrant (a b : Entrant) : laws_eqEntrant_p a b = some (decide (a = b)) := by
  cases a with | mk a0 a1 =>
  cases b with | mk b0 b1 =>
  unfold laws_eqEntrant_p
  by_cases e0 : a0 = b0
  case neg => simp [show (a0 != b0) = true from by simpa using e0, e0]
  subst e0
  simp only [bne_self_eq_false, cond_false, beq_self_eq_true, decide_true, Bool.not_true]
  by_cases e1 : a1 = b1
  case neg => simp [show (a1 != b1) = true from by simpa using e1, e1]
  subst e1
  simp only [bne_self_eq_false, cond_false, beq_self_eq_true, decide_true, Bool.not_true]
  all_goals (try simp)
theorem eq_EntrantS_l (ys : List Entrant) : ∀ (pre zs : List Entrant), ys.length = zs.length → laws_eqEntrantS_l1 (pre ++ zs) ys pre.length = some (decide (ys = zs)) := by
  induction ys with
  | nil => intro pre zs h; obtain rfl : zs = [] := List.eq_nil_of_length_eq_zero h.symm; rw [laws_eqEntrantS_l1]; simp
  | cons y ys ih =>
    intro pre zs h
    cases zs with
    | nil => simp at h
    | cons z zs =>
    rw [laws_eqEntrantS_l1, bnd (getI_pre pre z zs rfl), bnd (eq_Entrant y z)]
    have h1 := ih (pre ++ [z]) zs (by simpa using h)
    simp only [List.append_assoc, List.cons_append, List.nil_append, List.length_append, List.length_cons, List.length_nil, Nat.zero_add] at h1
    by_cases e : y = z
    · rw [decide_eq_true e]; simp only [Bool.not_true, cond_false]; rw [h1, e]; simp
    · rw [decide_eq_false e]; simp [e]
theorem eq_EntrantS (a b : List Entrant) : laws_eqEntrantS_p a b = some (decide (a = b)) := by
  unfold laws_eqEntrantS_p
  by_cases h : a.length = b.length
  · rw [show ((a.length : Int) != (b.length : Int)) = false from by simp [h], cond_false]
    exact eq_EntrantS_l a [] b h
  · rw [show ((a.length : Int) != (b.length : Int)) = true from by simpa using (by omega), cond_true]
    rw [decide_eq_false (fun e => h (by rw [e]))]
theorem eq_IntS_l (ys : List Int) : ∀ (pre zs : List Int), ys.length = zs.length → laws_eqIntS_l1 (pre ++ zs) ys pre.length = some (decide (ys = zs)) := by
  induction ys with
  | nil => intro pre zs h; obtain rfl : zs = [] := List.eq_nil_of_length_eq_zero h.symm; rw [laws_eqIntS_l1]; simp
  | cons y ys ih =>
    intro pre zs h
    cases zs with
    | nil => simp at h
    | cons z zs =>
    rw [laws_eqIntS_l1, bnd (getI_pre pre z zs rfl)]
    have h1 := ih (pre ++ [z]) zs (by simpa using h)
    simp only [List.append_assoc, List.cons_append, List.nil_append, List.length_append, List.length_cons, List.length_nil, Nat.zero_add] at h1
    by_cases e : y = z
    · subst e; simp only [bne_self_eq_false, cond_false]; rw [h1]; simp
    · rw [show (y != z) = true from by simpa using e]; simp [e]
theorem eq_IntS (a b : List Int) : laws_eqIntS_p a b = some (decide (a = b)) := by
  unfold laws_eqIntS_p
  by_cases h : a.length = b.length
  · rw [show ((a.length : Int) != (b.length : Int)) = false from by simp [h], cond_false]
    exact eq_IntS_l a [] b h
  · rw [show ((a.length : Int) != (b.length : Int)) = true from by simpa using (by omega), cond_true]
    rw [decide_eq_false (fun e => h (by rw [e]))]
theorem eq_Line (a b : Line) : laws_eqLine_p a b = some (decide (a = b)) := by
  cases a with | mk a0 a1 a2 =>
  cases b with | mk b0 b1 b2 =>
  unfold laws_eqLine_p
  by_cases e0 : a0 = b0
  case neg => simp [show (a0 != b0) = true from by simpa using e0, e0]
  subst e0
  simp only [bne_self_eq_false, cond_false, beq_self_eq_true, decide_true, Bool.not_true]
  by_cases e1 : a1 = b1
  case neg => simp [eq_IntS, e1, bnd]
  subst e1
  simp only [eq_IntS, decide_true, Option.bind_some, Bool.not_true, cond_false, bne_self_eq_false, beq_self_eq_true]
  by_cases e2 : a2 = b2
  case neg => simp [eq_IntS, e2, bnd]
  subst e2
  simp only [eq_IntS, decide_true, Option.bind_some, Bool.not_true, cond_false, bne_self_eq_false, beq_self_eq_true]
  all_goals (try simp)
theorem eq_LineS_l (ys : List Line) : ∀ (pre zs : List Line), ys.length = zs.length → laws_eqLineS_l1 (pre ++ zs) ys pre.length = some (decide (ys = zs)) := by
  induction ys with
  | nil => intro pre zs h; obtain rfl : zs = [] := List.eq_nil_of_length_eq_zero h.symm; rw [laws_eqLineS_l1]; simp
  | cons y ys ih =>
    intro pre zs h
    cases zs with
    | nil => simp at h
    | cons z zs =>
    rw [laws_eqLineS_l1, bnd (getI_pre pre z zs rfl), bnd (eq_Line y z)]
    have h1 := ih (pre ++ [z]) zs (by simpa using h)
    simp only [List.append_assoc, List.cons_append, List.nil_append, List.length_append, List.length_cons, List.length_nil, Nat.zero_add] at h1
    by_cases e : y = z
    · rw [decide_eq_true e]; simp only [Bool.not_true, cond_false]; rw [h1, e]; simp
    · rw [decide_eq_false e]; simp [e]
theorem eq_LineS (a b : List Line) : laws_eqLineS_p a b = some (decide (a = b)) := by
  unfold laws_eqLineS_p
  by_cases h : a.length = b.length
  · rw [show ((a.length : Int) != (b.length : Int)) = false from by simp [h], cond_false]
    exact eq_LineS_l a [] b h
  · rw [show ((a.length : Int) != (b.length : Int)) = true from by simpa using (by omega), cond_true]
    rw [decide_eq_false (fun e => h (by rw [e]))]
theorem eq_Season (a b : Season) : laws_eqSeason_p a b = some (decide (a = b)) := by
  cases a with | mk a0 a1 =>
  cases b with | mk b0 b1 =>
  unfold laws_eqSeason_p
  by_cases e0 : a0 = b0
  case neg => simp [show (a0 != b0) = true from by simpa using e0, e0]
  subst e0
  simp only [bne_self_eq_false, cond_false, beq_self_eq_true, decide_true, Bool.not_true]
  by_cases e1 : a1 = b1
  case neg => simp [eq_LineS, e1, bnd]
  subst e1
  simp only [eq_LineS, decide_true, Option.bind_some, Bool.not_true, cond_false, bne_self_eq_false, beq_self_eq_true]
  all_goals (try simp)
theorem eq_SeasonS_l (ys : List Season) : ∀ (pre zs : List Season), ys.length = zs.length → laws_eqSeasonS_l1 (pre ++ zs) ys pre.length = some (decide (ys = zs)) := by
  induction ys with
  | nil => intro pre zs h; obtain rfl : zs = [] := List.eq_nil_of_length_eq_zero h.symm; rw [laws_eqSeasonS_l1]; simp
  | cons y ys ih =>
    intro pre zs h
    cases zs with
    | nil => simp at h
    | cons z zs =>
    rw [laws_eqSeasonS_l1, bnd (getI_pre pre z zs rfl), bnd (eq_Season y z)]
    have h1 := ih (pre ++ [z]) zs (by simpa using h)
    simp only [List.append_assoc, List.cons_append, List.nil_append, List.length_append, List.length_cons, List.length_nil, Nat.zero_add] at h1
    by_cases e : y = z
    · rw [decide_eq_true e]; simp only [Bool.not_true, cond_false]; rw [h1, e]; simp
    · rw [decide_eq_false e]; simp [e]
theorem eq_SeasonS (a b : List Season) : laws_eqSeasonS_p a b = some (decide (a = b)) := by
  unfold laws_eqSeasonS_p
  by_cases h : a.length = b.length
  · rw [show ((a.length : Int) != (b.length : Int)) = false from by simp [h], cond_false]
    exact eq_SeasonS_l a [] b h
  · rw [show ((a.length : Int) != (b.length : Int)) = true from by simpa using (by omega), cond_true]
    rw [decide_eq_false (fun e => h (by rw [e]))]
theorem eq_World (a b : World) : laws_eqWorld_p a b = some (decide (a = b)) := by
  cases a with | mk a0 a1 =>
  cases b with | mk b0 b1 =>
  unfold laws_eqWorld_p
  by_cases e0 : a0 = b0
  case neg => simp [eq_SeasonS, e0, bnd]
  subst e0
  simp only [eq_SeasonS, decide_true, Option.bind_some, Bool.not_true, cond_false, bne_self_eq_false, beq_self_eq_true]
  by_cases e1 : a1 = b1
  case neg => simp [eq_IntS, e1, bnd]
  subst e1
  simp only [eq_IntS, decide_true, Option.bind_some, Bool.not_true, cond_false, bne_self_eq_false, beq_self_eq_true]
  all_goals (try simp)
def wfEntrant (x : Entrant) : Prop := inR x.skater ∧ inR x.rank
def nEntrantS (l : List Entrant) : Nat := l.length
def wfEntrantS (l : List Entrant) : Prop := l.length ≤ maxN ∧ ∀ x ∈ l, wfEntrant x
def cEntrant (x : Entrant) : Nat := 2
def cEntrantS (l : List Entrant) : Nat := (l.map fun x => 1 + cEntrant x).sum
theorem c_EntrantS (l : List Entrant) : cEntrantS l ≤ 16 * nEntrantS l := by
  unfold cEntrantS nEntrantS
  induction l with
  | nil => simp
  | cons y l ih =>
    have : cEntrant y ≤ 2 := by unfold cEntrant; omega
    simp only [List.map_cons, List.sum_cons, List.length_cons] at ih ⊢
    omega
theorem cl_EntrantS (l : List Entrant) : l.length ≤ cEntrantS l := by
  unfold cEntrantS
  induction l with
  | nil => simp
  | cons y l ih => simp only [List.map_cons, List.sum_cons, List.length_cons]; omega
theorem mark_EntrantS_l : ∀ (ys pre : List Entrant) (k : Int) (f : Nat), 0 ≤ k → k + (((ys.map fun x => 1 + cEntrant x).sum : Nat) : Int) ≤ 1099511627776 → (pre ++ ys).length ≤ 1099511627776 → ys.length < f → ∃ ys' k', laws_markEntrantS_l1 f (pre ++ ys) k (pre.length : Int) = some (pre ++ ys', k') ∧ k ≤ k' ∧ k' ≤ k + (((ys.map fun x => 1 + cEntrant x).sum : Nat) : Int) ∧ ∀ j, laws_heldEntrantS_l1 ys' j k = some k' := by
  intro ys
  induction ys with
  | nil =>
    intro pre k f h0 hk hl hf
    obtain ⟨f, rfl⟩ := Nat.exists_eq_succ_of_ne_zero (by omega : f ≠ 0)
    refine ⟨[], k, ?_, Int.le_refl _, by simp, fun j => by rw [laws_heldEntrantS_l1]⟩
    rw [laws_markEntrantS_l1, decide_eq_false (by simp), cond_false]
  | cons y ys ih =>
    intro pre k f h0 hk hl hf
    obtain ⟨f, rfl⟩ := Nat.exists_eq_succ_of_ne_zero (by omega : f ≠ 0)
    simp only [List.map_cons, List.sum_cons, List.length_cons] at hk hf
    have hp : pre.length + 1 ≤ 1099511627776 := by simp at hl; omega
    have hcy : cEntrant y = 2 := rfl
    rw [laws_markEntrantS_l1, decide_eq_true (by simp only [List.length_append, List.length_cons]; omega), cond_true]
    simp only [getI_pre1, set_pre1, Option.bind_some]
    rw [w64_in (n := k + 1) (by omega)]
    rw [w64_in (n := k + 1 + 1) (by omega)]
    rw [w64_in (n := (pre.length : Int) + 1) (by omega)]
    obtain ⟨ys', k', h1, h2, h3, hh⟩ := ih (pre ++ [(Entrant.mk (k) (k + 1))]) (k + 1 + 1) f (by omega) (by omega) (by simp at hl ⊢; omega) (by omega)
    refine ⟨(Entrant.mk (k) (k + 1)) :: ys', k', ?_, by omega, by simp only [List.map_cons, List.sum_cons, List.length_cons]; omega, ?_⟩
    · simp only [List.append_assoc, List.cons_append, List.nil_append, List.length_append, List.length_cons, List.length_nil, Nat.zero_add, Int.natCast_add, Int.natCast_one] at h1
      simpa using h1
    · intro j
      rw [laws_heldEntrantS_l1]
      rw [w64_in (n := k + 1) (by omega)]
      rw [w64_in (n := k + 1 + 1) (by omega)]
      simpa using hh (j + 1)
theorem mark_EntrantS (a : List Entrant) (k : Int) (fuel : Nat) (h0 : 0 ≤ k) (hk : k + (cEntrantS a : Int) ≤ 1099511627776) (hf : cEntrantS a < fuel) : ∃ a' k', laws_markEntrantS_p fuel a k = some (a', k') ∧ k ≤ k' ∧ k' ≤ k + (cEntrantS a : Int) ∧ laws_heldEntrantS_p a' k = some k' := by
  obtain ⟨a', k', h1, h2, h3, h4⟩ := mark_EntrantS_l a [] k fuel h0 (by unfold cEntrantS at hk; exact hk) (by have := cl_EntrantS a; simp; omega) (by have := cl_EntrantS a; omega)
  exact ⟨a', k', h1, h2, by unfold cEntrantS; exact h3, h4 0⟩
def cIntS (l : List Int) : Nat := l.length
theorem c_IntS (l : List Int) : cIntS l ≤ 16 * nIntS l := by unfold cIntS nIntS; omega
theorem mark_IntS_l : ∀ (ys pre : List Int) (k : Int) (f : Nat), 0 ≤ k → k + (ys.length : Int) ≤ 1099511627776 → (pre ++ ys).length ≤ 1099511627776 → ys.length < f → ∃ ys' k', laws_markIntS_l1 f (pre ++ ys) k (pre.length : Int) = some (pre ++ ys', k') ∧ k ≤ k' ∧ k' ≤ k + (ys.length : Int) := by
  intro ys
  induction ys with
  | nil =>
    intro pre k f h0 hk hl hf
    obtain ⟨f, rfl⟩ := Nat.exists_eq_succ_of_ne_zero (by omega : f ≠ 0)
    refine ⟨[], k, ?_, Int.le_refl _, by simp⟩
    rw [laws_markIntS_l1, decide_eq_false (by simp), cond_false]
  | cons y ys ih =>
    intro pre k f h0 hk hl hf
    obtain ⟨f, rfl⟩ := Nat.exists_eq_succ_of_ne_zero (by omega : f ≠ 0)
    simp only [List.length_cons] at hk hf
    have hp : pre.length + 1 ≤ 1099511627776 := by simp at hl; omega
    rw [laws_markIntS_l1, decide_eq_true (by simp only [List.length_append, List.length_cons]; omega), cond_true]
    simp only [getI_pre1, set_pre1, Option.bind_some]
    rw [w64_in (n := k + 1) (by omega)]
    rw [w64_in (n := (pre.length : Int) + 1) (by omega)]
    obtain ⟨ys', k', h1, h2, h3⟩ := ih (pre ++ [k]) (k + 1) f (by omega) (by omega) (by simp at hl ⊢; omega) (by omega)
    refine ⟨k :: ys', k', ?_, by omega, by simp only [List.length_cons]; omega⟩
    · simp only [List.append_assoc, List.cons_append, List.nil_append, List.length_append, List.length_cons, List.length_nil, Nat.zero_add, Int.natCast_add, Int.natCast_one] at h1
      simpa using h1
theorem mark_IntS (a : List Int) (k : Int) (fuel : Nat) (h0 : 0 ≤ k) (hk : k + (cIntS a : Int) ≤ 1099511627776) (hf : cIntS a < fuel) : ∃ a' k', laws_markIntS_p fuel a k = some (a', k') ∧ k ≤ k' ∧ k' ≤ k + (cIntS a : Int) := by
  obtain ⟨a', k', h1, h2, h3⟩ := mark_IntS_l a [] k fuel h0 (by unfold cIntS at hk; exact hk) (by unfold cIntS at hk; simp; omega) (by unfold cIntS at hf; exact hf)
  exact ⟨a', k', h1, h2, by unfold cIntS; exact h3⟩
def cLine (x : Line) : Nat := 1 + cIntS x.events + cIntS x.points
theorem c_Line (x : Line) : cLine x ≤ 1 + 16 * nLine x := by
  unfold cLine nLine
  have := c_IntS x.events
  have := c_IntS x.points
  omega
def cLineS (l : List Line) : Nat := (l.map fun x => 1 + cLine x).sum
theorem c_LineS (l : List Line) : cLineS l ≤ 16 * nLineS l := by
  unfold cLineS nLineS
  induction l with
  | nil => simp
  | cons y l ih =>
    have := c_Line y
    simp only [List.map_cons, List.sum_cons, List.length_cons] at ih ⊢
    omega
theorem cl_LineS (l : List Line) : l.length ≤ cLineS l := by
  unfold cLineS
  induction l with
  | nil => simp
  | cons y l ih => simp only [List.map_cons, List.sum_cons, List.length_cons]; omega
theorem mark_LineS_l (fuel : Nat) : ∀ (ys pre : List Line) (k : Int) (f : Nat), 0 ≤ k → k + (((ys.map fun x => 1 + cLine x).sum : Nat) : Int) ≤ 1099511627776 → (pre ++ ys).length ≤ 1099511627776 → ys.length < f → (ys.map fun x => 1 + cLine x).sum < fuel → ∃ ys' k', laws_markLineS_l1 fuel f (pre ++ ys) k (pre.length : Int) = some (pre ++ ys', k') ∧ k ≤ k' ∧ k' ≤ k + (((ys.map fun x => 1 + cLine x).sum : Nat) : Int) := by
  intro ys
  induction ys with
  | nil =>
    intro pre k f h0 hk hl hf _
    obtain ⟨f, rfl⟩ := Nat.exists_eq_succ_of_ne_zero (by omega : f ≠ 0)
    refine ⟨[], k, ?_, Int.le_refl _, by simp⟩
    rw [laws_markLineS_l1, decide_eq_false (by simp), cond_false]
  | cons y ys ih =>
    intro pre k f h0 hk hl hf hfu
    obtain ⟨f, rfl⟩ := Nat.exists_eq_succ_of_ne_zero (by omega : f ≠ 0)
    simp only [List.map_cons, List.sum_cons, List.length_cons] at hk hf hfu
    have hp : pre.length + 1 ≤ 1099511627776 := by simp at hl; omega
    have hcy : cLine y = 1 + cIntS y.events + cIntS y.points := rfl
    rw [laws_markLineS_l1, decide_eq_true (by simp only [List.length_append, List.length_cons]; omega), cond_true]
    simp only [getI_pre1, set_pre1, Option.bind_some]
    rw [w64_in (n := k + 1) (by omega)]
    obtain ⟨e1, k1, g1, l1, m1⟩ := mark_IntS y.events (k + 1) fuel (by omega) (by omega) (by omega)
    rw [bnd g1]
    dsimp only
    try simp only [getI_pre1, set_pre1, Option.bind_some]
    obtain ⟨e2, k2, g2, l2, m2⟩ := mark_IntS y.points (k1) fuel (by omega) (by omega) (by omega)
    rw [bnd g2]
    dsimp only
    try simp only [getI_pre1, set_pre1, Option.bind_some]
    rw [w64_in (n := (pre.length : Int) + 1) (by omega)]
    obtain ⟨ys', k', h1, h2, h3⟩ := ih (pre ++ [(Line.mk (k) e1 e2)]) (k2) f (by omega) (by omega) (by simp at hl ⊢; omega) (by omega) (by omega)
    refine ⟨(Line.mk (k) e1 e2) :: ys', k', ?_, by omega, by simp only [List.map_cons, List.sum_cons, List.length_cons]; omega⟩
    · simp only [List.append_assoc, List.cons_append, List.nil_append, List.length_append, List.length_cons, List.length_nil, Nat.zero_add, Int.natCast_add, Int.natCast_one] at h1
      simpa using h1
theorem mark_LineS (a : List Line) (k : Int) (fuel : Nat) (h0 : 0 ≤ k) (hk : k + (cLineS a : Int) ≤ 1099511627776) (hf : cLineS a < fuel) : ∃ a' k', laws_markLineS_p fuel a k = some (a', k') ∧ k ≤ k' ∧ k' ≤ k + (cLineS a : Int) := by
  obtain ⟨a', k', h1, h2, h3⟩ := mark_LineS_l fuel a [] k fuel h0 (by unfold cLineS at hk; exact hk) (by have := cl_LineS a; simp; omega) (by have := cl_LineS a; omega) (by unfold cLineS at hf; exact hf)
  exact ⟨a', k', h1, h2, by unfold cLineS; exact h3⟩
def cSeason (x : Season) : Nat := 1 + cLineS x.lines
theorem c_Season (x : Season) : cSeason x ≤ 1 + 16 * nSeason x := by
  unfold cSeason nSeason
  have := c_LineS x.lines
  omega
def cSeasonS (l : List Season) : Nat := (l.map fun x => 1 + cSeason x).sum
theorem c_SeasonS (l : List Season) : cSeasonS l ≤ 16 * nSeasonS l := by
  unfold cSeasonS nSeasonS
  induction l with
  | nil => simp
  | cons y l ih =>
    have := c_Season y
    simp only [List.map_cons, List.sum_cons, List.length_cons] at ih ⊢
    omega
theorem cl_SeasonS (l : List Season) : l.length ≤ cSeasonS l := by
  unfold cSeasonS
  induction l with
  | nil => simp
  | cons y l ih => simp only [List.map_cons, List.sum_cons, List.length_cons]; omega
theorem mark_SeasonS_l (fuel : Nat) : ∀ (ys pre : List Season) (k : Int) (f : Nat), 0 ≤ k → k + (((ys.map fun x => 1 + cSeason x).sum : Nat) : Int) ≤ 1099511627776 → (pre ++ ys).length ≤ 1099511627776 → ys.length < f → (ys.map fun x => 1 + cSeason x).sum < fuel → ∃ ys' k', laws_markSeasonS_l1 fuel f (pre ++ ys) k (pre.length : Int) = some (pre ++ ys', k') ∧ k ≤ k' ∧ k' ≤ k + (((ys.map fun x => 1 + cSeason x).sum : Nat) : Int) := by
  intro ys
  induction ys with
  | nil =>
    intro pre k f h0 hk hl hf _
    obtain ⟨f, rfl⟩ := Nat.exists_eq_succ_of_ne_zero (by omega : f ≠ 0)
    refine ⟨[], k, ?_, Int.le_refl _, by simp⟩
    rw [laws_markSeasonS_l1, decide_eq_false (by simp), cond_false]
  | cons y ys ih =>
    intro pre k f h0 hk hl hf hfu
    obtain ⟨f, rfl⟩ := Nat.exists_eq_succ_of_ne_zero (by omega : f ≠ 0)
    simp only [List.map_cons, List.sum_cons, List.length_cons] at hk hf hfu
    have hp : pre.length + 1 ≤ 1099511627776 := by simp at hl; omega
    have hcy : cSeason y = 1 + cLineS y.lines := rfl
    rw [laws_markSeasonS_l1, decide_eq_true (by simp only [List.length_append, List.length_cons]; omega), cond_true]
    simp only [getI_pre1, set_pre1, Option.bind_some]
    rw [w64_in (n := k + 1) (by omega)]
    obtain ⟨e1, k1, g1, l1, m1⟩ := mark_LineS y.lines (k + 1) fuel (by omega) (by omega) (by omega)
    rw [bnd g1]
    dsimp only
    try simp only [getI_pre1, set_pre1, Option.bind_some]
    rw [w64_in (n := (pre.length : Int) + 1) (by omega)]
    obtain ⟨ys', k', h1, h2, h3⟩ := ih (pre ++ [(Season.mk (k) e1)]) (k1) f (by omega) (by omega) (by simp at hl ⊢; omega) (by omega) (by omega)
    refine ⟨(Season.mk (k) e1) :: ys', k', ?_, by omega, by simp only [List.map_cons, List.sum_cons, List.length_cons]; omega⟩
    · simp only [List.append_assoc, List.cons_append, List.nil_append, List.length_append, List.length_cons, List.length_nil, Nat.zero_add, Int.natCast_add, Int.natCast_one] at h1
      simpa using h1
theorem mark_SeasonS (a : List Season) (k : Int) (fuel : Nat) (h0 : 0 ≤ k) (hk : k + (cSeasonS a : Int) ≤ 1099511627776) (hf : cSeasonS a < fuel) : ∃ a' k', laws_markSeasonS_p fuel a k = some (a', k') ∧ k ≤ k' ∧ k' ≤ k + (cSeasonS a : Int) := by
  obtain ⟨a', k', h1, h2, h3⟩ := mark_SeasonS_l fuel a [] k fuel h0 (by unfold cSeasonS at hk; exact hk) (by have := cl_SeasonS a; simp; omega) (by have := cl_SeasonS a; omega) (by unfold cSeasonS at hf; exact hf)
  exact ⟨a', k', h1, h2, by unfold cSeasonS; exact h3⟩
def cWorld (x : World) : Nat := 0 + cSeasonS x.seasons + cIntS x.weights
theorem c_World (x : World) : cWorld x ≤ 0 + 16 * nWorld x := by
  unfold cWorld nWorld
  have := c_SeasonS x.seasons
  have := c_IntS x.weights
  omega
theorem mark_World (a : World) (k : Int) (fuel : Nat) (h0 : 0 ≤ k) (hk : k + (cWorld a : Int) ≤ 1099511627776) (hf : cWorld a < fuel) : ∃ a' k', laws_markWorld_p fuel a k = some (a', k') ∧ k ≤ k' ∧ k' ≤ k + (cWorld a : Int) := by
  unfold laws_markWorld_p
  unfold cWorld at hk hf ⊢
  obtain ⟨e1, k1, g1, l1, m1⟩ := mark_SeasonS a.seasons k fuel (by omega) (by omega) (by omega)
  rw [bnd g1]
  obtain ⟨e2, k2, g2, l2, m2⟩ := mark_IntS a.weights k1 fuel (by omega) (by omega) (by omega)
  rw [bnd g2]
  refine ⟨_, _, rfl, by omega, by omega⟩
theorem markS_World {a a' : World} {k k' : Int} {fuel : Nat} (h : laws_markWorld_p fuel a k = some (a', k')) : a' = World.mk a'.seasons a'.weights := by
  unfold laws_markWorld_p at h
  obtain ⟨_, _, h⟩ := bindE h
  obtain ⟨_, _, h⟩ := bindE h
  cases someE h
  rfl
theorem sz_IntS (a : List Int) (hw : wfIntS a) (n : Int) (h0 : 0 ≤ n) (hn : n ≤ 1048576) : ∃ r, laws_szIntS_p a n = some r ∧ (r < 0 ∨ (0 ≤ r ∧ (nIntS a : Int) + r ≤ n)) := by
  have hl := hw.1
  unfold maxN at hl
  unfold laws_szIntS_p
  rw [w64_in (by omega)]
  by_cases h : n - (a.length : Int) < 0
  · rw [decide_eq_true h]; exact ⟨-1, rfl, .inl (by decide)⟩
  · rw [decide_eq_false h]; exact ⟨_, rfl, .inr ⟨by omega, by unfold nIntS; omega⟩⟩
theorem sz_Line (a : Line) (hw : wfLine a) (n : Int) (h0 : 0 ≤ n) (hn : n ≤ 1048576) : ∃ r, laws_szLine_p a n = some r ∧ (r < 0 ∨ (0 ≤ r ∧ (nLine a : Int) + r ≤ n)) := by
  unfold laws_szLine_p
  obtain ⟨w0, w1, w2⟩ := hw
  obtain ⟨r1, h1, g1⟩ := sz_IntS a.events w1 n (by omega) (by omega)
  rw [bnd h1]
  rcases g1 with g1 | ⟨g1, k1⟩
  · rw [decide_eq_true g1]; exact ⟨-1, rfl, .inl (by decide)⟩
  rw [decide_eq_false (by omega : ¬ r1 < 0), cond_false]
  obtain ⟨r2, h2, g2⟩ := sz_IntS a.points w2 r1 (by omega) (by omega)
  rw [bnd h2]
  rcases g2 with g2 | ⟨g2, k2⟩
  · rw [decide_eq_true g2]; exact ⟨-1, rfl, .inl (by decide)⟩
  rw [decide_eq_false (by omega : ¬ r2 < 0), cond_false]
  exact ⟨_, rfl, .inr ⟨by omega, by unfold nLine; omega⟩⟩
theorem sz_LineS_l (ys : List Line) (hw : ∀ x ∈ ys, wfLine x) : ∀ (k : Nat) (n : Int), 0 ≤ n → n ≤ 1048576 → ∃ r, laws_szLineS_l1 ys k n = some r ∧ (r < 0 ∨ (0 ≤ r ∧ (((ys.map fun x => nLine x).sum : Nat) : Int) + r ≤ n)) := by
  induction ys with
  | nil => intro k n h0 hn; exact ⟨n, by rw [laws_szLineS_l1], .inr ⟨h0, by simp⟩⟩
  | cons y ys ih =>
    intro k n h0 hn
    rw [laws_szLineS_l1]
    obtain ⟨r0, h1, h2⟩ := sz_Line y (hw y (by simp)) n h0 hn
    rw [bnd h1]
    rcases h2 with h2 | ⟨h2, h3⟩
    · rw [decide_eq_true h2]; exact ⟨-1, rfl, .inl (by decide)⟩
    · rw [decide_eq_false (by omega)]
      obtain ⟨r, h4, h5⟩ := ih (fun x hx => hw x (by simp [hx])) (k + 1) r0 h2 (by omega)
      refine ⟨r, h4, h5.imp (fun h => h) fun h => ⟨h.1, ?_⟩⟩
      simp only [List.map_cons, List.sum_cons]
      omega
theorem sz_LineS (a : List Line) (hw : wfLineS a) (n : Int) (h0 : 0 ≤ n) (hn : n ≤ 1048576) : ∃ r, laws_szLineS_p a n = some r ∧ (r < 0 ∨ (0 ≤ r ∧ (nLineS a : Int) + r ≤ n)) := by
  have hl := hw.1
  unfold maxN at hl
  unfold laws_szLineS_p
  rw [w64_in (by omega)]
  by_cases h : n - (a.length : Int) < 0
  · rw [decide_eq_true h]; exact ⟨-1, rfl, .inl (by decide)⟩
  · rw [decide_eq_false h]
    obtain ⟨r, h1, h2⟩ := sz_LineS_l a hw.2 0 (n - (a.length : Int)) (by omega) (by omega)
    exact ⟨r, h1, h2.imp (fun h => h) fun h => ⟨h.1, by unfold nLineS; omega⟩⟩
theorem sz_Season (a : Season) (hw : wfSeason a) (n : Int) (h0 : 0 ≤ n) (hn : n ≤ 1048576) : ∃ r, laws_szSeason_p a n = some r ∧ (r < 0 ∨ (0 ≤ r ∧ (nSeason a : Int) + r ≤ n)) := by
  unfold laws_szSeason_p
  obtain ⟨w0, w1⟩ := hw
  obtain ⟨r1, h1, g1⟩ := sz_LineS a.lines w1 n (by omega) (by omega)
  rw [bnd h1]
  rcases g1 with g1 | ⟨g1, k1⟩
  · rw [decide_eq_true g1]; exact ⟨-1, rfl, .inl (by decide)⟩
  rw [decide_eq_false (by omega : ¬ r1 < 0), cond_false]
  exact ⟨_, rfl, .inr ⟨by omega, by unfold nSeason; omega⟩⟩
theorem sz_SeasonS_l (ys : List Season) (hw : ∀ x ∈ ys, wfSeason x) : ∀ (k : Nat) (n : Int), 0 ≤ n → n ≤ 1048576 → ∃ r, laws_szSeasonS_l1 ys k n = some r ∧ (r < 0 ∨ (0 ≤ r ∧ (((ys.map fun x => nSeason x).sum : Nat) : Int) + r ≤ n)) := by
  induction ys with
  | nil => intro k n h0 hn; exact ⟨n, by rw [laws_szSeasonS_l1], .inr ⟨h0, by simp⟩⟩
  | cons y ys ih =>
    intro k n h0 hn
    rw [laws_szSeasonS_l1]
    obtain ⟨r0, h1, h2⟩ := sz_Season y (hw y (by simp)) n h0 hn
    rw [bnd h1]
    rcases h2 with h2 | ⟨h2, h3⟩
    · rw [decide_eq_true h2]; exact ⟨-1, rfl, .inl (by decide)⟩
    · rw [decide_eq_false (by omega)]
      obtain ⟨r, h4, h5⟩ := ih (fun x hx => hw x (by simp [hx])) (k + 1) r0 h2 (by omega)
      refine ⟨r, h4, h5.imp (fun h => h) fun h => ⟨h.1, ?_⟩⟩
      simp only [List.map_cons, List.sum_cons]
      omega
theorem sz_SeasonS (a : List Season) (hw : wfSeasonS a) (n : Int) (h0 : 0 ≤ n) (hn : n ≤ 1048576) : ∃ r, laws_szSeasonS_p a n = some r ∧ (r < 0 ∨ (0 ≤ r ∧ (nSeasonS a : Int) + r ≤ n)) := by
  have hl := hw.1
  unfold maxN at hl
  unfold laws_szSeasonS_p
  rw [w64_in (by omega)]
  by_cases h : n - (a.length : Int) < 0
  · rw [decide_eq_true h]; exact ⟨-1, rfl, .inl (by decide)⟩
  · rw [decide_eq_false h]
    obtain ⟨r, h1, h2⟩ := sz_SeasonS_l a hw.2 0 (n - (a.length : Int)) (by omega) (by omega)
    exact ⟨r, h1, h2.imp (fun h => h) fun h => ⟨h.1, by unfold nSeasonS; omega⟩⟩
theorem sz_World (a : World) (hw : wfWorld a) (n : Int) (h0 : 0 ≤ n) (hn : n ≤ 1048576) : ∃ r, laws_szWorld_p a n = some r ∧ (r < 0 ∨ (0 ≤ r ∧ (nWorld a : Int) + r ≤ n)) := by
  unfold laws_szWorld_p
  obtain ⟨w0, w1⟩ := hw
  obtain ⟨r1, h1, g1⟩ := sz_SeasonS a.seasons w0 n (by omega) (by omega)
  rw [bnd h1]
  rcases g1 with g1 | ⟨g1, k1⟩
  · rw [decide_eq_true g1]; exact ⟨-1, rfl, .inl (by decide)⟩
  rw [decide_eq_false (by omega : ¬ r1 < 0), cond_false]
  obtain ⟨r2, h2, g2⟩ := sz_IntS a.weights w1 r1 (by omega) (by omega)
  rw [bnd h2]
  rcases g2 with g2 | ⟨g2, k2⟩
  · rw [decide_eq_true g2]; exact ⟨-1, rfl, .inl (by decide)⟩
  rw [decide_eq_false (by omega : ¬ r2 < 0), cond_false]
  exact ⟨_, rfl, .inr ⟨by omega, by unfold nWorld; omega⟩⟩
theorem to_IntS_l (z : Int) (ys : List Int) : ∀ pre : List Int, laws_toIntS_l1 ys pre.length (pre ++ List.replicate ys.length z) = some (pre ++ ys) := by
  induction ys with
  | nil => intro pre; rw [laws_toIntS_l1]; simp
  | cons y ys ih =>
    intro pre
    rw [laws_toIntS_l1, List.length_cons, bnd (show getI (pre ++ List.replicate (ys.length + 1) z) (pre.length : Int) = some z from getI_pre pre z (List.replicate ys.length z) rfl), set_step]
    have := ih (pre ++ [y])
    simpa using this
theorem to_IntS (a : List Int) (h : nIntS a ≤ 1048576) : laws_toIntS_p a = some a := by
  have hl : a.length ≤ 1048576 := by unfold nIntS at h; omega
  unfold laws_toIntS_p
  rw [bnd (x := ()) (by rw [decide_eq_true (by omega), fits_of (by simp only [Int.toNat_natCast]; omega)]; rfl)]
  exact to_IntS_l _ a []
theorem to_Line (a : Line) (h : nLine a ≤ 1048576) : laws_toLine_p a = some a := by
  unfold laws_toLine_p
  unfold nLine at h
  rw [bnd (to_IntS a.events (by omega))]
  rw [bnd (to_IntS a.points (by omega))]
  all_goals rfl
theorem to_LineS_l (z : Line) (ys : List Line) (hy : ∀ y ∈ ys, laws_toLine_p y = some y) : ∀ pre : List Line, laws_toLineS_l1 ys pre.length (pre ++ List.replicate ys.length z) = some (pre ++ ys) := by
  induction ys with
  | nil => intro pre; rw [laws_toLineS_l1]; simp
  | cons y ys ih =>
    intro pre
    rw [laws_toLineS_l1, bnd (hy y (by simp)), List.length_cons, bnd (show getI (pre ++ List.replicate (ys.length + 1) z) (pre.length : Int) = some z from getI_pre pre z (List.replicate ys.length z) rfl), set_step]
    have := ih (fun x hx => hy x (by simp [hx])) (pre ++ [y])
    simpa using this
theorem to_LineS (a : List Line) (h : nLineS a ≤ 1048576) : laws_toLineS_p a = some a := by
  have hl : a.length ≤ 1048576 := by unfold nLineS at h; omega
  unfold laws_toLineS_p
  rw [bnd (x := ()) (by rw [decide_eq_true (by omega), fits_of (by simp only [Int.toNat_natCast]; omega)]; rfl)]
  exact to_LineS_l _ a (fun y hy => to_Line y (Nat.le_trans (Nat.le_trans (le_sum hy (fun x => nLine x)) (Nat.le_add_left _ _)) h)) []
theorem to_Season (a : Season) (h : nSeason a ≤ 1048576) : laws_toSeason_p a = some a := by
  unfold laws_toSeason_p
  unfold nSeason at h
  rw [bnd (to_LineS a.lines (by omega))]
  all_goals rfl
theorem to_SeasonS_l (z : Season) (ys : List Season) (hy : ∀ y ∈ ys, laws_toSeason_p y = some y) : ∀ pre : List Season, laws_toSeasonS_l1 ys pre.length (pre ++ List.replicate ys.length z) = some (pre ++ ys) := by
  induction ys with
  | nil => intro pre; rw [laws_toSeasonS_l1]; simp
  | cons y ys ih =>
    intro pre
    rw [laws_toSeasonS_l1, bnd (hy y (by simp)), List.length_cons, bnd (show getI (pre ++ List.replicate (ys.length + 1) z) (pre.length : Int) = some z from getI_pre pre z (List.replicate ys.length z) rfl), set_step]
    have := ih (fun x hx => hy x (by simp [hx])) (pre ++ [y])
    simpa using this
theorem to_SeasonS (a : List Season) (h : nSeasonS a ≤ 1048576) : laws_toSeasonS_p a = some a := by
  have hl : a.length ≤ 1048576 := by unfold nSeasonS at h; omega
  unfold laws_toSeasonS_p
  rw [bnd (x := ()) (by rw [decide_eq_true (by omega), fits_of (by simp only [Int.toNat_natCast]; omega)]; rfl)]
  exact to_SeasonS_l _ a (fun y hy => to_Season y (Nat.le_trans (Nat.le_trans (le_sum hy (fun x => nSeason x)) (Nat.le_add_left _ _)) h)) []
theorem to_World (a : World) (h : nWorld a ≤ 1048576) : laws_toWorld_p a = some a := by
  unfold laws_toWorld_p
  unfold nWorld at h
  rw [bnd (to_SeasonS a.seasons (by omega))]
  rw [bnd (to_IntS a.weights (by omega))]
  all_goals rfl

end Go.Proofs.YtekdnjnefbkikaaGreat
