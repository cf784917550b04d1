/- Plain lemmas on what the law FnExactFreshSeason makes of its arguments: sizes, copies, comparisons. No condition. -/
import Derived.Test.YtfgpeaiepfdemaaWalk2
set_option maxRecDepth 4000
set_option linter.unusedVariables false
set_option linter.unusedSimpArgs false
set_option linter.unusedSectionVars false

namespace Go.Proofs.Ytfgpeaiepfdemaa
open Go.AM
theorem hasInt_3 {ds : List D} (h : HasT te 3 ds) : ∃ x : Int, ds = [.v (.int .i64 x)] ∧ inR x := by
  cases h with
  | int h' hw => cases h'; exact ⟨_, rfl, inR_of hw⟩
  | bool h' => cases h'
  | str h' _ => cases h'
  | slice h' _ _ => cases h'
  | struct h' _ _ => cases h'
def wfEntry (x : Entry) : Prop := inR x.event ∧ inR x.skater ∧ inR x.points
theorem hasEntry_56 {ds : List D} (h : HasT te 56 ds) : ∃ x : Entry, ds = encEntry x ∧ wfEntry x := by
  cases h with
  | struct h' hl hf =>
    cases h'
    match ds, hl with
    | [c0, c1, c2], _ =>
      obtain ⟨x0, e0, w0⟩ := hasInt_3 (hf (0, 3) (by simp) _ rfl)
      obtain ⟨x1, e1, w1⟩ := hasInt_3 (hf (1, 3) (by simp) _ rfl)
      obtain ⟨x2, e2, w2⟩ := hasInt_3 (hf (2, 3) (by simp) _ rfl)
      cases e0
      cases e1
      cases e2
      exact ⟨⟨x0, x1, x2⟩, rfl, ⟨w0, w1, w2⟩⟩
  | int h' _ => cases h'
  | bool h' => cases h'
  | str h' _ => cases h'
  | slice h' _ _ => cases h'
def nEntryS (l : List Entry) : Nat := l.length
def wfEntryS (l : List Entry) : Prop := l.length ≤ maxN ∧ ∀ x ∈ l, wfEntry x
theorem hasEntryS_47 {ds : List D} (h : HasT te 47 ds) : ∃ x : List Entry, ds = [.s (x.map encEntry)] ∧ wfEntryS x := by
  cases h with
  | slice h' hl hx =>
    cases h'
    obtain ⟨l, rfl, hp⟩ := list_of_each (f := encEntry) (p := fun x => wfEntry x) fun x hx' => (hasEntry_56 (hx x hx')).imp fun a ha => ⟨ha.2, ha.1⟩
    exact ⟨l, rfl, by simpa using hl, hp⟩
  | int h' _ => cases h'
  | bool h' => cases h'
  | str h' _ => cases h'
  | struct h' _ _ => cases h'
theorem eq_Entry (a b : Entry) : laws_eqEntry_p a b = some (decide (a = b)) := by
  cases a with | mk a0 a1 a2 =>
  cases b with | mk b0 b1 b2 =>
  unfold laws_eqEntry_p
  by_cases e0 : a0 = b0
  case neg => simp [show (a0 != b0) = true from by simpa using e0, e0]
  subst e0
  simp only [bne_self_eq_false, cond_false, beq_self_eq_true, decide_true, Bool.not_true]
  by_cases e1 : a1 = b1
  case neg => simp [show (a1 != b1) = true from by simpa using e1, e1]
  subst e1
  simp only [bne_self_eq_false, cond_false, beq_self_eq_true, decide_true, Bool.not_true]
  by_cases e2 : a2 = b2
  case neg => simp [show (a2 != b2) = true from by simpa using e2, e2]
  subst e2
  simp only [bne_self_eq_false, cond_false, beq_self_eq_true, decide_true, Bool.not_true]
  all_goals (try simp)
theorem eq_EntryS_l (ys : List Entry) : ∀ (pre zs : List Entry), ys.length = zs.length → laws_eqEntryS_l1 (pre ++ zs) ys pre.length = some (decide (ys = zs)) := by
  induction ys with
  | nil => intro pre zs h; obtain rfl : zs = [] := List.eq_nil_of_length_eq_zero h.symm; rw [laws_eqEntryS_l1]; simp
  | cons y ys ih =>
    intro pre zs h
    cases zs with
    | nil => simp at h
    | cons z zs =>
    rw [laws_eqEntryS_l1, bnd (getI_pre pre z zs rfl), bnd (eq_Entry y z)]
    have h1 := ih (pre ++ [z]) zs (by simpa using h)
    simp only [List.append_assoc, List.cons_append, List.nil_append, List.length_append, List.length_cons, List.length_nil, Nat.zero_add] at h1
    by_cases e : y = z
    · rw [decide_eq_true e]; simp only [Bool.not_true, cond_false]; rw [h1, e]; simp
    · rw [decide_eq_false e]; simp [e]
theorem eq_EntryS (a b : List Entry) : laws_eqEntryS_p a b = some (decide (a = b)) := by
  unfold laws_eqEntryS_p
  by_cases h : a.length = b.length
  · rw [show ((a.length : Int) != (b.length : Int)) = false from by simp [h], cond_false]
    exact eq_EntryS_l a [] b h
  · rw [show ((a.length : Int) != (b.length : Int)) = true from by simpa using (by omega), cond_true]
    rw [decide_eq_false (fun e => h (by rw [e]))]
theorem eq_IntS_l (ys : List Int) : ∀ (pre zs : List Int), ys.length = zs.length → laws_eqIntS_l1 (pre ++ zs) ys pre.length = some (decide (ys = zs)) := by
  induction ys with
  | nil => intro pre zs h; obtain rfl : zs = [] := List.eq_nil_of_length_eq_zero h.symm; rw [laws_eqIntS_l1]; simp
  | cons y ys ih =>
    intro pre zs h
    cases zs with
    | nil => simp at h
    | cons z zs =>
    rw [laws_eqIntS_l1, bnd (getI_pre pre z zs rfl)]
    have h1 := ih (pre ++ [z]) zs (by simpa using h)
    simp only [List.append_assoc, List.cons_append, List.nil_append, List.length_append, List.length_cons, List.length_nil, Nat.zero_add] at h1
    by_cases e : y = z
    · subst e; simp only [bne_self_eq_false, cond_false]; rw [h1]; simp
    · rw [show (y != z) = true from by simpa using e]; simp [e]
theorem eq_IntS (a b : List Int) : laws_eqIntS_p a b = some (decide (a = b)) := by
  unfold laws_eqIntS_p
  by_cases h : a.length = b.length
  · rw [show ((a.length : Int) != (b.length : Int)) = false from by simp [h], cond_false]
    exact eq_IntS_l a [] b h
  · rw [show ((a.length : Int) != (b.length : Int)) = true from by simpa using (by omega), cond_true]
    rw [decide_eq_false (fun e => h (by rw [e]))]
theorem eq_Line (a b : Line) : laws_eqLine_p a b = some (decide (a = b)) := by
  cases a with | mk a0 a1 a2 =>
  cases b with | mk b0 b1 b2 =>
  unfold laws_eqLine_p
  by_cases e0 : a0 = b0
  case neg => simp [show (a0 != b0) = true from by simpa using e0, e0]
  subst e0
  simp only [bne_self_eq_false, cond_false, beq_self_eq_true, decide_true, Bool.not_true]
  by_cases e1 : a1 = b1
  case neg => simp [eq_IntS, e1, bnd]
  subst e1
  simp only [eq_IntS, decide_true, Option.bind_some, Bool.not_true, cond_false, bne_self_eq_false, beq_self_eq_true]
  by_cases e2 : a2 = b2
  case neg => simp [eq_IntS, e2, bnd]
  subst e2
  simp only [eq_IntS, decide_true, Option.bind_some, Bool.not_true, cond_false, bne_self_eq_false, beq_self_eq_true]
  all_goals (try simp)
theorem eq_LineS_l (ys : List Line) : ∀ (pre zs : List Line), ys.length = zs.length → laws_eqLineS_l1 (pre ++ zs) ys pre.length = some (decide (ys = zs)) := by
  induction ys with
  | nil => intro pre zs h; obtain rfl : zs = [] := List.eq_nil_of_length_eq_zero h.symm; rw [laws_eqLineS_l1]; simp
  | cons y ys ih =>
    intro pre zs h
    cases zs with
    | nil => simp at h
    | cons z zs =>
    rw [laws_eqLineS_l1, bnd (getI_pre pre z zs rfl), bnd (eq_Line y z)]
    have h1 := ih (pre ++ [z]) zs (by simpa using h)
    simp only [List.append_assoc, List.cons_append, List.nil_append, List.length_append, List.length_cons, List.length_nil, Nat.zero_add] at h1
    by_cases e : y = z
    · rw [decide_eq_true e]; simp only [Bool.not_true, cond_false]; rw [h1, e]; simp
    · rw [decide_eq_false e]; simp [e]
theorem eq_LineS (a b : List Line) : laws_eqLineS_p a b = some (decide (a = b)) := by
  unfold laws_eqLineS_p
  by_cases h : a.length = b.length
  · rw [show ((a.length : Int) != (b.length : Int)) = false from by simp [h], cond_false]
    exact eq_LineS_l a [] b h
  · rw [show ((a.length : Int) != (b.length : Int)) = true from by simpa using (by omega), cond_true]
    rw [decide_eq_false (fun e => h (by rw [e]))]
theorem eq_Season (a b : Season) : laws_eqSeason_p a b = some (decide (a = b)) := by
  cases a with | mk a0 a1 =>
  cases b with | mk b0 b1 =>
  unfold laws_eqSeason_p
  by_cases e0 : a0 = b0
  case neg => simp [show (a0 != b0) = true from by simpa using e0, e0]
  subst e0
  simp only [bne_self_eq_false, cond_false, beq_self_eq_true, decide_true, Bool.not_true]
  by_cases e1 : a1 = b1
  case neg => simp [eq_LineS, e1, bnd]
  subst e1
  simp only [eq_LineS, decide_true, Option.bind_some, Bool.not_true, cond_false, bne_self_eq_false, beq_self_eq_true]
  all_goals (try simp)
def cEntry (x : Entry) : Nat := 3
def cEntryS (l : List Entry) : Nat := (l.map fun x => 1 + cEntry x).sum
theorem c_EntryS (l : List Entry) : cEntryS l ≤ 16 * nEntryS l := by
  unfold cEntryS nEntryS
  induction l with
  | nil => simp
  | cons y l ih =>
    have : cEntry y ≤ 3 := by unfold cEntry; omega
    simp only [List.map_cons, List.sum_cons, List.length_cons] at ih ⊢
    omega
theorem cl_EntryS (l : List Entry) : l.length ≤ cEntryS l := by
  unfold cEntryS
  induction l with
  | nil => simp
  | cons y l ih => simp only [List.map_cons, List.sum_cons, List.length_cons]; omega
theorem mark_EntryS_l : ∀ (ys pre : List Entry) (k : Int) (f : Nat), 0 ≤ k → k + (((ys.map fun x => 1 + cEntry x).sum : Nat) : Int) ≤ 1099511627776 → (pre ++ ys).length ≤ 1099511627776 → ys.length < f → ∃ ys' k', laws_markEntryS_l1 f (pre ++ ys) k (pre.length : Int) = some (pre ++ ys', k') ∧ k ≤ k' ∧ k' ≤ k + (((ys.map fun x => 1 + cEntry x).sum : Nat) : Int) := by
  intro ys
  induction ys with
  | nil =>
    intro pre k f h0 hk hl hf
    obtain ⟨f, rfl⟩ := Nat.exists_eq_succ_of_ne_zero (by omega : f ≠ 0)
    refine ⟨[], k, ?_, Int.le_refl _, by simp⟩
    rw [laws_markEntryS_l1, decide_eq_false (by simp), cond_false]
  | cons y ys ih =>
    intro pre k f h0 hk hl hf
    obtain ⟨f, rfl⟩ := Nat.exists_eq_succ_of_ne_zero (by omega : f ≠ 0)
    simp only [List.map_cons, List.sum_cons, List.length_cons] at hk hf
    have hp : pre.length + 1 ≤ 1099511627776 := by simp at hl; omega
    have hcy : cEntry y = 3 := rfl
    rw [laws_markEntryS_l1, decide_eq_true (by simp only [List.length_append, List.length_cons]; omega), cond_true]
    simp only [getI_pre1, set_pre1, Option.bind_some]
    rw [w64_in (n := k + 1) (by omega)]
    rw [w64_in (n := k + 1 + 1) (by omega)]
    rw [w64_in (n := k + 1 + 1 + 1) (by omega)]
    rw [w64_in (n := (pre.length : Int) + 1) (by omega)]
    obtain ⟨ys', k', h1, h2, h3⟩ := ih (pre ++ [(Entry.mk (k) (k + 1) (k + 1 + 1))]) (k + 1 + 1 + 1) f (by omega) (by omega) (by simp at hl ⊢; omega) (by omega)
    refine ⟨(Entry.mk (k) (k + 1) (k + 1 + 1)) :: ys', k', ?_, by omega, by simp only [List.map_cons, List.sum_cons, List.length_cons]; omega⟩
    · simp only [List.append_assoc, List.cons_append, List.nil_append, List.length_append, List.length_cons, List.length_nil, Nat.zero_add, Int.natCast_add, Int.natCast_one] at h1
      simpa using h1
theorem mark_EntryS (a : List Entry) (k : Int) (fuel : Nat) (h0 : 0 ≤ k) (hk : k + (cEntryS a : Int) ≤ 1099511627776) (hf : cEntryS a < fuel) : ∃ a' k', laws_markEntryS_p fuel a k = some (a', k') ∧ k ≤ k' ∧ k' ≤ k + (cEntryS a : Int) := by
  obtain ⟨a', k', h1, h2, h3⟩ := mark_EntryS_l a [] k fuel h0 (by unfold cEntryS at hk; exact hk) (by have := cl_EntryS a; simp; omega) (by have := cl_EntryS a; omega)
  exact ⟨a', k', h1, h2, by unfold cEntryS; exact h3⟩
def nIntS (l : List Int) : Nat := l.length
def wfIntS (l : List Int) : Prop := l.length ≤ maxN ∧ ∀ x ∈ l, inR x
def cIntS (l : List Int) : Nat := l.length
theorem c_IntS (l : List Int) : cIntS l ≤ 16 * nIntS l := by unfold cIntS nIntS; omega
theorem mark_IntS_l : ∀ (ys pre : List Int) (k : Int) (f : Nat), 0 ≤ k → k + (ys.length : Int) ≤ 1099511627776 → (pre ++ ys).length ≤ 1099511627776 → ys.length < f → ∃ ys' k', laws_markIntS_l1 f (pre ++ ys) k (pre.length : Int) = some (pre ++ ys', k') ∧ k ≤ k' ∧ k' ≤ k + (ys.length : Int) ∧ ∀ j, laws_heldIntS_l1 ys' j k = some k' := by
  intro ys
  induction ys with
  | nil =>
    intro pre k f h0 hk hl hf
    obtain ⟨f, rfl⟩ := Nat.exists_eq_succ_of_ne_zero (by omega : f ≠ 0)
    refine ⟨[], k, ?_, Int.le_refl _, by simp, fun j => by rw [laws_heldIntS_l1]⟩
    rw [laws_markIntS_l1, decide_eq_false (by simp), cond_false]
  | cons y ys ih =>
    intro pre k f h0 hk hl hf
    obtain ⟨f, rfl⟩ := Nat.exists_eq_succ_of_ne_zero (by omega : f ≠ 0)
    simp only [List.length_cons] at hk hf
    have hp : pre.length + 1 ≤ 1099511627776 := by simp at hl; omega
    rw [laws_markIntS_l1, decide_eq_true (by simp only [List.length_append, List.length_cons]; omega), cond_true]
    simp only [getI_pre1, set_pre1, Option.bind_some]
    rw [w64_in (n := k + 1) (by omega)]
    rw [w64_in (n := (pre.length : Int) + 1) (by omega)]
    obtain ⟨ys', k', h1, h2, h3, hh⟩ := ih (pre ++ [k]) (k + 1) f (by omega) (by omega) (by simp at hl ⊢; omega) (by omega)
    refine ⟨k :: ys', k', ?_, by omega, by simp only [List.length_cons]; omega, ?_⟩
    · simp only [List.append_assoc, List.cons_append, List.nil_append, List.length_append, List.length_cons, List.length_nil, Nat.zero_add, Int.natCast_add, Int.natCast_one] at h1
      simpa using h1
    · intro j
      rw [laws_heldIntS_l1]
      rw [w64_in (n := k + 1) (by omega)]
      simpa using hh (j + 1)
theorem mark_IntS (a : List Int) (k : Int) (fuel : Nat) (h0 : 0 ≤ k) (hk : k + (cIntS a : Int) ≤ 1099511627776) (hf : cIntS a < fuel) : ∃ a' k', laws_markIntS_p fuel a k = some (a', k') ∧ k ≤ k' ∧ k' ≤ k + (cIntS a : Int) ∧ laws_heldIntS_p a' k = some k' := by
  obtain ⟨a', k', h1, h2, h3, h4⟩ := mark_IntS_l a [] k fuel h0 (by unfold cIntS at hk; exact hk) (by unfold cIntS at hk; simp; omega) (by unfold cIntS at hf; exact hf)
  exact ⟨a', k', h1, h2, by unfold cIntS; exact h3, h4 0⟩
def nLine (x : Line) : Nat := nIntS x.events + nIntS x.points
def wfLine (x : Line) : Prop := inR x.skater ∧ wfIntS x.events ∧ wfIntS x.points
def nLineS (l : List Line) : Nat := l.length + (l.map fun x => nLine x).sum
def wfLineS (l : List Line) : Prop := l.length ≤ maxN ∧ ∀ x ∈ l, wfLine x
def cLine (x : Line) : Nat := 1 + cIntS x.events + cIntS x.points
theorem c_Line (x : Line) : cLine x ≤ 1 + 16 * nLine x := by
  unfold cLine nLine
  have := c_IntS x.events
  have := c_IntS x.points
  omega
def cLineS (l : List Line) : Nat := (l.map fun x => 1 + cLine x).sum
theorem c_LineS (l : List Line) : cLineS l ≤ 16 * nLineS l := by
  unfold cLineS nLineS
  induction l with
  | nil => simp
  | cons y l ih =>
    have := c_Line y
    simp only [List.map_cons, List.sum_cons, List.length_cons] at ih ⊢
    omega
theorem cl_LineS (l : List Line) : l.length ≤ cLineS l := by
  unfold cLineS
  induction l with
  | nil => simp
  | cons y l ih => simp only [List.map_cons, List.sum_cons, List.length_cons]; omega
theorem mark_LineS_l (fuel : Nat) : ∀ (ys pre : List Line) (k : Int) (f : Nat), 0 ≤ k → k + (((ys.map fun x => 1 + cLine x).sum : Nat) : Int) ≤ 1099511627776 → (pre ++ ys).length ≤ 1099511627776 → ys.length < f → (ys.map fun x => 1 + cLine x).sum < fuel → ∃ ys' k', laws_markLineS_l1 fuel f (pre ++ ys) k (pre.length : Int) = some (pre ++ ys', k') ∧ k ≤ k' ∧ k' ≤ k + (((ys.map fun x => 1 + cLine x).sum : Nat) : Int) ∧ ∀ j, laws_heldLineS_l1 ys' j k = some k' := by
  intro ys
  induction ys with
  | nil =>
    intro pre k f h0 hk hl hf _
    obtain ⟨f, rfl⟩ := Nat.exists_eq_succ_of_ne_zero (by omega : f ≠ 0)
    refine ⟨[], k, ?_, Int.le_refl _, by simp, fun j => by rw [laws_heldLineS_l1]⟩
    rw [laws_markLineS_l1, decide_eq_false (by simp), cond_false]
  | cons y ys ih =>
    intro pre k f h0 hk hl hf hfu
    obtain ⟨f, rfl⟩ := Nat.exists_eq_succ_of_ne_zero (by omega : f ≠ 0)
    simp only [List.map_cons, List.sum_cons, List.length_cons] at hk hf hfu
    have hp : pre.length + 1 ≤ 1099511627776 := by simp at hl; omega
    have hcy : cLine y = 1 + cIntS y.events + cIntS y.points := rfl
    rw [laws_markLineS_l1, decide_eq_true (by simp only [List.length_append, List.length_cons]; omega), cond_true]
    simp only [getI_pre1, set_pre1, Option.bind_some]
    rw [w64_in (n := k + 1) (by omega)]
    obtain ⟨e1, k1, g1, l1, m1, d1⟩ := mark_IntS y.events (k + 1) fuel (by omega) (by omega) (by omega)
    rw [bnd g1]
    dsimp only
    try simp only [getI_pre1, set_pre1, Option.bind_some]
    obtain ⟨e2, k2, g2, l2, m2, d2⟩ := mark_IntS y.points (k1) fuel (by omega) (by omega) (by omega)
    rw [bnd g2]
    dsimp only
    try simp only [getI_pre1, set_pre1, Option.bind_some]
    rw [w64_in (n := (pre.length : Int) + 1) (by omega)]
    obtain ⟨ys', k', h1, h2, h3, hh⟩ := ih (pre ++ [(Line.mk (k) e1 e2)]) (k2) f (by omega) (by omega) (by simp at hl ⊢; omega) (by omega) (by omega)
    refine ⟨(Line.mk (k) e1 e2) :: ys', k', ?_, by omega, by simp only [List.map_cons, List.sum_cons, List.length_cons]; omega, ?_⟩
    · simp only [List.append_assoc, List.cons_append, List.nil_append, List.length_append, List.length_cons, List.length_nil, Nat.zero_add, Int.natCast_add, Int.natCast_one] at h1
      simpa using h1
    · intro j
      rw [laws_heldLineS_l1]
      rw [w64_in (n := k + 1) (by omega)]
      rw [bnd d1, decide_eq_false (by omega : ¬ k1 < 0)]
      rw [bnd d2, decide_eq_false (by omega : ¬ k2 < 0)]
      simpa using hh (j + 1)
theorem mark_LineS (a : List Line) (k : Int) (fuel : Nat) (h0 : 0 ≤ k) (hk : k + (cLineS a : Int) ≤ 1099511627776) (hf : cLineS a < fuel) : ∃ a' k', laws_markLineS_p fuel a k = some (a', k') ∧ k ≤ k' ∧ k' ≤ k + (cLineS a : Int) ∧ laws_heldLineS_p a' k = some k' := by
  obtain ⟨a', k', h1, h2, h3, h4⟩ := mark_LineS_l fuel a [] k fuel h0 (by unfold cLineS at hk; exact hk) (by have := cl_LineS a; simp; omega) (by have := cl_LineS a; omega) (by unfold cLineS at hf; exact hf)
  exact ⟨a', k', h1, h2, by unfold cLineS; exact h3, h4 0⟩
def nSeason (x : Season) : Nat := nLineS x.lines
def wfSeason (x : Season) : Prop := inR x.best ∧ wfLineS x.lines
def cSeason (x : Season) : Nat := 1 + cLineS x.lines
theorem c_Season (x : Season) : cSeason x ≤ 1 + 16 * nSeason x := by
  unfold cSeason nSeason
  have := c_LineS x.lines
  omega
theorem mark_Season (a : Season) (k : Int) (fuel : Nat) (h0 : 0 ≤ k) (hk : k + (cSeason a : Int) ≤ 1099511627776) (hf : cSeason a < fuel) : ∃ a' k', laws_markSeason_p fuel a k = some (a', k') ∧ k ≤ k' ∧ k' ≤ k + (cSeason a : Int) ∧ laws_heldSeason_p a' k = some k' := by
  unfold laws_markSeason_p
  unfold cSeason at hk hf ⊢
  obtain ⟨e1, k1, g1, l1, m1, d1⟩ := mark_LineS a.lines k fuel (by omega) (by omega) (by omega)
  rw [bnd g1]
  refine ⟨_, _, rfl, by omega, by omega, ?_⟩
  unfold laws_heldSeason_p
  dsimp only
  rw [bnd d1, decide_eq_false (by omega : ¬ k1 < 0), cond_false]
theorem markS_Season {a a' : Season} {k k' : Int} {fuel : Nat} (h : laws_markSeason_p fuel a k = some (a', k')) : a' = Season.mk a.best a'.lines := by
  unfold laws_markSeason_p at h
  obtain ⟨_, _, h⟩ := bindE h
  cases someE h
  rfl
theorem sz_EntryS (a : List Entry) (hw : wfEntryS a) (n : Int) (h0 : 0 ≤ n) (hn : n ≤ 1048576) : ∃ r, laws_szEntryS_p a n = some r ∧ (r < 0 ∨ (0 ≤ r ∧ (nEntryS a : Int) + r ≤ n)) := by
  have hl := hw.1
  unfold maxN at hl
  unfold laws_szEntryS_p
  rw [w64_in (by omega)]
  by_cases h : n - (a.length : Int) < 0
  · rw [decide_eq_true h]; exact ⟨-1, rfl, .inl (by decide)⟩
  · rw [decide_eq_false h]; exact ⟨_, rfl, .inr ⟨by omega, by unfold nEntryS; omega⟩⟩
theorem to_Entry (a : Entry) : laws_toEntry_p a = some a := by
  unfold laws_toEntry_p
  all_goals rfl
theorem to_EntryS_l (z : Entry) (ys : List Entry) (hy : ∀ y ∈ ys, laws_toEntry_p y = some y) : ∀ pre : List Entry, laws_toEntryS_l1 ys pre.length (pre ++ List.replicate ys.length z) = some (pre ++ ys) := by
  induction ys with
  | nil => intro pre; rw [laws_toEntryS_l1]; simp
  | cons y ys ih =>
    intro pre
    rw [laws_toEntryS_l1, bnd (hy y (by simp)), List.length_cons, bnd (show getI (pre ++ List.replicate (ys.length + 1) z) (pre.length : Int) = some z from getI_pre pre z (List.replicate ys.length z) rfl), set_step]
    have := ih (fun x hx => hy x (by simp [hx])) (pre ++ [y])
    simpa using this
theorem to_EntryS (a : List Entry) (h : nEntryS a ≤ 1048576) : laws_toEntryS_p a = some a := by
  have hl : a.length ≤ 1048576 := by unfold nEntryS at h; omega
  unfold laws_toEntryS_p
  rw [bnd (x := ()) (by rw [decide_eq_true (by omega), fits_of (by simp only [Int.toNat_natCast]; omega)]; rfl)]
  exact to_EntryS_l _ a (fun y _ => to_Entry y) []

end Go.Proofs.Ytfgpeaiepfdemaa
