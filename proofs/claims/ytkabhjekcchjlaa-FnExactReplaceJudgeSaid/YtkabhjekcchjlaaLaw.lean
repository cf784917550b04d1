/- Plain lemmas on what the law FnExactReplaceJudge makes of its arguments: sizes, copies, comparisons. No condition. -/
import Derived.Test.YtkabhjekcchjlaaWalk1
set_option maxRecDepth 4000
set_option maxHeartbeats 1000000
set_option linter.unusedVariables false
set_option linter.unusedSimpArgs false
set_option linter.unusedSectionVars false

namespace Go.Proofs.Ytkabhjekcchjlaa
open Go.AM
theorem hasInt_3 {ds : List D} (h : HasT te 3 ds) : ∃ x : Int, ds = [.v (.int .i64 x)] ∧ inR x := by
  cases h with
  | int h' hw => cases h'; exact ⟨_, rfl, inR_of hw⟩
  | bool h' => cases h'
  | str h' _ => cases h'
  | slice h' _ _ => cases h'
  | struct h' _ _ => cases h'
def nIntS (l : List Int) : Nat := l.length
def wfIntS (l : List Int) : Prop := l.length ≤ maxN ∧ ∀ x ∈ l, inR x
theorem hasIntS_22 {ds : List D} (h : HasT te 22 ds) : ∃ x : List Int, ds = [.s (x.map encInt)] ∧ wfIntS x := by
  cases h with
  | slice h' hl hx =>
    cases h'
    obtain ⟨l, rfl, hp⟩ := list_of_each (f := encInt) (p := fun x => inR x) fun x hx' => (hasInt_3 (hx x hx')).imp fun a ha => ⟨ha.2, ha.1⟩
    exact ⟨l, rfl, by simpa using hl, hp⟩
  | int h' _ => cases h'
  | bool h' => cases h'
  | str h' _ => cases h'
  | struct h' _ _ => cases h'
def wfOfficial (x : Official) : Prop := inR x.number ∧ inR x.club ∧ inR x.level
theorem hasOfficial_76 {ds : List D} (h : HasT te 76 ds) : ∃ x : Official, ds = encOfficial x ∧ wfOfficial x := by
  cases h with
  | struct h' hl hf =>
    cases h'
    match ds, hl with
    | [c0, c1, c2], _ =>
      obtain ⟨x0, e0, w0⟩ := hasInt_3 (hf (0, 3) (by simp) _ rfl)
      obtain ⟨x1, e1, w1⟩ := hasInt_3 (hf (1, 3) (by simp) _ rfl)
      obtain ⟨x2, e2, w2⟩ := hasInt_3 (hf (2, 3) (by simp) _ rfl)
      cases e0
      cases e1
      cases e2
      exact ⟨⟨x0, x1, x2⟩, rfl, ⟨w0, w1, w2⟩⟩
  | int h' _ => cases h'
  | bool h' => cases h'
  | str h' _ => cases h'
  | slice h' _ _ => cases h'
def nOfficialS (l : List Official) : Nat := l.length
def wfOfficialS (l : List Official) : Prop := l.length ≤ maxN ∧ ∀ x ∈ l, wfOfficial x
theorem hasOfficialS_23 {ds : List D} (h : HasT te 23 ds) : ∃ x : List Official, ds = [.s (x.map encOfficial)] ∧ wfOfficialS x := by
  cases h with
  | slice h' hl hx =>
    cases h'
    obtain ⟨l, rfl, hp⟩ := list_of_each (f := encOfficial) (p := fun x => wfOfficial x) fun x hx' => (hasOfficial_76 (hx x hx')).imp fun a ha => ⟨ha.2, ha.1⟩
    exact ⟨l, rfl, by simpa using hl, hp⟩
  | int h' _ => cases h'
  | bool h' => cases h'
  | str h' _ => cases h'
  | struct h' _ _ => cases h'
theorem eq_IntS_l (ys : List Int) : ∀ (pre zs : List Int), ys.length = zs.length → laws_eqIntS_l1 (pre ++ zs) ys pre.length = some (decide (ys = zs)) := by
  induction ys with
  | nil => intro pre zs h; obtain rfl : zs = [] := List.eq_nil_of_length_eq_zero h.symm; rw [laws_eqIntS_l1]; simp
  | cons y ys ih =>
    intro pre zs h
    cases zs with
    | nil => simp at h
    | cons z zs =>
    rw [laws_eqIntS_l1, bnd (getI_pre pre z zs rfl)]
    have h1 := ih (pre ++ [z]) zs (by simpa using h)
    simp only [List.append_assoc, List.cons_append, List.nil_append, List.length_append, List.length_cons, List.length_nil, Nat.zero_add] at h1
    by_cases e : y = z
    · subst e; simp only [bne_self_eq_false, cond_false]; rw [h1]; simp
    · rw [show (y != z) = true from by simpa using e]; simp [e]
theorem eq_IntS (a b : List Int) : laws_eqIntS_p a b = some (decide (a = b)) := by
  unfold laws_eqIntS_p
  by_cases h : a.length = b.length
  · rw [show ((a.length : Int) != (b.length : Int)) = false from by simp [h], cond_false]
    exact eq_IntS_l a [] b h
  · rw [show ((a.length : Int) != (b.length : Int)) = true from by simpa using (by omega), cond_true]
    rw [decide_eq_false (fun e => h (by rw [e]))]
theorem eq_Official (a b : Official) : laws_eqOfficial_p a b = some (decide (a = b)) := by
  cases a with | mk a0 a1 a2 =>
  cases b with | mk b0 b1 b2 =>
  unfold laws_eqOfficial_p
  by_cases e0 : a0 = b0
  case neg => simp [show (a0 != b0) = true from by simpa using e0, e0]
  subst e0
  simp only [bne_self_eq_false, cond_false, beq_self_eq_true, decide_true, Bool.not_true]
  by_cases e1 : a1 = b1
  case neg => simp [show (a1 != b1) = true from by simpa using e1, e1]
  subst e1
  simp only [bne_self_eq_false, cond_false, beq_self_eq_true, decide_true, Bool.not_true]
  by_cases e2 : a2 = b2
  case neg => simp [show (a2 != b2) = true from by simpa using e2, e2]
  subst e2
  simp only [bne_self_eq_false, cond_false, beq_self_eq_true, decide_true, Bool.not_true]
  all_goals (try simp)
theorem eq_OfficialS_l (ys : List Official) : ∀ (pre zs : List Official), ys.length = zs.length → laws_eqOfficialS_l1 (pre ++ zs) ys pre.length = some (decide (ys = zs)) := by
  induction ys with
  | nil => intro pre zs h; obtain rfl : zs = [] := List.eq_nil_of_length_eq_zero h.symm; rw [laws_eqOfficialS_l1]; simp
  | cons y ys ih =>
    intro pre zs h
    cases zs with
    | nil => simp at h
    | cons z zs =>
    rw [laws_eqOfficialS_l1, bnd (getI_pre pre z zs rfl), bnd (eq_Official y z)]
    have h1 := ih (pre ++ [z]) zs (by simpa using h)
    simp only [List.append_assoc, List.cons_append, List.nil_append, List.length_append, List.length_cons, List.length_nil, Nat.zero_add] at h1
    by_cases e : y = z
    · rw [decide_eq_true e]; simp only [Bool.not_true, cond_false]; rw [h1, e]; simp
    · rw [decide_eq_false e]; simp [e]
theorem eq_OfficialS (a b : List Official) : laws_eqOfficialS_p a b = some (decide (a = b)) := by
  unfold laws_eqOfficialS_p
  by_cases h : a.length = b.length
  · rw [show ((a.length : Int) != (b.length : Int)) = false from by simp [h], cond_false]
    exact eq_OfficialS_l a [] b h
  · rw [show ((a.length : Int) != (b.length : Int)) = true from by simpa using (by omega), cond_true]
    rw [decide_eq_false (fun e => h (by rw [e]))]
def cIntS (l : List Int) : Nat := l.length
theorem c_IntS (l : List Int) : cIntS l ≤ 16 * nIntS l := by unfold cIntS nIntS; omega
theorem mark_IntS_l : ∀ (ys pre : List Int) (k : Int) (f : Nat), 0 ≤ k → k + (ys.length : Int) ≤ 1099511627776 → (pre ++ ys).length ≤ 1099511627776 → ys.length < f → ∃ ys' k', laws_markIntS_l1 f (pre ++ ys) k (pre.length : Int) = some (pre ++ ys', k') ∧ k ≤ k' ∧ k' ≤ k + (ys.length : Int) ∧ ∀ j, laws_heldIntS_l1 ys' j k = some k' := by
  intro ys
  induction ys with
  | nil =>
    intro pre k f h0 hk hl hf
    obtain ⟨f, rfl⟩ := Nat.exists_eq_succ_of_ne_zero (by omega : f ≠ 0)
    refine ⟨[], k, ?_, Int.le_refl _, by simp, fun j => by rw [laws_heldIntS_l1]⟩
    rw [laws_markIntS_l1, decide_eq_false (by simp), cond_false]
  | cons y ys ih =>
    intro pre k f h0 hk hl hf
    obtain ⟨f, rfl⟩ := Nat.exists_eq_succ_of_ne_zero (by omega : f ≠ 0)
    simp only [List.length_cons] at hk hf
    have hp : pre.length + 1 ≤ 1099511627776 := by simp at hl; omega
    rw [laws_markIntS_l1, decide_eq_true (by simp only [List.length_append, List.length_cons]; omega), cond_true]
    simp only [getI_pre1, set_pre1, Option.bind_some]
    rw [w64_in (n := k + 1) (by omega)]
    rw [w64_in (n := (pre.length : Int) + 1) (by omega)]
    obtain ⟨ys', k', h1, h2, h3, hh⟩ := ih (pre ++ [k]) (k + 1) f (by omega) (by omega) (by simp at hl ⊢; omega) (by omega)
    refine ⟨k :: ys', k', ?_, by omega, by simp only [List.length_cons]; omega, ?_⟩
    · simp only [List.append_assoc, List.cons_append, List.nil_append, List.length_append, List.length_cons, List.length_nil, Nat.zero_add, Int.natCast_add, Int.natCast_one] at h1
      simpa using h1
    · intro j
      rw [laws_heldIntS_l1]
      rw [w64_in (n := k + 1) (by omega)]
      simpa using hh (j + 1)
theorem mark_IntS (a : List Int) (k : Int) (fuel : Nat) (h0 : 0 ≤ k) (hk : k + (cIntS a : Int) ≤ 1099511627776) (hf : cIntS a < fuel) : ∃ a' k', laws_markIntS_p fuel a k = some (a', k') ∧ k ≤ k' ∧ k' ≤ k + (cIntS a : Int) ∧ laws_heldIntS_p a' k = some k' := by
  obtain ⟨a', k', h1, h2, h3, h4⟩ := mark_IntS_l a [] k fuel h0 (by unfold cIntS at hk; exact hk) (by unfold cIntS at hk; simp; omega) (by unfold cIntS at hf; exact hf)
  exact ⟨a', k', h1, h2, by unfold cIntS; exact h3, h4 0⟩
def cOfficial (x : Official) : Nat := 3
def cOfficialS (l : List Official) : Nat := (l.map fun x => 1 + cOfficial x).sum
theorem c_OfficialS (l : List Official) : cOfficialS l ≤ 16 * nOfficialS l := by
  unfold cOfficialS nOfficialS
  induction l with
  | nil => simp
  | cons y l ih =>
    have : cOfficial y ≤ 3 := by unfold cOfficial; omega
    simp only [List.map_cons, List.sum_cons, List.length_cons] at ih ⊢
    omega
theorem cl_OfficialS (l : List Official) : l.length ≤ cOfficialS l := by
  unfold cOfficialS
  induction l with
  | nil => simp
  | cons y l ih => simp only [List.map_cons, List.sum_cons, List.length_cons]; omega
theorem mark_OfficialS_l : ∀ (ys pre : List Official) (k : Int) (f : Nat), 0 ≤ k → k + (((ys.map fun x => 1 + cOfficial x).sum : Nat) : Int) ≤ 1099511627776 → (pre ++ ys).length ≤ 1099511627776 → ys.length < f → ∃ ys' k', laws_markOfficialS_l1 f (pre ++ ys) k (pre.length : Int) = some (pre ++ ys', k') ∧ k ≤ k' ∧ k' ≤ k + (((ys.map fun x => 1 + cOfficial x).sum : Nat) : Int) := by
  intro ys
  induction ys with
  | nil =>
    intro pre k f h0 hk hl hf
    obtain ⟨f, rfl⟩ := Nat.exists_eq_succ_of_ne_zero (by omega : f ≠ 0)
    refine ⟨[], k, ?_, Int.le_refl _, by simp⟩
    rw [laws_markOfficialS_l1, decide_eq_false (by simp), cond_false]
  | cons y ys ih =>
    intro pre k f h0 hk hl hf
    obtain ⟨f, rfl⟩ := Nat.exists_eq_succ_of_ne_zero (by omega : f ≠ 0)
    simp only [List.map_cons, List.sum_cons, List.length_cons] at hk hf
    have hp : pre.length + 1 ≤ 1099511627776 := by simp at hl; omega
    have hcy : cOfficial y = 3 := rfl
    rw [laws_markOfficialS_l1, decide_eq_true (by simp only [List.length_append, List.length_cons]; omega), cond_true]
    simp only [getI_pre1, set_pre1, Option.bind_some]
    rw [w64_in (n := k + 1) (by omega)]
    rw [w64_in (n := k + 1 + 1) (by omega)]
    rw [w64_in (n := k + 1 + 1 + 1) (by omega)]
    rw [w64_in (n := (pre.length : Int) + 1) (by omega)]
    obtain ⟨ys', k', h1, h2, h3⟩ := ih (pre ++ [(Official.mk (k) (k + 1) (k + 1 + 1))]) (k + 1 + 1 + 1) f (by omega) (by omega) (by simp at hl ⊢; omega) (by omega)
    refine ⟨(Official.mk (k) (k + 1) (k + 1 + 1)) :: ys', k', ?_, by omega, by simp only [List.map_cons, List.sum_cons, List.length_cons]; omega⟩
    · simp only [List.append_assoc, List.cons_append, List.nil_append, List.length_append, List.length_cons, List.length_nil, Nat.zero_add, Int.natCast_add, Int.natCast_one] at h1
      simpa using h1
theorem mark_OfficialS (a : List Official) (k : Int) (fuel : Nat) (h0 : 0 ≤ k) (hk : k + (cOfficialS a : Int) ≤ 1099511627776) (hf : cOfficialS a < fuel) : ∃ a' k', laws_markOfficialS_p fuel a k = some (a', k') ∧ k ≤ k' ∧ k' ≤ k + (cOfficialS a : Int) := by
  obtain ⟨a', k', h1, h2, h3⟩ := mark_OfficialS_l a [] k fuel h0 (by unfold cOfficialS at hk; exact hk) (by have := cl_OfficialS a; simp; omega) (by have := cl_OfficialS a; omega)
  exact ⟨a', k', h1, h2, by unfold cOfficialS; exact h3⟩
theorem sz_OfficialS (a : List Official) (hw : wfOfficialS a) (n : Int) (h0 : 0 ≤ n) (hn : n ≤ 1048576) : ∃ r, laws_szOfficialS_p a n = some r ∧ (r < 0 ∨ (0 ≤ r ∧ (nOfficialS a : Int) + r ≤ n)) := by
  have hl := hw.1
  unfold maxN at hl
  unfold laws_szOfficialS_p
  rw [w64_in (by omega)]
  by_cases h : n - (a.length : Int) < 0
  · rw [decide_eq_true h]; exact ⟨-1, rfl, .inl (by decide)⟩
  · rw [decide_eq_false h]; exact ⟨_, rfl, .inr ⟨by omega, by unfold nOfficialS; omega⟩⟩
theorem to_IntS_l (z : Int) (ys : List Int) : ∀ pre : List Int, laws_toIntS_l1 ys pre.length (pre ++ List.replicate ys.length z) = some (pre ++ ys) := by
  induction ys with
  | nil => intro pre; rw [laws_toIntS_l1]; simp
  | cons y ys ih =>
    intro pre
    rw [laws_toIntS_l1, List.length_cons, bnd (show getI (pre ++ List.replicate (ys.length + 1) z) (pre.length : Int) = some z from getI_pre pre z (List.replicate ys.length z) rfl), set_step]
    have := ih (pre ++ [y])
    simpa using this
theorem to_IntS (a : List Int) (h : nIntS a ≤ 1048576) : laws_toIntS_p a = some a := by
  have hl : a.length ≤ 1048576 := by unfold nIntS at h; omega
  unfold laws_toIntS_p
  rw [bnd (x := ()) (by rw [decide_eq_true (by omega), fits_of (by simp only [Int.toNat_natCast]; omega)]; rfl)]
  exact to_IntS_l _ a []
theorem to_Official (a : Official) : laws_toOfficial_p a = some a := by
  unfold laws_toOfficial_p
  all_goals rfl
theorem to_OfficialS_l (z : Official) (ys : List Official) (hy : ∀ y ∈ ys, laws_toOfficial_p y = some y) : ∀ pre : List Official, laws_toOfficialS_l1 ys pre.length (pre ++ List.replicate ys.length z) = some (pre ++ ys) := by
  induction ys with
  | nil => intro pre; rw [laws_toOfficialS_l1]; simp
  | cons y ys ih =>
    intro pre
    rw [laws_toOfficialS_l1, bnd (hy y (by simp)), List.length_cons, bnd (show getI (pre ++ List.replicate (ys.length + 1) z) (pre.length : Int) = some z from getI_pre pre z (List.replicate ys.length z) rfl), set_step]
    have := ih (fun x hx => hy x (by simp [hx])) (pre ++ [y])
    simpa using this
theorem to_OfficialS (a : List Official) (h : nOfficialS a ≤ 1048576) : laws_toOfficialS_p a = some a := by
  have hl : a.length ≤ 1048576 := by unfold nOfficialS at h; omega
  unfold laws_toOfficialS_p
  rw [bnd (x := ()) (by rw [decide_eq_true (by omega), fits_of (by simp only [Int.toNat_natCast]; omega)]; rfl)]
  exact to_OfficialS_l _ a (fun y _ => to_Official y) []

end Go.Proofs.Ytkabhjekcchjlaa
