/- Plain lemmas: what the functions compute is what the reference says, in plain Lean. No condition. -/
import Derived.Test.YtbclgnikhophlaaGreatPEvent9
set_option maxRecDepth 4000
set_option maxHeartbeats 1000000
set_option linter.unusedVariables false
set_option linter.unusedSimpArgs false
set_option linter.unusedSectionVars false

namespace Go.Proofs.YtbclgnikhophlaaGreat
open Go.AM
theorem law_RunSteps (w : Event) (l : List Step) (hw : wfEvent w) (hl : wfStepS l) : laws_FnExactRunSteps_p 99999999 w l = some true := by
  unfold laws_FnExactRunSteps_p
  obtain ⟨r, h1, h2⟩ := sz_Event w hw 1048576 (by omega) (by omega)
  rw [bnd h1]
  rcases h2 with h2 | ⟨h2, h3⟩
  · rw [decide_eq_true h2]; rfl
  rw [decide_eq_false (by omega), cond_false]
  obtain ⟨q, i1, i2⟩ := sz_StepS l hl r (by omega) (by omega)
  rw [bnd i1]
  rcases i2 with i2 | ⟨i2, i3⟩
  · rw [decide_eq_true i2]; rfl
  rw [decide_eq_false (by omega), cond_false]
  have hb : nEvent w ≤ 1048576 := by omega
  have hn2 : nStepS l ≤ 1048576 := by omega
  obtain ⟨x, g1, g2, g3⟩ := same_RunSteps w hb l 99999999 (by omega)
  have hc1 := c_Event w
  have hc2 := c_Event x.1
  have hc3 := c_StepS l
  obtain ⟨a1, k1, m1, m2, m3⟩ := mark_Event w 1 99999999 (by omega) (by omega) (by omega)
  obtain ⟨a3, k3, n1, n2, n3⟩ := mark_StepS l k1 99999999 (by omega) (by omega) (by omega)
  obtain ⟨a2, k2, p1, p2, p3, p4⟩ := mark_Event x.1 1 99999999 (by omega) (by omega) (by omega)
  rw [bnd (to_Event w hb), bnd (to_StepS l hn2), bnd g1, bnd g2, bnd (eq_Event _ _), bnd (eq_Event w w), bnd (eq_StepS l l), bnd m1, bnd n1, bnd p1, ← markS_Event p1, bnd p4]
  have e1 : ¬ k3 < 0 := by omega
  have e2 : ¬ k2 < 0 := by omega
  simp [e1, e2]

end Go.Proofs.YtbclgnikhophlaaGreat
