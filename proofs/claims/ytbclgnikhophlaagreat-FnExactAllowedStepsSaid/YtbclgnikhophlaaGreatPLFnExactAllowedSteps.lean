/- Plain lemmas: what the functions compute is what the reference says, in plain Lean. No condition. -/
import Derived.Test.YtbclgnikhophlaaGreatPEvent9
set_option maxRecDepth 4000
set_option maxHeartbeats 1000000
set_option linter.unusedVariables false
set_option linter.unusedSimpArgs false
set_option linter.unusedSectionVars false

namespace Go.Proofs.YtbclgnikhophlaaGreat
open Go.AM
theorem law_AllowedSteps (w : Event) (hw : wfEvent w) : laws_FnExactAllowedSteps_p 99999999 w = some true := by
  unfold laws_FnExactAllowedSteps_p
  obtain ⟨r, h1, h2⟩ := sz_Event w hw 1048576 (by omega) (by omega)
  rw [bnd h1]
  rcases h2 with h2 | ⟨h2, h3⟩
  · rw [decide_eq_true h2]; rfl
  rw [decide_eq_false (by omega), cond_false]
  have hb : nEvent w ≤ 1048576 := by omega
  obtain ⟨x, g1, g2, g3⟩ := same_AllowedSteps w hb 99999999 (by omega)
  have hc1 := c_Event w
  have hc2 : cIntS x.1 = x.1.length := rfl
  obtain ⟨a1, k1, m1, m2, m3⟩ := mark_Event w 1 99999999 (by omega) (by omega) (by omega)
  obtain ⟨a2, k2, p1, p2, p3, p4⟩ := mark_IntS x.1 1 99999999 (by omega) (by omega) (by omega)
  rw [bnd (to_Event w hb), bnd g1, bnd g2, bnd (eq_IntS _ _), bnd (eq_Event w w), bnd m1, bnd p1, bnd p4]
  have e1 : ¬ k1 < 0 := by omega
  have e2 : ¬ k2 < 0 := by omega
  simp [e1, e2]

end Go.Proofs.YtbclgnikhophlaaGreat
