/- Plain lemmas: what the functions compute is what the reference says, in plain Lean. No condition. -/
import Derived.Test.YtegfbpakicohhaaPEvent1
set_option maxRecDepth 4000
set_option maxHeartbeats 1000000
set_option linter.unusedVariables false
set_option linter.unusedSimpArgs false
set_option linter.unusedSectionVars false

namespace Go.Proofs.Ytegfbpakicohhaa
open Go.AM
theorem law_NewEvent (a b c : Int) (_ : inR a) (_ : inR b) (_ : inR c) : laws_FnExactNewEvent_p 99999999 a b c = some true := by
  unfold laws_FnExactNewEvent_p
  obtain ⟨x, g1, g2, g3⟩ := same_NewEvent a b c 99999999 (by omega)
  have hc := c_Event x.1
  obtain ⟨a2, k2, p1, p2, p3, p4⟩ := mark_Event x.1 1 99999999 (by omega) (by omega) (by omega)
  rw [bnd g1, bnd g2, bnd (eq_Event _ _), bnd p1, ← markS_Event p1, bnd p4]
  have e2 : ¬ k2 < 0 := by omega
  simp [e2]

end Go.Proofs.Ytegfbpakicohhaa
