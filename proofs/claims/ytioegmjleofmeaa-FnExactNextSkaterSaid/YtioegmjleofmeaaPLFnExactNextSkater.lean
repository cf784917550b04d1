/- Plain lemmas: what the functions compute is what the reference says, in plain Lean. No condition. -/
import Derived.Test.YtioegmjleofmeaaPEvent4
set_option maxRecDepth 4000
set_option maxHeartbeats 1000000
set_option linter.unusedVariables false
set_option linter.unusedSimpArgs false
set_option linter.unusedSectionVars false

namespace Go.Proofs.Ytioegmjleofmeaa
open Go.AM
theorem law_NextSkater (w : Event) (hw : wfEvent w) : laws_FnExactNextSkater_p 99999999 w = some true := by
  unfold laws_FnExactNextSkater_p
  obtain ⟨r, h1, h2⟩ := sz_Event w hw 1048576 (by omega) (by omega)
  rw [bnd h1]
  rcases h2 with h2 | ⟨h2, h3⟩
  · rw [decide_eq_true h2]; rfl
  rw [decide_eq_false (by omega), cond_false]
  have hb : nEvent w ≤ 1048576 := by omega
  obtain ⟨b, g1, g2⟩ := same_NextSkater w hb 99999999 (by omega)
  rw [bnd (to_Event w hb), bnd g1, bnd g2, bnd (eq_Event w w)]
  simp

end Go.Proofs.Ytioegmjleofmeaa
