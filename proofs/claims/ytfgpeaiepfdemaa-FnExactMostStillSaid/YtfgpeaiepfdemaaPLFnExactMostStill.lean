/- Plain lemmas: what the functions compute is what the reference says, in plain Lean. No condition. -/
import Derived.Test.YtfgpeaiepfdemaaPSeason6
set_option maxRecDepth 4000
set_option linter.unusedVariables false
set_option linter.unusedSimpArgs false
set_option linter.unusedSectionVars false

namespace Go.Proofs.Ytfgpeaiepfdemaa
open Go.AM
theorem law_MostStill (s : Season) (sk ev mo : Int) (hw : wfSeason s) (_ : inR sk) (_ : inR ev) (_ : inR mo) : laws_FnExactMostStill_p 2000000 s sk ev mo = some true := by
  unfold laws_FnExactMostStill_p
  obtain ⟨r, h1, h2⟩ := sz_Season s hw 1048576 (by omega) (by omega)
  rw [bnd h1]
  rcases h2 with h2 | ⟨h2, h3⟩
  · rw [decide_eq_true h2]; rfl
  rw [decide_eq_false (by omega), cond_false]
  have hb : nSeason s ≤ 1048576 := by omega
  obtain ⟨b, g1, g2⟩ := same_MostStill s hb sk ev mo 2000000 (by omega)
  rw [bnd (to_Season s hb), bnd g1, bnd g2, bnd (eq_Season s s)]
  simp

end Go.Proofs.Ytfgpeaiepfdemaa
