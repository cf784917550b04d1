/- Plain lemmas: what the functions compute is what the reference says, in plain Lean. No condition. -/
import Derived.Test.YtfgpeaiepfdemaaPSeason8
set_option maxRecDepth 4000
set_option linter.unusedVariables false
set_option linter.unusedSimpArgs false
set_option linter.unusedSectionVars false

namespace Go.Proofs.Ytfgpeaiepfdemaa
open Go.AM
theorem law_DropEntry (s : Season) (ev sk : Int) (hw : wfSeason s) (_ : inR ev) (_ : inR sk) : laws_FnExactDropEntry_p 99999999 s ev sk = some true := by
  unfold laws_FnExactDropEntry_p
  obtain ⟨r, h1, h2⟩ := sz_Season s hw 1048576 (by omega) (by omega)
  rw [bnd h1]
  rcases h2 with h2 | ⟨h2, h3⟩
  · rw [decide_eq_true h2]; rfl
  rw [decide_eq_false (by omega), cond_false]
  have hb : nSeason s ≤ 1048576 := by omega
  obtain ⟨x, g1, g2, g3⟩ := same_DropEntry s hb ev sk 99999999 (by omega)
  have hc1 := c_Season s
  have hc2 := c_Season x.1
  obtain ⟨a1, k1, m1, m2, m3⟩ := mark_Season s 1 99999999 (by omega) (by omega) (by omega)
  obtain ⟨a2, k2, p1, p2, p3, p4⟩ := mark_Season x.1 1 99999999 (by omega) (by omega) (by omega)
  rw [bnd (to_Season s hb), bnd g1, bnd g2, bnd (eq_Season _ _), bnd (eq_Season s s), bnd m1, bnd p1, ← markS_Season p1, bnd p4]
  have e1 : ¬ k1 < 0 := by omega
  have e2 : ¬ k2 < 0 := by omega
  simp [e1, e2]

end Go.Proofs.Ytfgpeaiepfdemaa
