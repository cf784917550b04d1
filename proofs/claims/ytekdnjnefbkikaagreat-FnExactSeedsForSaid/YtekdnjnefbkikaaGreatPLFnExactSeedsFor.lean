/- Plain lemmas: what the functions compute is what the reference says, in plain Lean. No condition. -/
import Derived.Test.YtekdnjnefbkikaaGreatPWorld4
set_option maxRecDepth 4000
set_option maxHeartbeats 1000000
set_option linter.unusedVariables false
set_option linter.unusedSimpArgs false
set_option linter.unusedSectionVars false

namespace Go.Proofs.YtekdnjnefbkikaaGreat
open Go.AM
theorem law_SeedsFor (w : World) (sk : List Int) (hw : wfWorld w) (hs : wfIntS sk) : laws_FnExactSeedsFor_p 99999999 w sk = some true := by
  unfold laws_FnExactSeedsFor_p
  by_cases hl : (sk.length : Int) > 1048576
  · rw [decide_eq_true hl]; rfl
  rw [decide_eq_false hl, cond_false]
  obtain ⟨r, h1, h2⟩ := sz_World w hw 1048576 (by omega) (by omega)
  rw [bnd h1]
  rcases h2 with h2 | ⟨h2, h3⟩
  · rw [decide_eq_true h2]; rfl
  rw [decide_eq_false (by omega), cond_false]
  have hb : nWorld w ≤ 1048576 := by omega
  have hn2 : nIntS sk ≤ 1048576 := by unfold nIntS; omega
  obtain ⟨x, g1, g2, g3⟩ := same_SeedsFor w hb sk 99999999 (by omega)
  have hc1 := c_World w
  have hc3 := c_IntS sk
  have hc2 := c_EntrantS x.1
  have hn : nEntrantS x.1 = x.1.length := rfl
  obtain ⟨a1, k1, m1, m2, m3⟩ := mark_World w 1 99999999 (by omega) (by omega) (by omega)
  obtain ⟨a3, k3, n1, n2, n3⟩ := mark_IntS sk k1 99999999 (by omega) (by omega) (by omega)
  obtain ⟨a2, k2, p1, p2, p3, p4⟩ := mark_EntrantS x.1 1 99999999 (by omega) (by omega) (by omega)
  rw [bnd (to_World w hb), bnd (to_IntS sk hn2), bnd g1, bnd g2, bnd (eq_EntrantS _ _), bnd (eq_World w w), bnd (eq_IntS sk sk), bnd m1, bnd n1, bnd p1, bnd p4]
  have e1 : ¬ k3 < 0 := by omega
  have e2 : ¬ k2 < 0 := by omega
  simp [e1, e2]

end Go.Proofs.YtekdnjnefbkikaaGreat
