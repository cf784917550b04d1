/- Plain lemmas: what the functions compute is what the reference says, in plain Lean. No condition. -/
import Derived.Test.YtjbkbiofklgblaaDoorPHText5
set_option maxRecDepth 4000
set_option maxHeartbeats 1000000
set_option linter.unusedVariables false
set_option linter.unusedSimpArgs false
set_option linter.unusedSectionVars false

namespace Go.Proofs.YtjbkbiofklgblaaDoor
open Go.AM
theorem law_ParseHistory (l : List Item) (s : ByteArray) (hw : wfItemS l) (_ : s.size ≤ maxN) : laws_FnExactParseHistory_p 99999999 l s = some true := by
  unfold laws_FnExactParseHistory_p
  by_cases hs : (s.size : Int) > 1048576
  · rw [decide_eq_true hs]; rfl
  rw [decide_eq_false hs, cond_false]
  obtain ⟨r, h1, h2⟩ := sz_ItemS l hw 1048576 (by omega) (by omega)
  rw [bnd h1]
  rcases h2 with h2 | ⟨h2, h3⟩
  · rw [decide_eq_true h2]; rfl
  rw [decide_eq_false (by omega), cond_false]
  have hb : nItemS l ≤ 1048576 := by omega
  obtain ⟨x, g1, g2, g3⟩ := same_ParseHistory (nameB_of hb) s (by omega) (F := 99999999) (by omega)
  have hm := m_ItemS l
  obtain ⟨a1, k1, m1, m2, m3⟩ := mark_ItemS_m l 1 99999999 (by omega) (by omega) (by omega) (by omega)
  obtain ⟨a3, k3, p1, p2, p3, p4⟩ := mark_ChangeS_h x.1 1 99999999 (by omega) (by omega) (by omega)
  rw [bnd (to_ItemS l hb), bnd g1, bnd g2, bnd (eq_ChangeS _ _), bnd (eq_ItemS l l), bnd m1, bnd p1, bnd p4]
  have e1 : ¬ k1 < 0 := by omega
  have e2 : ¬ k3 < 0 := by omega
  simp [e1, e2]

end Go.Proofs.YtjbkbiofklgblaaDoor
