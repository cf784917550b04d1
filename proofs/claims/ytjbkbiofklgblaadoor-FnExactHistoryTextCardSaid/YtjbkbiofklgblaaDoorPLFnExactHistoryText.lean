/- Plain lemmas: what the functions compute is what the reference says, in plain Lean. No condition. -/
import Derived.Test.YtjbkbiofklgblaaDoorPHText6
set_option maxRecDepth 4000
set_option maxHeartbeats 1000000
set_option linter.unusedVariables false
set_option linter.unusedSimpArgs false
set_option linter.unusedSectionVars false

namespace Go.Proofs.YtjbkbiofklgblaaDoor
open Go.AM
theorem law_HistoryText (l : List Item) (h : List Change) (hw : wfItemS l) (hv : wfChangeS h) : laws_FnExactHistoryText_p 99999999 l h = some true := by
  unfold laws_FnExactHistoryText_p
  obtain ⟨r, h1, h2⟩ := sz_ItemS l hw 1048576 (by omega) (by omega)
  rw [bnd h1]
  rcases h2 with h2 | ⟨h2, h3⟩
  · rw [decide_eq_true h2]; rfl
  rw [decide_eq_false (by omega), cond_false]
  obtain ⟨q, i1, i2⟩ := sz_ChangeS h hv r (by omega) (by omega)
  rw [bnd i1]
  rcases i2 with i2 | ⟨i2, i3⟩
  · rw [decide_eq_true i2]; rfl
  rw [decide_eq_false (by omega), cond_false]
  have hb : nItemS l ≤ 1048576 := by omega
  have hn2 : nChangeS h ≤ 1048576 := by omega
  have hl : h.length ≤ 1048576 := Nat.le_trans (by unfold nChangeS; omega) hn2
  obtain ⟨x, g1, g2, _⟩ := same_HistoryText (nameB_of hb) h hl (F := 99999999) (by omega)
  rw [bnd (to_ItemS l hb), bnd (to_ChangeS h hn2), bnd g1, bnd g2, bnd (eq_ItemS l l), bnd (eq_ChangeS h h)]
  simp

end Go.Proofs.YtjbkbiofklgblaaDoor
