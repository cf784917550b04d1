/- Plain lemmas: what the functions compute is what the reference says, in plain Lean. No condition. -/
import Derived.Test.YtnmpidocpdjjfaaPHistory6
set_option maxRecDepth 4000
set_option maxHeartbeats 1000000
set_option linter.unusedVariables false
set_option linter.unusedSimpArgs false
set_option linter.unusedSectionVars false

namespace Go.Proofs.Ytnmpidocpdjjfaa
open Go.AM
theorem law_TakeBack (l : List Item) (h : List Change) (T ca : Int) (hw : wfItemS l) (hv : wfChangeS h) (_ : inR T) (_ : inR ca) : laws_FnExactTakeBack_p 99999999 l h T ca = some true := by
  unfold laws_FnExactTakeBack_p
  obtain ⟨r, h1, h2⟩ := sz_ItemS l hw 1048576 (by omega) (by omega)
  rw [bnd h1]
  rcases h2 with h2 | ⟨h2, h3⟩
  · rw [decide_eq_true h2]; rfl
  rw [decide_eq_false (by omega), cond_false]
  obtain ⟨q, i1, i2⟩ := sz_ChangeS h hv r (by omega) (by omega)
  rw [bnd i1]
  rcases i2 with i2 | ⟨i2, i3⟩
  · rw [decide_eq_true i2]; rfl
  rw [decide_eq_false (by omega), cond_false]
  have hb : nItemS l ≤ 1048576 := by omega
  have hn2 : nChangeS h ≤ 1048576 := by omega
  have hl : h.length ≤ 1048576 := Nat.le_trans (by unfold nChangeS; omega) hn2
  obtain ⟨x, g1, g2, g3⟩ := same_TakeBack (nameB_of hb) h hl T ca 99999999 (by omega)
  have hm := m_ItemS l
  obtain ⟨a1, k1, m1, m2, m3⟩ := mark_ItemS_m l 1 99999999 (by omega) (by omega) (by omega) (by omega)
  obtain ⟨a2, k2, o1, o2, o3⟩ := mark_ChangeS_m h k1 99999999 (by omega) (by omega) (by omega)
  obtain ⟨a3, k3, p1, p2, p3, p4⟩ := mark_ChangeS_h x.1 1 99999999 (by omega) (by omega) (by omega)
  rw [bnd (to_ItemS l hb), bnd (to_ChangeS h hn2), bnd g1, bnd g2, bnd (eq_ChangeS _ _), bnd (eq_ItemS l l), bnd (eq_ChangeS h h), bnd m1, bnd o1, bnd p1, bnd p4]
  have e1 : ¬ k2 < 0 := by omega
  have e2 : ¬ k3 < 0 := by omega
  simp [e1, e2]

end Go.Proofs.Ytnmpidocpdjjfaa
