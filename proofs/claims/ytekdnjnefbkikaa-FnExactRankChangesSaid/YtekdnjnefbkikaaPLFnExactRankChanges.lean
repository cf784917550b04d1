/- Plain lemmas: what the functions compute is what the reference says, in plain Lean. No condition. -/
import Derived.Test.YtekdnjnefbkikaaPWorld3
set_option maxRecDepth 4000
set_option maxHeartbeats 1000000
set_option linter.unusedVariables false
set_option linter.unusedSimpArgs false
set_option linter.unusedSectionVars false

namespace Go.Proofs.Ytekdnjnefbkikaa
open Go.AM
theorem c_three (l : List (List Int)) (h : ∀ z ∈ l, z.length = 3) : cIntSS l = 4 * l.length := by
  unfold cIntSS
  induction l with
  | nil => rfl
  | cons x l ih =>
    have h1 := ih fun z hz => h z (by simp [hz])
    have h2 : cIntS x = 3 := h x (by simp)
    simp only [List.map_cons, List.sum_cons, List.length_cons, h1, h2]
    omega
theorem law_RankChanges (a b : World) (hw : wfWorld a) (hv : wfWorld b) : laws_FnExactRankChanges_p 99999999 a b = some true := by
  unfold laws_FnExactRankChanges_p
  obtain ⟨r, h1, h2⟩ := sz_World a hw 1048576 (by omega) (by omega)
  rw [bnd h1]
  rcases h2 with h2 | ⟨h2, h3⟩
  · rw [decide_eq_true h2]; rfl
  rw [decide_eq_false (by omega), cond_false]
  obtain ⟨q, i1, i2⟩ := sz_World b hv r (by omega) (by omega)
  rw [bnd i1]
  rcases i2 with i2 | ⟨i2, i3⟩
  · rw [decide_eq_true i2]; rfl
  rw [decide_eq_false (by omega), cond_false]
  have ha : nWorld a ≤ 1048576 := by omega
  have hb : nWorld b ≤ 1048576 := by omega
  obtain ⟨x, g1, g2, g3, g4⟩ := same_RankChanges a b ha hb 99999999 (by omega)
  have hc1 := c_World a
  have hc2 := c_World b
  have hc3 := c_three x.1 g4
  obtain ⟨a1, k1, m1, m2, m3⟩ := mark_World a 1 99999999 (by omega) (by omega) (by omega)
  obtain ⟨a3, k3, n1, n2, n3⟩ := mark_World b k1 99999999 (by omega) (by omega) (by omega)
  obtain ⟨a2, k2, p1, p2, p3, p4⟩ := mark_IntSS x.1 1 99999999 (by omega) (by omega) (by omega)
  rw [bnd (to_World a ha), bnd (to_World b hb), bnd g1, bnd g2, bnd (eq_IntSS _ _), bnd (eq_World a a), bnd (eq_World b b), bnd m1, bnd n1, bnd p1, bnd p4]
  have e1 : ¬ k3 < 0 := by omega
  have e2 : ¬ k2 < 0 := by omega
  simp [e1, e2]

end Go.Proofs.Ytekdnjnefbkikaa
