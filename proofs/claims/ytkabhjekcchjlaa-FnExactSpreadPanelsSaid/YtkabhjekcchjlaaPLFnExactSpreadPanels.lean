/- Plain lemmas: what the functions compute is what the reference says, in plain Lean. No condition. -/
import Derived.Test.YtkabhjekcchjlaaPPanel1
set_option maxRecDepth 4000
set_option maxHeartbeats 1000000
set_option linter.unusedVariables false
set_option linter.unusedSimpArgs false
set_option linter.unusedSectionVars false

namespace Go.Proofs.Ytkabhjekcchjlaa
open Go.AM
theorem c_few (l : List (List Int)) (B : Nat) (h : ∀ z ∈ l, z.length ≤ B) : cIntSS l ≤ (B + 1) * l.length := by
  unfold cIntSS
  induction l with
  | nil => simp
  | cons x l ih =>
    have h1 := ih fun z hz => h z (by simp [hz])
    have h2 : cIntS x ≤ B := h x (by simp)
    simp only [List.map_cons, List.sum_cons, List.length_cons]
    rw [Nat.mul_succ]
    omega
theorem law_SpreadPanels (K : List Int) (l : List Official) (n p : Int) (hK : wfIntS K) (hw : wfOfficialS l) (_ : inR n) (_ : inR p) : laws_FnExactSpreadPanels_p 99999999 K l n p = some true := by
  unfold laws_FnExactSpreadPanels_p
  by_cases h : (K.length : Int) > 1048576
  · rw [decide_eq_true h]; rfl
  rw [decide_eq_false h, cond_false]
  obtain ⟨r, h1, h2⟩ := sz_OfficialS l hw 1048576 (by omega) (by omega)
  rw [bnd h1]
  rcases h2 with h2 | ⟨h2, h3⟩
  · rw [decide_eq_true h2]; rfl
  rw [decide_eq_false (by omega), cond_false]
  have hb : nOfficialS l ≤ 1048576 := by omega
  have hl : l.length ≤ 1048576 := Nat.le_trans (by unfold nOfficialS; omega) hb
  have hk2 : nIntS K ≤ 1048576 := by unfold nIntS; omega
  obtain ⟨x, g1, g2, g3, g4⟩ := same_SpreadPanels K l hl n p 99999999 (by omega)
  have hc1 := c_IntS K
  have hc2 := c_OfficialS l
  have hc3 := c_few x.1 9 g4
  obtain ⟨a1, k1, m1, m2, m3⟩ := mark_IntS K 1 99999999 (by omega) (by omega) (by omega)
  obtain ⟨a3, k3, n1, n2, n3⟩ := mark_OfficialS l k1 99999999 (by omega) (by omega) (by omega)
  obtain ⟨a2, k2, p1, p2, p3, p4⟩ := mark_IntSS x.1 1 99999999 (by omega) (by omega) (by omega)
  rw [bnd (to_IntS K hk2), bnd (to_OfficialS l hb), bnd g1, bnd g2, bnd (eq_IntSS _ _), bnd (eq_IntS K K), bnd (eq_OfficialS l l), bnd m1, bnd n1, bnd p1, bnd p4]
  have e1 : ¬ k3 < 0 := by omega
  have e2 : ¬ k2 < 0 := by omega
  simp [e1, e2]

end Go.Proofs.Ytkabhjekcchjlaa
