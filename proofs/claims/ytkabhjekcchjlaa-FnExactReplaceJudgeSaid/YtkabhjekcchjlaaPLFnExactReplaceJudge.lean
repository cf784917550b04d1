/- Plain lemmas: what the functions compute is what the reference says, in plain Lean. No condition. -/
import Derived.Test.YtkabhjekcchjlaaPPanel3
set_option maxRecDepth 4000
set_option maxHeartbeats 1000000
set_option linter.unusedVariables false
set_option linter.unusedSimpArgs false
set_option linter.unusedSectionVars false

namespace Go.Proofs.Ytkabhjekcchjlaa
open Go.AM
theorem law_ReplaceJudge (K : List Int) (l : List Official) (clubs : List Int) (level most : Int) (p : List Int) (gone : Int) (hK : wfIntS K) (hw : wfOfficialS l) (hc : wfIntS clubs) (_ : inR level) (_ : inR most) (hp : wfIntS p) (_ : inR gone) : laws_FnExactReplaceJudge_p 99999999 K l clubs level most p gone = some true := by
  unfold laws_FnExactReplaceJudge_p
  by_cases h : (K.length : Int) > 1048576
  · rw [decide_eq_true h]; rfl
  rw [decide_eq_false h, cond_false]
  by_cases h' : (clubs.length : Int) > 1048576
  · rw [decide_eq_true h']; rfl
  rw [decide_eq_false h', cond_false]
  by_cases h'' : (p.length : Int) > 1048576
  · rw [decide_eq_true h'']; rfl
  rw [decide_eq_false h'', cond_false]
  obtain ⟨r, h1, h2⟩ := sz_OfficialS l hw 1048576 (by omega) (by omega)
  rw [bnd h1]
  rcases h2 with h2 | ⟨h2, h3⟩
  · rw [decide_eq_true h2]; rfl
  rw [decide_eq_false (by omega), cond_false]
  have hb : nOfficialS l ≤ 1048576 := by omega
  have hl : l.length ≤ 1048576 := Nat.le_trans (by unfold nOfficialS; omega) hb
  have hk2 : nIntS K ≤ 1048576 := by unfold nIntS; omega
  have hk3 : nIntS clubs ≤ 1048576 := by unfold nIntS; omega
  have hk4 : nIntS p ≤ 1048576 := by unfold nIntS; omega
  obtain ⟨x, g1, g2, g3⟩ := same_ReplaceJudge K l hl clubs (by omega) level most p (by omega) gone 99999999 (by omega)
  have hc1 := c_IntS K
  have hc2 := c_OfficialS l
  have hc4 := c_IntS clubs
  have hc5 := c_IntS p
  have hc3 : cIntS x.1 = x.1.length := rfl
  obtain ⟨a1, k1, m1, m2, m3⟩ := mark_IntS K 1 99999999 (by omega) (by omega) (by omega)
  obtain ⟨a3, k3, n1, n2, n3⟩ := mark_OfficialS l k1 99999999 (by omega) (by omega) (by omega)
  obtain ⟨a4, k4, o1, o2, o3⟩ := mark_IntS clubs k3 99999999 (by omega) (by omega) (by omega)
  obtain ⟨a5, k5, q1, q2, q3⟩ := mark_IntS p k4 99999999 (by omega) (by omega) (by omega)
  obtain ⟨a2, k2, p1, p2, p3, p4⟩ := mark_IntS x.1 1 99999999 (by omega) (by omega) (by omega)
  rw [bnd (to_IntS K hk2), bnd (to_OfficialS l hb), bnd (to_IntS clubs hk3), bnd (to_IntS p hk4), bnd g1, bnd g2, bnd (eq_IntS _ _), bnd (eq_IntS K K), bnd (eq_OfficialS l l), bnd (eq_IntS clubs clubs), bnd (eq_IntS p p), bnd m1, bnd n1, bnd o1, bnd q1, bnd p1, bnd p4]
  have e1 : ¬ k5 < 0 := by omega
  have e2 : ¬ k2 < 0 := by omega
  simp [e1, e2]

end Go.Proofs.Ytkabhjekcchjlaa
