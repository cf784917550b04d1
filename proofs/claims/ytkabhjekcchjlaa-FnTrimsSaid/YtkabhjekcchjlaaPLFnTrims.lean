/- Plain lemmas: what the functions compute is what the reference says, in plain Lean. No condition. -/
import Derived.Test.YtkabhjekcchjlaaPTrims2
set_option maxRecDepth 4000
set_option maxHeartbeats 1000000
set_option linter.unusedVariables false
set_option linter.unusedSimpArgs false
set_option linter.unusedSectionVars false

namespace Go.Proofs.Ytkabhjekcchjlaa
open Go.AM
theorem law_FnTrims (code more : List Int) (hw : wfByteS code) (hv : wfByteS more) : laws_FnTrims_p 99999999 code more = some true := by
  unfold laws_FnTrims_p laws_big_p
  rw [Option.bind_some]
  by_cases hb : (code.length : Int) > 1048576
  · rw [decide_eq_true hb]; rfl
  rw [decide_eq_false hb, Bool.false_or, w64_in (by omega)]
  by_cases hb2 : (more.length : Int) > 1048576 - (code.length : Int)
  · rw [decide_eq_true hb2]; rfl
  rw [decide_eq_false hb2, cond_false]
  obtain ⟨b1, s1, l, e1, _, _, _⟩ := marksOf_ok (a := code) (b := 0) (m := 0) (s := 0) ⟨hw.2, by omega, by omega, by omega⟩ (by omega) 99999999 (by omega)
  have hd : spec_DrawTrimmedMean_p 99999999 code = some l := by
    unfold spec_DrawTrimmedMean_p spec_DrawAreMarksOf_p
    rw [e1]; rfl
  have hr := restTrims_ok hv.2 (by omega) 99999999 (by omega)
  rw [bnd hd]
  by_cases ha : GoodM l
  · obtain ⟨p, q, g, f1, f2, f3, f4, f5, f6⟩ := mean_eq ha 99999999 (by omega)
    obtain ⟨f7, f8⟩ := specMean_eq ha 99999999 (by omega) f1
    obtain ⟨mp, mq, mg, x, y, m1, m2, m3, m4, m5, m6, m7, m8, m9⟩ := mid_eq ha 99999999 (by omega)
    obtain ⟨c, c1, c2⟩ := ret_AreMarks l
    have hc : c = true := c2.2 ha
    subst hc
    have hB : (1 ≤ mq ∧ mq ≤ 9) ∧ (-2000 ≤ mp ∧ mp ≤ 2000) ∧ mnL l * mq ≤ mp ∧ mp ≤ mxL l * mq := by
      have n1 := mn_le m8
      have n2 := mn_le m9
      have n3 := le_mx m8
      have n4 := le_mx m9
      exact ⟨m6, m7, Int.le_of_mul_le_mul_right (by rw [m4, Int.mul_assoc, m5]; omega) m3, Int.le_of_mul_le_mul_right (by rw [m4, Int.mul_assoc, m5]; omega) m3⟩
    rw [bnd f1, bnd f7, bnd (sumT_eq ha 99999999 (by omega)), bnd f8, bnd m1, bnd m2]
    simp only [beq_self_eq_true, bne_self_eq_false, Bool.not_true, Bool.not_false, Bool.or_false, opt_t]
    rw [bnd c1]
    simp only [beq_self_eq_true, Bool.not_true, Bool.or_false, cond_false, cond_true]
    exact trims_loop ha 99999999 (by omega) hr ⟨f2, f3, f4, f5, f6⟩ hB l [] (-2000) rfl (.inl ⟨rfl, rfl⟩)
  · obtain ⟨d1, d2, d3, d4, d5, d6, d7⟩ := not_good ha 99999999
    rw [bnd d1, bnd d2, bnd d3, bnd d4, bnd d5, bnd d6]
    simp only [beq_self_eq_true, bne_self_eq_false, Bool.not_true, Bool.not_false, Bool.or_false, opt_t]
    rw [bnd d7]
    simp only [beq_self_eq_true, Bool.not_true, Bool.or_false, cond_false]
    exact hr

end Go.Proofs.Ytkabhjekcchjlaa
