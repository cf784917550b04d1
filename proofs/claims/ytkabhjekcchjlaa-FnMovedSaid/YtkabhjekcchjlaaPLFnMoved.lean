/- Plain lemmas: what the functions compute is what the reference says, in plain Lean. No condition. -/
import Derived.Test.YtkabhjekcchjlaaPMoved2
set_option maxRecDepth 4000
set_option maxHeartbeats 1000000
set_option linter.unusedVariables false
set_option linter.unusedSimpArgs false
set_option linter.unusedSectionVars false

namespace Go.Proofs.Ytkabhjekcchjlaa
open Go.AM
theorem law_FnMoved (code more : List Int) (hw : wfByteS code) (hv : wfByteS more) : laws_FnMoved_p 99999999 code more = some true := by
  unfold laws_FnMoved_p laws_big_p
  rw [Option.bind_some]
  by_cases hb : (code.length : Int) > 1048576
  · rw [decide_eq_true hb]; rfl
  rw [decide_eq_false hb, Bool.false_or, w64_in (by omega)]
  by_cases hb2 : (more.length : Int) > 1048576 - (code.length : Int)
  · rw [decide_eq_true hb2]; rfl
  rw [decide_eq_false hb2, cond_false]
  obtain ⟨l, k, lo, hi, h1, _⟩ := drawRange_ok hw.2 (by omega) 99999999 (by omega)
  have hr := restMoved_ok hv.2 (by omega) 99999999 (by omega)
  rw [bnd h1]
  dsimp only
  by_cases ha : AskM l k lo hi
  · obtain ⟨p1, q1, g1, p2, q2, g2, pm, qm, gm, e1, e2, e3, e4, e5, e6, e7⟩ := range_eq ha 99999999 (by omega)
    rw [bnd e1, bnd e2, bnd e3, bnd e4]
    simp only [beq_self_eq_true, bne_self_eq_false, Bool.not_true, Bool.or_false, cond_false, cond_true]
    obtain ⟨p0, q0, g0, f1, f2⟩ := mean_eq ha.1.1 99999999 (by omega)
    rw [bnd f1]
    simp only [Bool.not_true, cond_false]
    rw [show need (2 != 0) = some () from rfl, Option.bind_some]
    exact moved_loop ha 99999999 (by omega) hr e5 e6 e7 f2 3 99999999 0 rfl (by omega)
  · obtain ⟨e1, e2, e3, e4⟩ := range_no ha 99999999
    rw [bnd e1, bnd e2, bnd e3, bnd e4]
    simp only [beq_self_eq_true, bne_self_eq_false, Bool.not_true, Bool.or_false, cond_false]
    exact hr

end Go.Proofs.Ytkabhjekcchjlaa
