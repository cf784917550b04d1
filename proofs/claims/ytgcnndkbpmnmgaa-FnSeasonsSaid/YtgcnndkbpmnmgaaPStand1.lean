/- Plain lemmas: what the functions compute is what the reference says, in plain Lean. No condition. -/
import Derived.Test.YtgcnndkbpmnmgaaPCur4
set_option maxRecDepth 4000
set_option maxHeartbeats 1000000
set_option linter.unusedVariables false
set_option linter.unusedSimpArgs false
set_option linter.unusedSectionVars false

namespace Go.Proofs.Ytgcnndkbpmnmgaa
open Go.AM

theorem qInts_l (b : List Int) : ∀ (ys pre : List Int), b = pre ++ ys → laws_qInts_l1 b ys pre.length = some true := by
  intro ys
  induction ys with
  | nil => intro pre _; rw [laws_qInts_l1]
  | cons y ys ih =>
    intro pre h
    have := ih (pre ++ [y]) (by rw [h]; simp)
    rw [show (pre ++ [y]).length = pre.length + 1 from by simp] at this
    rw [laws_qInts_l1, bnd (getI_app (pre := pre) (y := y) (ys := ys) h rfl), bne_self_eq_false, cond_false, this]
theorem qInts_eq (a : List Int) : laws_qInts_p a a = some true := by
  unfold laws_qInts_p
  rw [bne_self_eq_false, cond_false]
  exact qInts_l a a [] rfl

end Go.Proofs.Ytgcnndkbpmnmgaa
