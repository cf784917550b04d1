/- Plain lemmas: what the functions compute is what the reference says, in plain Lean. No condition. -/
import Derived.Test.YtkabhjekcchjlaaPMoved1
set_option maxRecDepth 4000
set_option maxHeartbeats 1000000
set_option linter.unusedVariables false
set_option linter.unusedSimpArgs false
set_option linter.unusedSectionVars false

namespace Go.Proofs.Ytkabhjekcchjlaa
open Go.AM

theorem mul_bd {p q A : Int} (hp : -A ≤ p ∧ p ≤ A) (hq : 0 ≤ q ∧ q ≤ 9) : -(9 * A) ≤ p * q ∧ p * q ≤ 9 * A := by
  have hA : 0 ≤ A := by omega
  have h1 := Int.mul_le_mul_of_nonneg_right hp.2 hq.1
  have h2 := Int.mul_le_mul_of_nonneg_left hq.2 hA
  have h3 := Int.mul_le_mul_of_nonneg_right hp.1 hq.1
  rw [Int.neg_mul] at h3
  omega

end Go.Proofs.Ytkabhjekcchjlaa
