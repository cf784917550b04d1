/- Plain lemmas: what the functions compute is what the reference says, in plain Lean. No condition. -/
import Derived.Test.YtjbkbiofklgblaaGreatDoorLaw
set_option maxRecDepth 4000
set_option maxHeartbeats 1000000
set_option linter.unusedVariables false
set_option linter.unusedSimpArgs false
set_option linter.unusedSectionVars false

namespace Go.Proofs.YtjbkbiofklgblaaGreatDoor
open Go.AM

theorem ret_l1In (n a b : Int) : Ret (spec_l1In_p n a b) (a ≤ n ∧ n ≤ b) := Ret.some (by simp)
theorem ret_within (n a b : Int) : Ret (impl_within_p n a b) (a ≤ n ∧ n ≤ b) := Ret.some (by simp)

end Go.Proofs.YtjbkbiofklgblaaGreatDoor
