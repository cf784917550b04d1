/- Plain lemmas: what the functions compute is what the reference says, in plain Lean. No condition. -/
import Derived.Test.YtegdphhfimaieacGreatPSame1
set_option maxRecDepth 4000
set_option maxHeartbeats 1000000
set_option linter.unusedVariables false
set_option linter.unusedSimpArgs false
set_option linter.unusedSectionVars false

namespace Go.Proofs.YtegdphhfimaieacGreat
open Go.AM

theorem ret_pIn (l : List Int) (n : Int) : Ret (laws_pIn_p l n) (n ∈ l) := by
  have key : ∀ (l : List Int) (k : Nat), Ret (laws_pIn_l1 n l k) (n ∈ l) := by
    intro l
    induction l with
    | nil => intro k; rw [laws_pIn_l1]; exact .f (by simp)
    | cons y l ih =>
      intro k
      rw [laws_pIn_l1]
      refine .condR (fun h => .t ?_) (fun h => (ih (k + 1)).iff ?_)
      · have := eq_of_beq h; simp [this]
      · have : ¬ y = n := by simpa using h
        simp [List.mem_cons, show ¬ n = y from fun e => this e.symm]
  exact key l 0

end Go.Proofs.YtegdphhfimaieacGreat
