/- Plain lemmas: what the functions compute is what the reference says, in plain Lean. No condition. -/
import Derived.Test.YtekdnjnefbkikaaGreatPSeason3
set_option maxRecDepth 4000
set_option maxHeartbeats 1000000
set_option linter.unusedVariables false
set_option linter.unusedSimpArgs false
set_option linter.unusedSectionVars false

namespace Go.Proofs.YtekdnjnefbkikaaGreat
open Go.AM
/-! a season out of entries -/
instance (a b : Entry) : Decidable (ltE a b) := by unfold ltE; exact inferInstance
def GoodL (l : List Entry) : Prop := (∀ e ∈ l, entOk e) ∧ l.Pairwise (fun a b => ¬ sameE a b)
/-! the reference adds entries one by one -/

end Go.Proofs.YtekdnjnefbkikaaGreat
