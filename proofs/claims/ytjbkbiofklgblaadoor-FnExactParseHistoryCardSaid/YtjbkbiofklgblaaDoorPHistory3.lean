/- Plain lemmas: what the functions compute is what the reference says, in plain Lean. No condition. -/
import Derived.Test.YtjbkbiofklgblaaDoorLaw
set_option maxRecDepth 4000
set_option maxHeartbeats 1000000
set_option linter.unusedVariables false
set_option linter.unusedSimpArgs false
set_option linter.unusedSectionVars false

namespace Go.Proofs.YtjbkbiofklgblaaDoor
open Go.AM

def nameB (l : List Item) : Prop := ∀ it ∈ l, ∀ s ∈ it.names, s.size ≤ 1048576

end Go.Proofs.YtjbkbiofklgblaaDoor
