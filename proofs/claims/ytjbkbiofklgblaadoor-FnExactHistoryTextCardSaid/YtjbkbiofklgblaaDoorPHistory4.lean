/- Plain lemmas: what the functions compute is what the reference says, in plain Lean. No condition. -/
import Derived.Test.YtjbkbiofklgblaaDoorPHistory3
set_option maxRecDepth 4000
set_option maxHeartbeats 1000000
set_option linter.unusedVariables false
set_option linter.unusedSimpArgs false
set_option linter.unusedSectionVars false

namespace Go.Proofs.YtjbkbiofklgblaaDoor
open Go.AM

theorem nameB_of {l : List Item} (h : nItemS l ≤ 1048576) : nameB l := by
  intro it hi s hs
  have h1 := le_sum hi (fun x => nItem x)
  have h2 := le_sum hs (fun x => x.size)
  unfold nItemS at h
  have h3 : nItem it = nStringS it.names + nIntS it.marks := rfl
  unfold nStringS at h3
  omega

end Go.Proofs.YtjbkbiofklgblaaDoor
