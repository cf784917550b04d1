/- Plain lemmas: what the functions compute is what the reference says, in plain Lean. No condition. -/
import Derived.Test.YtegdphhfimaieacGreatPEvent4
set_option maxRecDepth 4000
set_option maxHeartbeats 1000000
set_option linter.unusedVariables false
set_option linter.unusedSimpArgs false
set_option linter.unusedSectionVars false

namespace Go.Proofs.YtegdphhfimaieacGreat
open Go.AM

theorem copyInts_l (l : List Int) (h : l.length ≤ 1048576) : impl_copyInts_p l = some l := by
  unfold impl_copyInts_p; rw [fits_of (by omega), need_t, Option.bind_some]

end Go.Proofs.YtegdphhfimaieacGreat
