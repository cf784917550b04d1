/- Plain lemmas: what the functions compute is what the reference says, in plain Lean. No condition. -/
import Derived.Test.YtegdphhfimaieacGreatPEvent3
set_option maxRecDepth 4000
set_option maxHeartbeats 1000000
set_option linter.unusedVariables false
set_option linter.unusedSimpArgs false
set_option linter.unusedSectionVars false

namespace Go.Proofs.YtegdphhfimaieacGreat
open Go.AM

theorem sortedInts_eq (l : List Int) (h : l.length ≤ 1048576) : impl_sortedInts_p l = some (sortI l) := by
  unfold impl_sortedInts_p impl_copyInts_p slices_Sort_int_p
  rw [fits_of (by omega), need_t, Option.bind_some, Option.bind_some, show Nat.blt l.length 4611686018427387904 = true from by rw [Nat.blt_eq]; omega]
  rfl

end Go.Proofs.YtegdphhfimaieacGreat
