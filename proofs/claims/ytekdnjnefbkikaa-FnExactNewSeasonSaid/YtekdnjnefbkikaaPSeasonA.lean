/- Plain lemmas: what the functions compute is what the reference says, in plain Lean. No condition. -/
import Derived.Test.YtekdnjnefbkikaaPSeason2
set_option maxRecDepth 4000
set_option maxHeartbeats 1000000
set_option linter.unusedVariables false
set_option linter.unusedSimpArgs false
set_option linter.unusedSectionVars false

namespace Go.Proofs.Ytekdnjnefbkikaa
open Go.AM
/-! copies and insertion -/
theorem own_eq (l : List Int) (h : l.length ≤ 1048577) : spec_l1Own_p l = some l := by
  unfold spec_l1Own_p
  rw [bnd (x := ()) (by rw [fits_of (by omega)]; rfl)]
theorem copyInts_eq (l : List Int) (h : l.length ≤ 1048577) : impl_copyInts_p l = some l := by
  unfold impl_copyInts_p
  rw [bnd (x := ()) (by rw [fits_of (by omega)]; rfl)]

end Go.Proofs.Ytekdnjnefbkikaa
