/- Plain lemmas: what the functions compute is what the reference says, in plain Lean. No condition. -/
import Derived.Test.YtjbkbiofklgblaaDoorPHistory4
set_option maxRecDepth 4000
set_option maxHeartbeats 1000000
set_option linter.unusedVariables false
set_option linter.unusedSimpArgs false
set_option linter.unusedSectionVars false

namespace Go.Proofs.YtjbkbiofklgblaaDoor
open Go.AM

abbrev toL (s : ByteArray) : List UInt8 := s.data.toList
theorem toL_inj {s t : ByteArray} (h : toL s = toL t) : s = t := ByteArray.ext (Array.ext' h)

end Go.Proofs.YtjbkbiofklgblaaDoor
