/- Plain lemmas on what the law FnExactCountReplies makes of its arguments: sizes, copies, comparisons. No condition. -/
import Derived.Test.YtkidpkmpnbibmaaGreatDoorWalk4
set_option maxRecDepth 4000
set_option maxHeartbeats 1000000
set_option linter.unusedVariables false
set_option linter.unusedSimpArgs false
set_option linter.unusedSectionVars false

namespace Go.Proofs.YtkidpkmpnbibmaaGreatDoor
open Go.AM
theorem qRF {ds:List D} (h:qRg te 9 ds):∃ x:ByteArray,ds=[.v (.string x)]∧x.size ≤ qEH:=by
 cases h with
 | str h' hw=>cases h';exact ⟨_,rfl,hw⟩
 | int h' _=>cases h'
 | bool h'=>cases h'
 | slice h' _ _=>cases h'
 | struct h' _ _=>cases h'

end Go.Proofs.YtkidpkmpnbibmaaGreatDoor
