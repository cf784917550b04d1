/- Plain lemmas: what the functions compute is what the reference says, in plain Lean. No condition. -/
import Derived.Test.YtheaoahofklidaaLaw
set_option maxRecDepth 4000
set_option maxHeartbeats 1000000
set_option linter.unusedVariables false
set_option linter.unusedSimpArgs false
set_option linter.unusedSectionVars false

namespace Go.Proofs.Ytheaoahofklidaa
open Go.AM

def cIntS (l : List Int) : Nat := l.length
def cIntSS (l : List (List Int)) : Nat := (l.map fun x => 1 + cIntS x).sum

end Go.Proofs.Ytheaoahofklidaa
