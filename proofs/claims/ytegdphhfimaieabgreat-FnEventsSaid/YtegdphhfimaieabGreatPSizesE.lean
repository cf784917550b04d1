/- Plain lemmas: what the functions compute is what the reference says, in plain Lean. No condition. -/
import Derived.Test.YtegdphhfimaieabGreatLaw
set_option maxRecDepth 4000
set_option maxHeartbeats 1000000
set_option linter.unusedVariables false
set_option linter.unusedSimpArgs false
set_option linter.unusedSectionVars false

namespace Go.Proofs.YtegdphhfimaieabGreat
open Go.AM

def nIntS (l:List Int):Nat:=l.length
def nEntrantS (l:List Entrant):Nat:=l.length
def nResult (x:Result):Nat:=nIntS x.scores
def nResultS (l:List Result):Nat:=l.length+(l.map fun x=>nResult x).sum
def nEvent (x:Event):Nat:=nEntrantS x.entrants+nIntS x.gone+nIntS x.order+nResultS x.results

end Go.Proofs.YtegdphhfimaieabGreat
