/- Plain lemmas: what the functions compute is what the reference says, in plain Lean. No condition. -/
import Derived.Test.YtegdphhfimaieaaGreatLaw
set_option maxRecDepth 4000
set_option maxHeartbeats 1000000
set_option linter.unusedVariables false
set_option linter.unusedSimpArgs false
set_option linter.unusedSectionVars false

namespace Go.Proofs.YtegdphhfimaieaaGreat
open Go.AM

def nIntS (l:List Int):Nat:=l.length
def nLine (x:Line):Nat:=nIntS x.events+nIntS x.points
def nLineS (l:List Line):Nat:=l.length+(l.map fun x=>nLine x).sum
def nSeason (x:Season):Nat:=nLineS x.lines
def nSeasonS (l:List Season):Nat:=l.length+(l.map fun x=>nSeason x).sum
def nWorld (x:World):Nat:=nSeasonS x.seasons+nIntS x.weights

end Go.Proofs.YtegdphhfimaieaaGreat
