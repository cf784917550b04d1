/- Plain lemmas on what the law FnTop makes of its arguments: sizes, copies, comparisons. No condition. -/
import Derived.Test.YtpmgadenilnabaaGreatWalk4
set_option maxRecDepth 4000
set_option maxHeartbeats 1000000
set_option linter.unusedVariables false
set_option linter.unusedSimpArgs false
set_option linter.unusedSectionVars false

namespace Go.Proofs.YtpmgadenilnabaaGreat
open Go.AM
theorem qRx {ds:List D} (h:qPO te 5 ds):∃ x:Int,ds=[.v (.int .u8 x)]∧qKP x:=by
 cases h with
 | int h' hw=>cases h';exact ⟨_,rfl,qRa hw⟩
 | bool h'=>cases h'
 | str h' _=>cases h'
 | slice h' _ _=>cases h'
 | struct h' _ _=>cases h'
def qVi (l:List Int):Nat:=l.length
def qMW (l:List Int):Prop:=l.length ≤ qG1∧∀ x ∈ l,qKP x
theorem qMh {ds:List D} (h:qPO te 22 ds):∃ x:List Int,ds=[.s (x.map ze4)]∧qMW x:=by
 cases h with
 | slice h' hl hx =>
  cases h'
  obtain ⟨l,rfl,hp⟩:=qLH (f:=ze4) (p:=fun x=>qKP x) fun x hx'=>(qRx (hx x hx')).imp fun a ha=>⟨ha.2,ha.1⟩
  exact ⟨l,rfl,by simpa using hl,hp⟩
 | int h' _=>cases h'
 | bool h'=>cases h'
 | str h' _=>cases h'
 | struct h' _ _=>cases h'

end Go.Proofs.YtpmgadenilnabaaGreat
