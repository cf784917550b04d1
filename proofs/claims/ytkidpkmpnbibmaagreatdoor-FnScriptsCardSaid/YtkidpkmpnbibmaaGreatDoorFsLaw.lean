/- Plain lemmas on what the law FnScripts makes of its arguments: sizes, copies, comparisons. No condition. -/
import Derived.Test.YtkidpkmpnbibmaaGreatDoorFsWalk4
set_option maxRecDepth 4000
set_option maxHeartbeats 1000000
set_option linter.unusedVariables false
set_option linter.unusedSimpArgs false
set_option linter.unusedSectionVars false
namespace Go.Proofs.YtkidpkmpnbibmaaGreatDoor
open Go.AM
theorem qVS {ds:List D} (h:qSn te 5 ds):∃x:Int,ds=[.v (.int .u8 x)]/\qQJ x:=by
 cases h with
 |int h' hw=>cases h';exact⟨_,rfl,qWi hw⟩
 |bool h'=>cases h'
 |str h' _=>cases h'
 |slice h' _ _=>cases h'
 |struct h' _ _=>cases h'
def qa2 (l:bE):Nat:=l.length
def qN3 (l:bE):Prop:=l.length<=qDF/\∀x∈l,qQJ x
theorem qQA {ds:List D} (h:qSn te 55 ds):∃x:bE,ds=[.s (x.map qNr)]/\qN3 x:=by
 cases h with
 |slice h' hl hx =>
  cases h'
  obtain⟨l,rfl,hp⟩:=qOj (f:=qNr) (p:=fun x=>qQJ x) fun x hx'=>(qVS (hx x hx')).imp fun a ha=>⟨ha.2,ha.1⟩
  exact⟨l,rfl,by simpa using hl,hp⟩
 |int h' _=>cases h'
 |bool h'=>cases h'
 |str h' _=>cases h'
 |struct h' _ _=>cases h'
end Go.Proofs.YtkidpkmpnbibmaaGreatDoor
