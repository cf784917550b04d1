/-
  No cell of these rows narrows 'for every input' (looked for: loops, veiled, ifaces, maps, wideKeys, modest, calm, conditions, laid).
  DERIVED. THE GIVEN ROWS OF THIS SEAT. 5 by the template 'for every input the law returns true; each argument reads behind the call as it read before'; 0 by the template 'total and deterministic' (their statements: YtbclgnikhophlaaGreatTotals.lean).
  GIVEN WITH THE SEED: the statements are not yours to turn. If you find one false, say at which input.
  Laid BY PROGRAM, IN A SANDBOX (cutbox-rows.mjs): the forced cells as the released guide's own fill.sh prints them over the translation 3780ff7a42dad0a5… (all of the seat's roots in one cut). By AI agents, Wed Nov 11 2026. No macro, syntax, notation, axiom, sorry.
-/
import Derived.Test.YtbclgnikhophlaaGreatChecked
import GoSem.Claim
import GoSem.ClaimJoined
import GoSem.ClaimMapViews
import Derived.JoinedTies
import Derived.KernelRfl
namespace Go.Proofs.YtbclgnikhophlaaGreat
/- THE CELL 'sum', in the pinned program and in every row, IS THE sha256 OF THE DUMP (.gsa) THAT YtbclgnikhophlaaGreatProg.lean LOADS. Nothing in Lean hashes anything: it is a label: what it is worth is what the hold of that sum in a sandbox is worth. -/
noncomputable def Tryz.pinned : Pinned := { name := "ytbclgnikhophlaagreat", sum := "3780ff7a42dad0a5648db7dd248702da61567cc88725cef1c39bb51f4f0eae9d", checked := Tryz.checked }
namespace Rows
def none {H : Type} : Left H := { results := [], args := [] }

/-- 'laws.FnExactAllowedSteps': WHATEVER THE INPUT: true; the input reads as it did. -/
def fnExactAllowedStepsSpec : ChangeSpec := { name := "fnExactAllowedSteps", fn := fun _ => fun
  | [d] => { results := [.lit (.bool true)], args := [d] }
  | _ => none }
def fnExactAllowedStepsRow : OpenClaim := { program := "ytbclgnikhophlaagreat", sum := "3780ff7a42dad0a5648db7dd248702da61567cc88725cef1c39bb51f4f0eae9d", func := "loop.example/g00912/laws.FnExactAllowedSteps", spec := "fnExactAllowedSteps", unfollowed := true, recurses := true, apart := false }
def FnExactAllowedStepsSaid : Prop := fnExactAllowedStepsRow.holds Tryz.pinned (OpenSpec.ofChange fnExactAllowedStepsSpec)

/-- ITS FALSE NEIGHBOUR: 'it returns false'. Refute it at one input. -/
def fnExactAllowedStepsWrong : ChangeSpec := { name := "fnExactAllowedSteps", fn := fun _ => fun
  | [d] => { results := [.lit (.bool false)], args := [d] }
  | _ => none }
def FnExactAllowedStepsWrongFalsely : Prop := fnExactAllowedStepsRow.holds Tryz.pinned (OpenSpec.ofChange fnExactAllowedStepsWrong)

/-- 'laws.FnExactBeginSegment': WHATEVER THE INPUT: true; the input reads as it did. -/
def fnExactBeginSegmentSpec : ChangeSpec := { name := "fnExactBeginSegment", fn := fun _ => fun
  | [d] => { results := [.lit (.bool true)], args := [d] }
  | _ => none }
def fnExactBeginSegmentRow : OpenClaim := { program := "ytbclgnikhophlaagreat", sum := "3780ff7a42dad0a5648db7dd248702da61567cc88725cef1c39bb51f4f0eae9d", func := "loop.example/g00912/laws.FnExactBeginSegment", spec := "fnExactBeginSegment", unfollowed := true, recurses := true, apart := false }
def FnExactBeginSegmentSaid : Prop := fnExactBeginSegmentRow.holds Tryz.pinned (OpenSpec.ofChange fnExactBeginSegmentSpec)

/-- ITS FALSE NEIGHBOUR: 'it returns false'. Refute it at one input. -/
def fnExactBeginSegmentWrong : ChangeSpec := { name := "fnExactBeginSegment", fn := fun _ => fun
  | [d] => { results := [.lit (.bool false)], args := [d] }
  | _ => none }
def FnExactBeginSegmentWrongFalsely : Prop := fnExactBeginSegmentRow.holds Tryz.pinned (OpenSpec.ofChange fnExactBeginSegmentWrong)

/-- 'laws.FnExactRunSteps': WHATEVER THE INPUT: true; the input reads as it did. -/
def fnExactRunStepsSpec : ChangeSpec := { name := "fnExactRunSteps", fn := fun _ => fun
  | [d1, d2] => { results := [.lit (.bool true)], args := [d1, d2] }
  | _ => none }
def fnExactRunStepsRow : OpenClaim := { program := "ytbclgnikhophlaagreat", sum := "3780ff7a42dad0a5648db7dd248702da61567cc88725cef1c39bb51f4f0eae9d", func := "loop.example/g00912/laws.FnExactRunSteps", spec := "fnExactRunSteps", unfollowed := true, recurses := true, apart := false }
def FnExactRunStepsSaid : Prop := fnExactRunStepsRow.holds Tryz.pinned (OpenSpec.ofChange fnExactRunStepsSpec)

/-- ITS FALSE NEIGHBOUR: 'it returns false'. Refute it at one input. -/
def fnExactRunStepsWrong : ChangeSpec := { name := "fnExactRunSteps", fn := fun _ => fun
  | [d1, d2] => { results := [.lit (.bool false)], args := [d1, d2] }
  | _ => none }
def FnExactRunStepsWrongFalsely : Prop := fnExactRunStepsRow.holds Tryz.pinned (OpenSpec.ofChange fnExactRunStepsWrong)

/-- 'laws.FnSteps': WHATEVER THE INPUT: true; the input reads as it did. -/
def fnStepsSpec : ChangeSpec := { name := "fnSteps", fn := fun _ => fun
  | [d1, d2] => { results := [.lit (.bool true)], args := [d1, d2] }
  | _ => none }
def fnStepsRow : OpenClaim := { program := "ytbclgnikhophlaagreat", sum := "3780ff7a42dad0a5648db7dd248702da61567cc88725cef1c39bb51f4f0eae9d", func := "loop.example/g00912/laws.FnSteps", spec := "fnSteps", unfollowed := true, recurses := true, apart := false }
def FnStepsSaid : Prop := fnStepsRow.holds Tryz.pinned (OpenSpec.ofChange fnStepsSpec)

/-- ITS FALSE NEIGHBOUR: 'it returns false'. Refute it at one input. -/
def fnStepsWrong : ChangeSpec := { name := "fnSteps", fn := fun _ => fun
  | [d1, d2] => { results := [.lit (.bool false)], args := [d1, d2] }
  | _ => none }
def FnStepsWrongFalsely : Prop := fnStepsRow.holds Tryz.pinned (OpenSpec.ofChange fnStepsWrong)

/-- 'laws.FnEvents': WHATEVER THE INPUT: true; the input reads as it did. -/
def fnEventsSpec : ChangeSpec := { name := "fnEvents", fn := fun _ => fun
  | [d1, d2] => { results := [.lit (.bool true)], args := [d1, d2] }
  | _ => none }
def fnEventsRow : OpenClaim := { program := "ytbclgnikhophlaagreat", sum := "3780ff7a42dad0a5648db7dd248702da61567cc88725cef1c39bb51f4f0eae9d", func := "loop.example/g00912/laws.FnEvents", spec := "fnEvents", unfollowed := true, recurses := true, apart := false }
def FnEventsSaid : Prop := fnEventsRow.holds Tryz.pinned (OpenSpec.ofChange fnEventsSpec)

/-- ITS FALSE NEIGHBOUR: 'it returns false'. Refute it at one input. -/
def fnEventsWrong : ChangeSpec := { name := "fnEvents", fn := fun _ => fun
  | [d1, d2] => { results := [.lit (.bool false)], args := [d1, d2] }
  | _ => none }
def FnEventsWrongFalsely : Prop := fnEventsRow.holds Tryz.pinned (OpenSpec.ofChange fnEventsWrong)

/- THE SECOND FORM. 'bulk': how many values and letters a reading holds, each counted each time it is reached (what is shared counts as often as it is met; a slice's spare places count too). A statement '..UptoSaid' is the law's where the arguments, and the package variables that the reading takes, are together of bulk at most 1048576: NARROWER than '..Said'. Prove '..Said' where nothing that the law and all that it calls make is longer than what came in: it says more and counts as full. Else prove '..UptoSaid'. A law counts once. -/
mutual
def uptoBulk {H : Type} : DataW H → Nat
  | .lit (.string bytes) => bytes.length + 1
  | .lit _ => 1
  | .nil => 1
  | .ptr d => uptoBulk d + 1
  | .slice elems spare => uptoBulkAll elems + uptoBulkAll spare + 1
  | .agg parts => uptoBulkAll parts + 1
  | .iface _ d => uptoBulk d + 1
  | .map entries => uptoBulkEntries entries + 1
  | .held _ => 1
def uptoBulkAll {H : Type} : List (DataW H) → Nat
  | [] => 0
  | d :: r => uptoBulk d + uptoBulkAll r
def uptoBulkEntries {H : Type} : List (Lit × DataW H) → Nat
  | [] => 0
  | x :: r => uptoBulkEntry x + uptoBulkEntries r
def uptoBulkEntry {H : Type} : Lit × DataW H → Nat
  | (.string bytes, d) => bytes.length + uptoBulk d + 1
  | (_, d) => uptoBulk d + 1
 end
def uptoSmall : (H : Type) → List (DataW H) → Bool := fun _ ds => decide (uptoBulkAll ds ≤ 1048576)
def OpenSpec.upto (s : _root_.Go.ChangeSpec) : _root_.Go.OpenSpec := { _root_.Go.OpenSpec.ofChange s with cond := some uptoSmall }

/-- 'laws.FnExactAllowedSteps', WHERE WHAT IT READS IS OF BULK AT MOST 1048576: true; the input reads as it did. -/
def fnExactAllowedStepsUptoRow : OpenClaim := { program := "ytbclgnikhophlaagreat", sum := "3780ff7a42dad0a5648db7dd248702da61567cc88725cef1c39bb51f4f0eae9d", func := "loop.example/g00912/laws.FnExactAllowedSteps", spec := "fnExactAllowedSteps", unfollowed := true, recurses := true, apart := false, narrowed := true }
def FnExactAllowedStepsUptoSaid : Prop := fnExactAllowedStepsUptoRow.holds Tryz.pinned (OpenSpec.upto fnExactAllowedStepsSpec)

/-- 'laws.FnExactBeginSegment', WHERE WHAT IT READS IS OF BULK AT MOST 1048576: true; the input reads as it did. -/
def fnExactBeginSegmentUptoRow : OpenClaim := { program := "ytbclgnikhophlaagreat", sum := "3780ff7a42dad0a5648db7dd248702da61567cc88725cef1c39bb51f4f0eae9d", func := "loop.example/g00912/laws.FnExactBeginSegment", spec := "fnExactBeginSegment", unfollowed := true, recurses := true, apart := false, narrowed := true }
def FnExactBeginSegmentUptoSaid : Prop := fnExactBeginSegmentUptoRow.holds Tryz.pinned (OpenSpec.upto fnExactBeginSegmentSpec)

/-- 'laws.FnExactRunSteps', WHERE WHAT IT READS IS OF BULK AT MOST 1048576: true; the input reads as it did. -/
def fnExactRunStepsUptoRow : OpenClaim := { program := "ytbclgnikhophlaagreat", sum := "3780ff7a42dad0a5648db7dd248702da61567cc88725cef1c39bb51f4f0eae9d", func := "loop.example/g00912/laws.FnExactRunSteps", spec := "fnExactRunSteps", unfollowed := true, recurses := true, apart := false, narrowed := true }
def FnExactRunStepsUptoSaid : Prop := fnExactRunStepsUptoRow.holds Tryz.pinned (OpenSpec.upto fnExactRunStepsSpec)

/-- 'laws.FnSteps', WHERE WHAT IT READS IS OF BULK AT MOST 1048576: true; the input reads as it did. -/
def fnStepsUptoRow : OpenClaim := { program := "ytbclgnikhophlaagreat", sum := "3780ff7a42dad0a5648db7dd248702da61567cc88725cef1c39bb51f4f0eae9d", func := "loop.example/g00912/laws.FnSteps", spec := "fnSteps", unfollowed := true, recurses := true, apart := false, narrowed := true }
def FnStepsUptoSaid : Prop := fnStepsUptoRow.holds Tryz.pinned (OpenSpec.upto fnStepsSpec)

/-- 'laws.FnEvents', WHERE WHAT IT READS IS OF BULK AT MOST 1048576: true; the input reads as it did. -/
def fnEventsUptoRow : OpenClaim := { program := "ytbclgnikhophlaagreat", sum := "3780ff7a42dad0a5648db7dd248702da61567cc88725cef1c39bb51f4f0eae9d", func := "loop.example/g00912/laws.FnEvents", spec := "fnEvents", unfollowed := true, recurses := true, apart := false, narrowed := true }
def FnEventsUptoSaid : Prop := fnEventsUptoRow.holds Tryz.pinned (OpenSpec.upto fnEventsSpec)

end Rows
end Go.Proofs.YtbclgnikhophlaaGreat
