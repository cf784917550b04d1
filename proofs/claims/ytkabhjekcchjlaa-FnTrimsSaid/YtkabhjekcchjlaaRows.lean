/-
  No cell of these rows narrows 'for every input' (looked for: loops, veiled, ifaces, maps, wideKeys, modest, calm, conditions, laid).
  DERIVED. THE GIVEN ROWS OF THIS SEAT. 5 by the template 'for every input the law returns true; each argument reads behind the call as it read before'; 0 by the template 'total and deterministic' (their statements: YtkabhjekcchjlaaTotals.lean).
  GIVEN WITH THE SEED: the statements are not yours to turn. If you find one false, say at which input.
  Laid BY PROGRAM, IN A SANDBOX (cutbox-rows.mjs): the forced cells as the released guide's own fill.sh prints them over the translation d6bd46cf4b30ca36… (all of the seat's roots in one cut). By AI agents, Wed Nov 11 2026. No macro, syntax, notation, axiom, sorry.
-/
import Derived.Test.YtkabhjekcchjlaaChecked
import GoSem.Claim
import GoSem.ClaimJoined
import GoSem.ClaimMapViews
import Derived.JoinedTies
import Derived.KernelRfl
namespace Go.Proofs.Ytkabhjekcchjlaa
/- THE CELL 'sum', in the pinned program and in every row, IS THE sha256 OF THE DUMP (.gsa) THAT YtkabhjekcchjlaaProg.lean LOADS. Nothing in Lean hashes anything: it is a label: what it is worth is what the hold of that sum in a sandbox is worth. -/
noncomputable def Try.pinned : Pinned := { name := "ytkabhjekcchjlaa", sum := "d6bd46cf4b30ca36bd7c50dd440aeb00267c6bd3e86c7670ee1ad47f6c912f7f", checked := Try.checked }
namespace Rows
def none {H : Type} : Left H := { results := [], args := [] }

/-- 'laws.FnExactSpreadPanels': WHATEVER THE INPUT: true; the input reads as it did. -/
def fnExactSpreadPanelsSpec : ChangeSpec := { name := "fnExactSpreadPanels", fn := fun _ => fun
  | [d1, d2, d3, d4] => { results := [.lit (.bool true)], args := [d1, d2, d3, d4] }
  | _ => none }
def fnExactSpreadPanelsRow : OpenClaim := { program := "ytkabhjekcchjlaa", sum := "d6bd46cf4b30ca36bd7c50dd440aeb00267c6bd3e86c7670ee1ad47f6c912f7f", func := "loop.example/g00912/laws.FnExactSpreadPanels", spec := "fnExactSpreadPanels", unfollowed := true, recurses := true, apart := false }
def FnExactSpreadPanelsSaid : Prop := fnExactSpreadPanelsRow.holds Try.pinned (OpenSpec.ofChange fnExactSpreadPanelsSpec)

/-- ITS FALSE NEIGHBOUR: 'it returns false'. Refute it at one input. -/
def fnExactSpreadPanelsWrong : ChangeSpec := { name := "fnExactSpreadPanels", fn := fun _ => fun
  | [d1, d2, d3, d4] => { results := [.lit (.bool false)], args := [d1, d2, d3, d4] }
  | _ => none }
def FnExactSpreadPanelsWrongFalsely : Prop := fnExactSpreadPanelsRow.holds Try.pinned (OpenSpec.ofChange fnExactSpreadPanelsWrong)

/-- 'laws.FnExactPanelOf': WHATEVER THE INPUT: true; the input reads as it did. -/
def fnExactPanelOfSpec : ChangeSpec := { name := "fnExactPanelOf", fn := fun _ => fun
  | [d1, d2, d3, d4, d5, d6] => { results := [.lit (.bool true)], args := [d1, d2, d3, d4, d5, d6] }
  | _ => none }
def fnExactPanelOfRow : OpenClaim := { program := "ytkabhjekcchjlaa", sum := "d6bd46cf4b30ca36bd7c50dd440aeb00267c6bd3e86c7670ee1ad47f6c912f7f", func := "loop.example/g00912/laws.FnExactPanelOf", spec := "fnExactPanelOf", unfollowed := true, recurses := true, apart := false }
def FnExactPanelOfSaid : Prop := fnExactPanelOfRow.holds Try.pinned (OpenSpec.ofChange fnExactPanelOfSpec)

/-- ITS FALSE NEIGHBOUR: 'it returns false'. Refute it at one input. -/
def fnExactPanelOfWrong : ChangeSpec := { name := "fnExactPanelOf", fn := fun _ => fun
  | [d1, d2, d3, d4, d5, d6] => { results := [.lit (.bool false)], args := [d1, d2, d3, d4, d5, d6] }
  | _ => none }
def FnExactPanelOfWrongFalsely : Prop := fnExactPanelOfRow.holds Try.pinned (OpenSpec.ofChange fnExactPanelOfWrong)

/-- 'laws.FnExactReplaceJudge': WHATEVER THE INPUT: true; the input reads as it did. -/
def fnExactReplaceJudgeSpec : ChangeSpec := { name := "fnExactReplaceJudge", fn := fun _ => fun
  | [d1, d2, d3, d4, d5, d6, d7] => { results := [.lit (.bool true)], args := [d1, d2, d3, d4, d5, d6, d7] }
  | _ => none }
def fnExactReplaceJudgeRow : OpenClaim := { program := "ytkabhjekcchjlaa", sum := "d6bd46cf4b30ca36bd7c50dd440aeb00267c6bd3e86c7670ee1ad47f6c912f7f", func := "loop.example/g00912/laws.FnExactReplaceJudge", spec := "fnExactReplaceJudge", unfollowed := true, recurses := true, apart := false }
def FnExactReplaceJudgeSaid : Prop := fnExactReplaceJudgeRow.holds Try.pinned (OpenSpec.ofChange fnExactReplaceJudgeSpec)

/-- ITS FALSE NEIGHBOUR: 'it returns false'. Refute it at one input. -/
def fnExactReplaceJudgeWrong : ChangeSpec := { name := "fnExactReplaceJudge", fn := fun _ => fun
  | [d1, d2, d3, d4, d5, d6, d7] => { results := [.lit (.bool false)], args := [d1, d2, d3, d4, d5, d6, d7] }
  | _ => none }
def FnExactReplaceJudgeWrongFalsely : Prop := fnExactReplaceJudgeRow.holds Try.pinned (OpenSpec.ofChange fnExactReplaceJudgeWrong)

/-- 'laws.FnMoved': WHATEVER THE INPUT: true; the input reads as it did. -/
def fnMovedSpec : ChangeSpec := { name := "fnMoved", fn := fun _ => fun
  | [d1, d2] => { results := [.lit (.bool true)], args := [d1, d2] }
  | _ => none }
def fnMovedRow : OpenClaim := { program := "ytkabhjekcchjlaa", sum := "d6bd46cf4b30ca36bd7c50dd440aeb00267c6bd3e86c7670ee1ad47f6c912f7f", func := "loop.example/g00912/laws.FnMoved", spec := "fnMoved", recurses := true, apart := false }
def FnMovedSaid : Prop := fnMovedRow.holds Try.pinned (OpenSpec.ofChange fnMovedSpec)

/-- ITS FALSE NEIGHBOUR: 'it returns false'. Refute it at one input. -/
def fnMovedWrong : ChangeSpec := { name := "fnMoved", fn := fun _ => fun
  | [d1, d2] => { results := [.lit (.bool false)], args := [d1, d2] }
  | _ => none }
def FnMovedWrongFalsely : Prop := fnMovedRow.holds Try.pinned (OpenSpec.ofChange fnMovedWrong)

/-- 'laws.FnTrims': WHATEVER THE INPUT: true; the input reads as it did. -/
def fnTrimsSpec : ChangeSpec := { name := "fnTrims", fn := fun _ => fun
  | [d1, d2] => { results := [.lit (.bool true)], args := [d1, d2] }
  | _ => none }
def fnTrimsRow : OpenClaim := { program := "ytkabhjekcchjlaa", sum := "d6bd46cf4b30ca36bd7c50dd440aeb00267c6bd3e86c7670ee1ad47f6c912f7f", func := "loop.example/g00912/laws.FnTrims", spec := "fnTrims", recurses := true, apart := false }
def FnTrimsSaid : Prop := fnTrimsRow.holds Try.pinned (OpenSpec.ofChange fnTrimsSpec)

/-- ITS FALSE NEIGHBOUR: 'it returns false'. Refute it at one input. -/
def fnTrimsWrong : ChangeSpec := { name := "fnTrims", fn := fun _ => fun
  | [d1, d2] => { results := [.lit (.bool false)], args := [d1, d2] }
  | _ => none }
def FnTrimsWrongFalsely : Prop := fnTrimsRow.holds Try.pinned (OpenSpec.ofChange fnTrimsWrong)

/- THE SECOND FORM. 'bulk': how many values and letters a reading holds, each counted each time it is reached (what is shared counts as often as it is met; a slice's spare places count too). A statement '..UptoSaid' is the law's where the arguments, and the package variables that the reading takes, are together of bulk at most 1048576: NARROWER than '..Said'. Prove '..Said' where nothing that the law and all that it calls make is longer than what came in: it says more and counts as full. Else prove '..UptoSaid'. A law counts once. -/
mutual
def uptoBulk {H : Type} : DataW H → Nat
  | .lit (.string bytes) => bytes.length + 1
  | .lit _ => 1
  | .nil => 1
  | .ptr d => uptoBulk d + 1
  | .slice elems spare => uptoBulkAll elems + uptoBulkAll spare + 1
  | .agg parts => uptoBulkAll parts + 1
  | .iface _ d => uptoBulk d + 1
  | .map entries => uptoBulkEntries entries + 1
  | .held _ => 1
def uptoBulkAll {H : Type} : List (DataW H) → Nat
  | [] => 0
  | d :: r => uptoBulk d + uptoBulkAll r
def uptoBulkEntries {H : Type} : List (Lit × DataW H) → Nat
  | [] => 0
  | x :: r => uptoBulkEntry x + uptoBulkEntries r
def uptoBulkEntry {H : Type} : Lit × DataW H → Nat
  | (.string bytes, d) => bytes.length + uptoBulk d + 1
  | (_, d) => uptoBulk d + 1
 end
def uptoSmall : (H : Type) → List (DataW H) → Bool := fun _ ds => decide (uptoBulkAll ds ≤ 1048576)
def OpenSpec.upto (s : _root_.Go.ChangeSpec) : _root_.Go.OpenSpec := { _root_.Go.OpenSpec.ofChange s with cond := some uptoSmall }

/-- 'laws.FnExactSpreadPanels', WHERE WHAT IT READS IS OF BULK AT MOST 1048576: true; the input reads as it did. -/
def fnExactSpreadPanelsUptoRow : OpenClaim := { program := "ytkabhjekcchjlaa", sum := "d6bd46cf4b30ca36bd7c50dd440aeb00267c6bd3e86c7670ee1ad47f6c912f7f", func := "loop.example/g00912/laws.FnExactSpreadPanels", spec := "fnExactSpreadPanels", unfollowed := true, recurses := true, apart := false, narrowed := true }
def FnExactSpreadPanelsUptoSaid : Prop := fnExactSpreadPanelsUptoRow.holds Try.pinned (OpenSpec.upto fnExactSpreadPanelsSpec)

/-- 'laws.FnExactPanelOf', WHERE WHAT IT READS IS OF BULK AT MOST 1048576: true; the input reads as it did. -/
def fnExactPanelOfUptoRow : OpenClaim := { program := "ytkabhjekcchjlaa", sum := "d6bd46cf4b30ca36bd7c50dd440aeb00267c6bd3e86c7670ee1ad47f6c912f7f", func := "loop.example/g00912/laws.FnExactPanelOf", spec := "fnExactPanelOf", unfollowed := true, recurses := true, apart := false, narrowed := true }
def FnExactPanelOfUptoSaid : Prop := fnExactPanelOfUptoRow.holds Try.pinned (OpenSpec.upto fnExactPanelOfSpec)

/-- 'laws.FnExactReplaceJudge', WHERE WHAT IT READS IS OF BULK AT MOST 1048576: true; the input reads as it did. -/
def fnExactReplaceJudgeUptoRow : OpenClaim := { program := "ytkabhjekcchjlaa", sum := "d6bd46cf4b30ca36bd7c50dd440aeb00267c6bd3e86c7670ee1ad47f6c912f7f", func := "loop.example/g00912/laws.FnExactReplaceJudge", spec := "fnExactReplaceJudge", unfollowed := true, recurses := true, apart := false, narrowed := true }
def FnExactReplaceJudgeUptoSaid : Prop := fnExactReplaceJudgeUptoRow.holds Try.pinned (OpenSpec.upto fnExactReplaceJudgeSpec)

/-- 'laws.FnMoved', WHERE WHAT IT READS IS OF BULK AT MOST 1048576: true; the input reads as it did. -/
def fnMovedUptoRow : OpenClaim := { program := "ytkabhjekcchjlaa", sum := "d6bd46cf4b30ca36bd7c50dd440aeb00267c6bd3e86c7670ee1ad47f6c912f7f", func := "loop.example/g00912/laws.FnMoved", spec := "fnMoved", recurses := true, apart := false, narrowed := true }
def FnMovedUptoSaid : Prop := fnMovedUptoRow.holds Try.pinned (OpenSpec.upto fnMovedSpec)

/-- 'laws.FnTrims', WHERE WHAT IT READS IS OF BULK AT MOST 1048576: true; the input reads as it did. -/
def fnTrimsUptoRow : OpenClaim := { program := "ytkabhjekcchjlaa", sum := "d6bd46cf4b30ca36bd7c50dd440aeb00267c6bd3e86c7670ee1ad47f6c912f7f", func := "loop.example/g00912/laws.FnTrims", spec := "fnTrims", recurses := true, apart := false, narrowed := true }
def FnTrimsUptoSaid : Prop := fnTrimsUptoRow.holds Try.pinned (OpenSpec.upto fnTrimsSpec)

end Rows
end Go.Proofs.Ytkabhjekcchjlaa
