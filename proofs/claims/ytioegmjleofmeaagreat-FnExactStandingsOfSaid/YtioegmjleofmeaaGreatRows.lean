/-
  No cell of these rows narrows 'for every input' (looked for: loops, veiled, ifaces, maps, wideKeys, modest, calm, conditions, laid).
  DERIVED. THE GIVEN ROWS OF THIS SEAT. 4 by the template 'for every input the law returns true; each argument reads behind the call as it read before'; 0 by the template 'total and deterministic' (their statements: YtioegmjleofmeaaGreatTotals.lean).
  GIVEN WITH THE SEED: the statements are not yours to turn. If you find one false, say at which input.
  Laid BY PROGRAM, IN A SANDBOX (cutbox-rows.mjs): the forced cells as the released guide's own fill.sh prints them over the translation d6d0ad8cb4ea6092… (all of the seat's roots in one cut). By AI agents, Wed Nov 11 2026. No macro, syntax, notation, axiom, sorry.
-/
import Derived.Test.YtioegmjleofmeaaGreatChecked
import GoSem.Claim
import GoSem.ClaimJoined
import GoSem.ClaimMapViews
import Derived.JoinedTies
import Derived.KernelRfl
namespace Go.Proofs.YtioegmjleofmeaaGreat
/- THE CELL 'sum', in the pinned program and in every row, IS THE sha256 OF THE DUMP (.gsa) THAT YtioegmjleofmeaaGreatProg.lean LOADS. Nothing in Lean hashes anything: it is a label: what it is worth is what the hold of that sum in a sandbox is worth. -/
noncomputable def Tryz.pinned : Pinned := { name := "ytioegmjleofmeaagreat", sum := "d6d0ad8cb4ea6092441919a8671f105c1e808ba4074c42a6f3de69d35c487297", checked := Tryz.checked }
namespace Rows
def none {H : Type} : Left H := { results := [], args := [] }

/-- 'laws.FnExactEnterSkater': WHATEVER THE INPUT: true; the input reads as it did. -/
def fnExactEnterSkaterSpec : ChangeSpec := { name := "fnExactEnterSkater", fn := fun _ => fun
  | [d1, d2] => { results := [.lit (.bool true)], args := [d1, d2] }
  | _ => none }
def fnExactEnterSkaterRow : OpenClaim := { program := "ytioegmjleofmeaagreat", sum := "d6d0ad8cb4ea6092441919a8671f105c1e808ba4074c42a6f3de69d35c487297", func := "loop.example/g00912/laws.FnExactEnterSkater", spec := "fnExactEnterSkater", unfollowed := true, recurses := true, apart := false }
def FnExactEnterSkaterSaid : Prop := fnExactEnterSkaterRow.holds Tryz.pinned (OpenSpec.ofChange fnExactEnterSkaterSpec)

/-- ITS FALSE NEIGHBOUR: 'it returns false'. Refute it at one input. -/
def fnExactEnterSkaterWrong : ChangeSpec := { name := "fnExactEnterSkater", fn := fun _ => fun
  | [d1, d2] => { results := [.lit (.bool false)], args := [d1, d2] }
  | _ => none }
def FnExactEnterSkaterWrongFalsely : Prop := fnExactEnterSkaterRow.holds Tryz.pinned (OpenSpec.ofChange fnExactEnterSkaterWrong)

/-- 'laws.FnExactLeaveEvent': WHATEVER THE INPUT: true; the input reads as it did. -/
def fnExactLeaveEventSpec : ChangeSpec := { name := "fnExactLeaveEvent", fn := fun _ => fun
  | [d1, d2] => { results := [.lit (.bool true)], args := [d1, d2] }
  | _ => none }
def fnExactLeaveEventRow : OpenClaim := { program := "ytioegmjleofmeaagreat", sum := "d6d0ad8cb4ea6092441919a8671f105c1e808ba4074c42a6f3de69d35c487297", func := "loop.example/g00912/laws.FnExactLeaveEvent", spec := "fnExactLeaveEvent", unfollowed := true, recurses := true, apart := false }
def FnExactLeaveEventSaid : Prop := fnExactLeaveEventRow.holds Tryz.pinned (OpenSpec.ofChange fnExactLeaveEventSpec)

/-- ITS FALSE NEIGHBOUR: 'it returns false'. Refute it at one input. -/
def fnExactLeaveEventWrong : ChangeSpec := { name := "fnExactLeaveEvent", fn := fun _ => fun
  | [d1, d2] => { results := [.lit (.bool false)], args := [d1, d2] }
  | _ => none }
def FnExactLeaveEventWrongFalsely : Prop := fnExactLeaveEventRow.holds Tryz.pinned (OpenSpec.ofChange fnExactLeaveEventWrong)

/-- 'laws.FnExactGiveScore': WHATEVER THE INPUT: true; the input reads as it did. -/
def fnExactGiveScoreSpec : ChangeSpec := { name := "fnExactGiveScore", fn := fun _ => fun
  | [d1, d2] => { results := [.lit (.bool true)], args := [d1, d2] }
  | _ => none }
def fnExactGiveScoreRow : OpenClaim := { program := "ytioegmjleofmeaagreat", sum := "d6d0ad8cb4ea6092441919a8671f105c1e808ba4074c42a6f3de69d35c487297", func := "loop.example/g00912/laws.FnExactGiveScore", spec := "fnExactGiveScore", unfollowed := true, recurses := true, apart := false }
def FnExactGiveScoreSaid : Prop := fnExactGiveScoreRow.holds Tryz.pinned (OpenSpec.ofChange fnExactGiveScoreSpec)

/-- ITS FALSE NEIGHBOUR: 'it returns false'. Refute it at one input. -/
def fnExactGiveScoreWrong : ChangeSpec := { name := "fnExactGiveScore", fn := fun _ => fun
  | [d1, d2] => { results := [.lit (.bool false)], args := [d1, d2] }
  | _ => none }
def FnExactGiveScoreWrongFalsely : Prop := fnExactGiveScoreRow.holds Tryz.pinned (OpenSpec.ofChange fnExactGiveScoreWrong)

/-- 'laws.FnExactStandingsOf': WHATEVER THE INPUT: true; the input reads as it did. -/
def fnExactStandingsOfSpec : ChangeSpec := { name := "fnExactStandingsOf", fn := fun _ => fun
  | [d] => { results := [.lit (.bool true)], args := [d] }
  | _ => none }
def fnExactStandingsOfRow : OpenClaim := { program := "ytioegmjleofmeaagreat", sum := "d6d0ad8cb4ea6092441919a8671f105c1e808ba4074c42a6f3de69d35c487297", func := "loop.example/g00912/laws.FnExactStandingsOf", spec := "fnExactStandingsOf", unfollowed := true, recurses := true, apart := false }
def FnExactStandingsOfSaid : Prop := fnExactStandingsOfRow.holds Tryz.pinned (OpenSpec.ofChange fnExactStandingsOfSpec)

/-- ITS FALSE NEIGHBOUR: 'it returns false'. Refute it at one input. -/
def fnExactStandingsOfWrong : ChangeSpec := { name := "fnExactStandingsOf", fn := fun _ => fun
  | [d] => { results := [.lit (.bool false)], args := [d] }
  | _ => none }
def FnExactStandingsOfWrongFalsely : Prop := fnExactStandingsOfRow.holds Tryz.pinned (OpenSpec.ofChange fnExactStandingsOfWrong)

/- THE SECOND FORM. 'bulk': how many values and letters a reading holds, each counted each time it is reached (what is shared counts as often as it is met; a slice's spare places count too). A statement '..UptoSaid' is the law's where the arguments, and the package variables that the reading takes, are together of bulk at most 1048576: NARROWER than '..Said'. Prove '..Said' where nothing that the law and all that it calls make is longer than what came in: it says more and counts as full. Else prove '..UptoSaid'. A law counts once. -/
mutual
def uptoBulk {H : Type} : DataW H → Nat
  | .lit (.string bytes) => bytes.length + 1
  | .lit _ => 1
  | .nil => 1
  | .ptr d => uptoBulk d + 1
  | .slice elems spare => uptoBulkAll elems + uptoBulkAll spare + 1
  | .agg parts => uptoBulkAll parts + 1
  | .iface _ d => uptoBulk d + 1
  | .map entries => uptoBulkEntries entries + 1
  | .held _ => 1
def uptoBulkAll {H : Type} : List (DataW H) → Nat
  | [] => 0
  | d :: r => uptoBulk d + uptoBulkAll r
def uptoBulkEntries {H : Type} : List (Lit × DataW H) → Nat
  | [] => 0
  | x :: r => uptoBulkEntry x + uptoBulkEntries r
def uptoBulkEntry {H : Type} : Lit × DataW H → Nat
  | (.string bytes, d) => bytes.length + uptoBulk d + 1
  | (_, d) => uptoBulk d + 1
 end
def uptoSmall : (H : Type) → List (DataW H) → Bool := fun _ ds => decide (uptoBulkAll ds ≤ 1048576)
def OpenSpec.upto (s : _root_.Go.ChangeSpec) : _root_.Go.OpenSpec := { _root_.Go.OpenSpec.ofChange s with cond := some uptoSmall }

/-- 'laws.FnExactEnterSkater', WHERE WHAT IT READS IS OF BULK AT MOST 1048576: true; the input reads as it did. -/
def fnExactEnterSkaterUptoRow : OpenClaim := { program := "ytioegmjleofmeaagreat", sum := "d6d0ad8cb4ea6092441919a8671f105c1e808ba4074c42a6f3de69d35c487297", func := "loop.example/g00912/laws.FnExactEnterSkater", spec := "fnExactEnterSkater", unfollowed := true, recurses := true, apart := false, narrowed := true }
def FnExactEnterSkaterUptoSaid : Prop := fnExactEnterSkaterUptoRow.holds Tryz.pinned (OpenSpec.upto fnExactEnterSkaterSpec)

/-- 'laws.FnExactLeaveEvent', WHERE WHAT IT READS IS OF BULK AT MOST 1048576: true; the input reads as it did. -/
def fnExactLeaveEventUptoRow : OpenClaim := { program := "ytioegmjleofmeaagreat", sum := "d6d0ad8cb4ea6092441919a8671f105c1e808ba4074c42a6f3de69d35c487297", func := "loop.example/g00912/laws.FnExactLeaveEvent", spec := "fnExactLeaveEvent", unfollowed := true, recurses := true, apart := false, narrowed := true }
def FnExactLeaveEventUptoSaid : Prop := fnExactLeaveEventUptoRow.holds Tryz.pinned (OpenSpec.upto fnExactLeaveEventSpec)

/-- 'laws.FnExactGiveScore', WHERE WHAT IT READS IS OF BULK AT MOST 1048576: true; the input reads as it did. -/
def fnExactGiveScoreUptoRow : OpenClaim := { program := "ytioegmjleofmeaagreat", sum := "d6d0ad8cb4ea6092441919a8671f105c1e808ba4074c42a6f3de69d35c487297", func := "loop.example/g00912/laws.FnExactGiveScore", spec := "fnExactGiveScore", unfollowed := true, recurses := true, apart := false, narrowed := true }
def FnExactGiveScoreUptoSaid : Prop := fnExactGiveScoreUptoRow.holds Tryz.pinned (OpenSpec.upto fnExactGiveScoreSpec)

/-- 'laws.FnExactStandingsOf', WHERE WHAT IT READS IS OF BULK AT MOST 1048576: true; the input reads as it did. -/
def fnExactStandingsOfUptoRow : OpenClaim := { program := "ytioegmjleofmeaagreat", sum := "d6d0ad8cb4ea6092441919a8671f105c1e808ba4074c42a6f3de69d35c487297", func := "loop.example/g00912/laws.FnExactStandingsOf", spec := "fnExactStandingsOf", unfollowed := true, recurses := true, apart := false, narrowed := true }
def FnExactStandingsOfUptoSaid : Prop := fnExactStandingsOfUptoRow.holds Tryz.pinned (OpenSpec.upto fnExactStandingsOfSpec)

end Rows
end Go.Proofs.YtioegmjleofmeaaGreat
