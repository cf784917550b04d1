/-
  No cell of these rows narrows 'for every input' (looked for: loops, veiled, ifaces, maps, wideKeys, modest, calm, conditions, laid).
  DERIVED. THE GIVEN ROWS OF THIS SEAT. 11 by the template 'for every input the law returns true; each argument reads behind the call as it read before'; 0 by the template 'total and deterministic' (their statements: YtfgpeaiepfdemaaTotals.lean).
  GIVEN WITH THE SEED: the statements are not yours to turn. If you find one false, say at which input.
  Laid BY PROGRAM, IN A SANDBOX (cutbox-rows.mjs): the forced cells as the released guide's own fill.sh prints them over the translation d9229375bb054ba0… (all of the seat's roots in one cut). By AI agents, Wed Nov 11 2026. No macro, syntax, notation, axiom, sorry.
-/
import Derived.Test.YtfgpeaiepfdemaaChecked
import GoSem.Claim
import GoSem.ClaimJoined
import GoSem.ClaimMapViews
import Derived.JoinedTies
import Derived.KernelRfl
namespace Go.Proofs.Ytfgpeaiepfdemaa
/- THE CELL 'sum', in the pinned program and in every row, IS THE sha256 OF THE DUMP (.gsa) THAT YtfgpeaiepfdemaaProg.lean LOADS. Nothing in Lean hashes anything: it is a label: what it is worth is what the hold of that sum in a sandbox is worth. -/
noncomputable def Try.pinned : Pinned := { name := "ytfgpeaiepfdemaa", sum := "d9229375bb054ba091e0c312d39484c95210c35a156709227368e2a1c7959d97", checked := Try.checked }
namespace Rows
def none {H : Type} : Left H := { results := [], args := [] }

/-- 'laws.FnExactIsSeason': WHATEVER THE INPUT: true; the input reads as it did. -/
def fnExactIsSeasonSpec : ChangeSpec := { name := "fnExactIsSeason", fn := fun _ => fun
  | [d] => { results := [.lit (.bool true)], args := [d] }
  | _ => none }
def fnExactIsSeasonRow : OpenClaim := { program := "ytfgpeaiepfdemaa", sum := "d9229375bb054ba091e0c312d39484c95210c35a156709227368e2a1c7959d97", func := "loop.example/g00912/laws.FnExactIsSeason", spec := "fnExactIsSeason", unfollowed := true, recurses := true, apart := false }
def FnExactIsSeasonSaid : Prop := fnExactIsSeasonRow.holds Try.pinned (OpenSpec.ofChange fnExactIsSeasonSpec)

/-- ITS FALSE NEIGHBOUR: 'it returns false'. Refute it at one input. -/
def fnExactIsSeasonWrong : ChangeSpec := { name := "fnExactIsSeason", fn := fun _ => fun
  | [d] => { results := [.lit (.bool false)], args := [d] }
  | _ => none }
def FnExactIsSeasonWrongFalsely : Prop := fnExactIsSeasonRow.holds Try.pinned (OpenSpec.ofChange fnExactIsSeasonWrong)

/-- 'laws.FnExactTotalOf': WHATEVER THE INPUT: true; the input reads as it did. -/
def fnExactTotalOfSpec : ChangeSpec := { name := "fnExactTotalOf", fn := fun _ => fun
  | [d1, d2] => { results := [.lit (.bool true)], args := [d1, d2] }
  | _ => none }
def fnExactTotalOfRow : OpenClaim := { program := "ytfgpeaiepfdemaa", sum := "d9229375bb054ba091e0c312d39484c95210c35a156709227368e2a1c7959d97", func := "loop.example/g00912/laws.FnExactTotalOf", spec := "fnExactTotalOf", unfollowed := true, recurses := true, apart := false }
def FnExactTotalOfSaid : Prop := fnExactTotalOfRow.holds Try.pinned (OpenSpec.ofChange fnExactTotalOfSpec)

/-- ITS FALSE NEIGHBOUR: 'it returns false'. Refute it at one input. -/
def fnExactTotalOfWrong : ChangeSpec := { name := "fnExactTotalOf", fn := fun _ => fun
  | [d1, d2] => { results := [.lit (.bool false)], args := [d1, d2] }
  | _ => none }
def FnExactTotalOfWrongFalsely : Prop := fnExactTotalOfRow.holds Try.pinned (OpenSpec.ofChange fnExactTotalOfWrong)

/-- 'laws.FnExactEntriesOf': WHATEVER THE INPUT: true; the input reads as it did. -/
def fnExactEntriesOfSpec : ChangeSpec := { name := "fnExactEntriesOf", fn := fun _ => fun
  | [d] => { results := [.lit (.bool true)], args := [d] }
  | _ => none }
def fnExactEntriesOfRow : OpenClaim := { program := "ytfgpeaiepfdemaa", sum := "d9229375bb054ba091e0c312d39484c95210c35a156709227368e2a1c7959d97", func := "loop.example/g00912/laws.FnExactEntriesOf", spec := "fnExactEntriesOf", unfollowed := true, recurses := true, apart := false }
def FnExactEntriesOfSaid : Prop := fnExactEntriesOfRow.holds Try.pinned (OpenSpec.ofChange fnExactEntriesOfSpec)

/-- ITS FALSE NEIGHBOUR: 'it returns false'. Refute it at one input. -/
def fnExactEntriesOfWrong : ChangeSpec := { name := "fnExactEntriesOf", fn := fun _ => fun
  | [d] => { results := [.lit (.bool false)], args := [d] }
  | _ => none }
def FnExactEntriesOfWrongFalsely : Prop := fnExactEntriesOfRow.holds Try.pinned (OpenSpec.ofChange fnExactEntriesOfWrong)

/-- 'laws.FnExactPlacesOf': WHATEVER THE INPUT: true; the input reads as it did. -/
def fnExactPlacesOfSpec : ChangeSpec := { name := "fnExactPlacesOf", fn := fun _ => fun
  | [d] => { results := [.lit (.bool true)], args := [d] }
  | _ => none }
def fnExactPlacesOfRow : OpenClaim := { program := "ytfgpeaiepfdemaa", sum := "d9229375bb054ba091e0c312d39484c95210c35a156709227368e2a1c7959d97", func := "loop.example/g00912/laws.FnExactPlacesOf", spec := "fnExactPlacesOf", unfollowed := true, recurses := true, apart := false }
def FnExactPlacesOfSaid : Prop := fnExactPlacesOfRow.holds Try.pinned (OpenSpec.ofChange fnExactPlacesOfSpec)

/-- ITS FALSE NEIGHBOUR: 'it returns false'. Refute it at one input. -/
def fnExactPlacesOfWrong : ChangeSpec := { name := "fnExactPlacesOf", fn := fun _ => fun
  | [d] => { results := [.lit (.bool false)], args := [d] }
  | _ => none }
def FnExactPlacesOfWrongFalsely : Prop := fnExactPlacesOfRow.holds Try.pinned (OpenSpec.ofChange fnExactPlacesOfWrong)

/-- 'laws.FnExactFreshSeason': WHATEVER THE INPUT: true; the input reads as it did. -/
def fnExactFreshSeasonSpec : ChangeSpec := { name := "fnExactFreshSeason", fn := fun _ => fun
  | [d1, d2] => { results := [.lit (.bool true)], args := [d1, d2] }
  | _ => none }
def fnExactFreshSeasonRow : OpenClaim := { program := "ytfgpeaiepfdemaa", sum := "d9229375bb054ba091e0c312d39484c95210c35a156709227368e2a1c7959d97", func := "loop.example/g00912/laws.FnExactFreshSeason", spec := "fnExactFreshSeason", unfollowed := true, recurses := true, apart := false }
def FnExactFreshSeasonSaid : Prop := fnExactFreshSeasonRow.holds Try.pinned (OpenSpec.ofChange fnExactFreshSeasonSpec)

/-- ITS FALSE NEIGHBOUR: 'it returns false'. Refute it at one input. -/
def fnExactFreshSeasonWrong : ChangeSpec := { name := "fnExactFreshSeason", fn := fun _ => fun
  | [d1, d2] => { results := [.lit (.bool false)], args := [d1, d2] }
  | _ => none }
def FnExactFreshSeasonWrongFalsely : Prop := fnExactFreshSeasonRow.holds Try.pinned (OpenSpec.ofChange fnExactFreshSeasonWrong)

/-- 'laws.FnExactMostStill': WHATEVER THE INPUT: true; the input reads as it did. -/
def fnExactMostStillSpec : ChangeSpec := { name := "fnExactMostStill", fn := fun _ => fun
  | [d1, d2, d3, d4] => { results := [.lit (.bool true)], args := [d1, d2, d3, d4] }
  | _ => none }
def fnExactMostStillRow : OpenClaim := { program := "ytfgpeaiepfdemaa", sum := "d9229375bb054ba091e0c312d39484c95210c35a156709227368e2a1c7959d97", func := "loop.example/g00912/laws.FnExactMostStill", spec := "fnExactMostStill", unfollowed := true, recurses := true, apart := false }
def FnExactMostStillSaid : Prop := fnExactMostStillRow.holds Try.pinned (OpenSpec.ofChange fnExactMostStillSpec)

/-- ITS FALSE NEIGHBOUR: 'it returns false'. Refute it at one input. -/
def fnExactMostStillWrong : ChangeSpec := { name := "fnExactMostStill", fn := fun _ => fun
  | [d1, d2, d3, d4] => { results := [.lit (.bool false)], args := [d1, d2, d3, d4] }
  | _ => none }
def FnExactMostStillWrongFalsely : Prop := fnExactMostStillRow.holds Try.pinned (OpenSpec.ofChange fnExactMostStillWrong)

/-- 'laws.FnExactAddEntry': WHATEVER THE INPUT: true; the input reads as it did. -/
def fnExactAddEntrySpec : ChangeSpec := { name := "fnExactAddEntry", fn := fun _ => fun
  | [d1, d2] => { results := [.lit (.bool true)], args := [d1, d2] }
  | _ => none }
def fnExactAddEntryRow : OpenClaim := { program := "ytfgpeaiepfdemaa", sum := "d9229375bb054ba091e0c312d39484c95210c35a156709227368e2a1c7959d97", func := "loop.example/g00912/laws.FnExactAddEntry", spec := "fnExactAddEntry", unfollowed := true, recurses := true, apart := false }
def FnExactAddEntrySaid : Prop := fnExactAddEntryRow.holds Try.pinned (OpenSpec.ofChange fnExactAddEntrySpec)

/-- ITS FALSE NEIGHBOUR: 'it returns false'. Refute it at one input. -/
def fnExactAddEntryWrong : ChangeSpec := { name := "fnExactAddEntry", fn := fun _ => fun
  | [d1, d2] => { results := [.lit (.bool false)], args := [d1, d2] }
  | _ => none }
def FnExactAddEntryWrongFalsely : Prop := fnExactAddEntryRow.holds Try.pinned (OpenSpec.ofChange fnExactAddEntryWrong)

/-- 'laws.FnExactDropEvent': WHATEVER THE INPUT: true; the input reads as it did. -/
def fnExactDropEventSpec : ChangeSpec := { name := "fnExactDropEvent", fn := fun _ => fun
  | [d1, d2] => { results := [.lit (.bool true)], args := [d1, d2] }
  | _ => none }
def fnExactDropEventRow : OpenClaim := { program := "ytfgpeaiepfdemaa", sum := "d9229375bb054ba091e0c312d39484c95210c35a156709227368e2a1c7959d97", func := "loop.example/g00912/laws.FnExactDropEvent", spec := "fnExactDropEvent", unfollowed := true, recurses := true, apart := false }
def FnExactDropEventSaid : Prop := fnExactDropEventRow.holds Try.pinned (OpenSpec.ofChange fnExactDropEventSpec)

/-- ITS FALSE NEIGHBOUR: 'it returns false'. Refute it at one input. -/
def fnExactDropEventWrong : ChangeSpec := { name := "fnExactDropEvent", fn := fun _ => fun
  | [d1, d2] => { results := [.lit (.bool false)], args := [d1, d2] }
  | _ => none }
def FnExactDropEventWrongFalsely : Prop := fnExactDropEventRow.holds Try.pinned (OpenSpec.ofChange fnExactDropEventWrong)

/-- 'laws.FnExactDropEntry': WHATEVER THE INPUT: true; the input reads as it did. -/
def fnExactDropEntrySpec : ChangeSpec := { name := "fnExactDropEntry", fn := fun _ => fun
  | [d1, d2, d3] => { results := [.lit (.bool true)], args := [d1, d2, d3] }
  | _ => none }
def fnExactDropEntryRow : OpenClaim := { program := "ytfgpeaiepfdemaa", sum := "d9229375bb054ba091e0c312d39484c95210c35a156709227368e2a1c7959d97", func := "loop.example/g00912/laws.FnExactDropEntry", spec := "fnExactDropEntry", unfollowed := true, recurses := true, apart := false }
def FnExactDropEntrySaid : Prop := fnExactDropEntryRow.holds Try.pinned (OpenSpec.ofChange fnExactDropEntrySpec)

/-- ITS FALSE NEIGHBOUR: 'it returns false'. Refute it at one input. -/
def fnExactDropEntryWrong : ChangeSpec := { name := "fnExactDropEntry", fn := fun _ => fun
  | [d1, d2, d3] => { results := [.lit (.bool false)], args := [d1, d2, d3] }
  | _ => none }
def FnExactDropEntryWrongFalsely : Prop := fnExactDropEntryRow.holds Try.pinned (OpenSpec.ofChange fnExactDropEntryWrong)

/-- 'laws.FnStandings': WHATEVER THE INPUT: true; the input reads as it did. -/
def fnStandingsSpec : ChangeSpec := { name := "fnStandings", fn := fun _ => fun
  | [d1, d2] => { results := [.lit (.bool true)], args := [d1, d2] }
  | _ => none }
def fnStandingsRow : OpenClaim := { program := "ytfgpeaiepfdemaa", sum := "d9229375bb054ba091e0c312d39484c95210c35a156709227368e2a1c7959d97", func := "loop.example/g00912/laws.FnStandings", spec := "fnStandings", unfollowed := true, recurses := true, apart := false }
def FnStandingsSaid : Prop := fnStandingsRow.holds Try.pinned (OpenSpec.ofChange fnStandingsSpec)

/-- ITS FALSE NEIGHBOUR: 'it returns false'. Refute it at one input. -/
def fnStandingsWrong : ChangeSpec := { name := "fnStandings", fn := fun _ => fun
  | [d1, d2] => { results := [.lit (.bool false)], args := [d1, d2] }
  | _ => none }
def FnStandingsWrongFalsely : Prop := fnStandingsRow.holds Try.pinned (OpenSpec.ofChange fnStandingsWrong)

/-- 'laws.FnSeasons': WHATEVER THE INPUT: true; the input reads as it did. -/
def fnSeasonsSpec : ChangeSpec := { name := "fnSeasons", fn := fun _ => fun
  | [d1, d2] => { results := [.lit (.bool true)], args := [d1, d2] }
  | _ => none }
def fnSeasonsRow : OpenClaim := { program := "ytfgpeaiepfdemaa", sum := "d9229375bb054ba091e0c312d39484c95210c35a156709227368e2a1c7959d97", func := "loop.example/g00912/laws.FnSeasons", spec := "fnSeasons", unfollowed := true, recurses := true, apart := false }
def FnSeasonsSaid : Prop := fnSeasonsRow.holds Try.pinned (OpenSpec.ofChange fnSeasonsSpec)

/-- ITS FALSE NEIGHBOUR: 'it returns false'. Refute it at one input. -/
def fnSeasonsWrong : ChangeSpec := { name := "fnSeasons", fn := fun _ => fun
  | [d1, d2] => { results := [.lit (.bool false)], args := [d1, d2] }
  | _ => none }
def FnSeasonsWrongFalsely : Prop := fnSeasonsRow.holds Try.pinned (OpenSpec.ofChange fnSeasonsWrong)

/- THE SECOND FORM. 'bulk': how many values and letters a reading holds, each counted each time it is reached (what is shared counts as often as it is met; a slice's spare places count too). A statement '..UptoSaid' is the law's where the arguments, and the package variables that the reading takes, are together of bulk at most 1048576: NARROWER than '..Said'. Prove '..Said' where nothing that the law and all that it calls make is longer than what came in: it says more and counts as full. Else prove '..UptoSaid'. A law counts once. -/
mutual
def uptoBulk {H : Type} : DataW H → Nat
  | .lit (.string bytes) => bytes.length + 1
  | .lit _ => 1
  | .nil => 1
  | .ptr d => uptoBulk d + 1
  | .slice elems spare => uptoBulkAll elems + uptoBulkAll spare + 1
  | .agg parts => uptoBulkAll parts + 1
  | .iface _ d => uptoBulk d + 1
  | .map entries => uptoBulkEntries entries + 1
  | .held _ => 1
def uptoBulkAll {H : Type} : List (DataW H) → Nat
  | [] => 0
  | d :: r => uptoBulk d + uptoBulkAll r
def uptoBulkEntries {H : Type} : List (Lit × DataW H) → Nat
  | [] => 0
  | x :: r => uptoBulkEntry x + uptoBulkEntries r
def uptoBulkEntry {H : Type} : Lit × DataW H → Nat
  | (.string bytes, d) => bytes.length + uptoBulk d + 1
  | (_, d) => uptoBulk d + 1
 end
def uptoSmall : (H : Type) → List (DataW H) → Bool := fun _ ds => decide (uptoBulkAll ds ≤ 1048576)
def OpenSpec.upto (s : _root_.Go.ChangeSpec) : _root_.Go.OpenSpec := { _root_.Go.OpenSpec.ofChange s with cond := some uptoSmall }

/-- 'laws.FnExactIsSeason', WHERE WHAT IT READS IS OF BULK AT MOST 1048576: true; the input reads as it did. -/
def fnExactIsSeasonUptoRow : OpenClaim := { program := "ytfgpeaiepfdemaa", sum := "d9229375bb054ba091e0c312d39484c95210c35a156709227368e2a1c7959d97", func := "loop.example/g00912/laws.FnExactIsSeason", spec := "fnExactIsSeason", unfollowed := true, recurses := true, apart := false, narrowed := true }
def FnExactIsSeasonUptoSaid : Prop := fnExactIsSeasonUptoRow.holds Try.pinned (OpenSpec.upto fnExactIsSeasonSpec)

/-- 'laws.FnExactTotalOf', WHERE WHAT IT READS IS OF BULK AT MOST 1048576: true; the input reads as it did. -/
def fnExactTotalOfUptoRow : OpenClaim := { program := "ytfgpeaiepfdemaa", sum := "d9229375bb054ba091e0c312d39484c95210c35a156709227368e2a1c7959d97", func := "loop.example/g00912/laws.FnExactTotalOf", spec := "fnExactTotalOf", unfollowed := true, recurses := true, apart := false, narrowed := true }
def FnExactTotalOfUptoSaid : Prop := fnExactTotalOfUptoRow.holds Try.pinned (OpenSpec.upto fnExactTotalOfSpec)

/-- 'laws.FnExactEntriesOf', WHERE WHAT IT READS IS OF BULK AT MOST 1048576: true; the input reads as it did. -/
def fnExactEntriesOfUptoRow : OpenClaim := { program := "ytfgpeaiepfdemaa", sum := "d9229375bb054ba091e0c312d39484c95210c35a156709227368e2a1c7959d97", func := "loop.example/g00912/laws.FnExactEntriesOf", spec := "fnExactEntriesOf", unfollowed := true, recurses := true, apart := false, narrowed := true }
def FnExactEntriesOfUptoSaid : Prop := fnExactEntriesOfUptoRow.holds Try.pinned (OpenSpec.upto fnExactEntriesOfSpec)

/-- 'laws.FnExactPlacesOf', WHERE WHAT IT READS IS OF BULK AT MOST 1048576: true; the input reads as it did. -/
def fnExactPlacesOfUptoRow : OpenClaim := { program := "ytfgpeaiepfdemaa", sum := "d9229375bb054ba091e0c312d39484c95210c35a156709227368e2a1c7959d97", func := "loop.example/g00912/laws.FnExactPlacesOf", spec := "fnExactPlacesOf", unfollowed := true, recurses := true, apart := false, narrowed := true }
def FnExactPlacesOfUptoSaid : Prop := fnExactPlacesOfUptoRow.holds Try.pinned (OpenSpec.upto fnExactPlacesOfSpec)

/-- 'laws.FnExactFreshSeason', WHERE WHAT IT READS IS OF BULK AT MOST 1048576: true; the input reads as it did. -/
def fnExactFreshSeasonUptoRow : OpenClaim := { program := "ytfgpeaiepfdemaa", sum := "d9229375bb054ba091e0c312d39484c95210c35a156709227368e2a1c7959d97", func := "loop.example/g00912/laws.FnExactFreshSeason", spec := "fnExactFreshSeason", unfollowed := true, recurses := true, apart := false, narrowed := true }
def FnExactFreshSeasonUptoSaid : Prop := fnExactFreshSeasonUptoRow.holds Try.pinned (OpenSpec.upto fnExactFreshSeasonSpec)

/-- 'laws.FnExactMostStill', WHERE WHAT IT READS IS OF BULK AT MOST 1048576: true; the input reads as it did. -/
def fnExactMostStillUptoRow : OpenClaim := { program := "ytfgpeaiepfdemaa", sum := "d9229375bb054ba091e0c312d39484c95210c35a156709227368e2a1c7959d97", func := "loop.example/g00912/laws.FnExactMostStill", spec := "fnExactMostStill", unfollowed := true, recurses := true, apart := false, narrowed := true }
def FnExactMostStillUptoSaid : Prop := fnExactMostStillUptoRow.holds Try.pinned (OpenSpec.upto fnExactMostStillSpec)

/-- 'laws.FnExactAddEntry', WHERE WHAT IT READS IS OF BULK AT MOST 1048576: true; the input reads as it did. -/
def fnExactAddEntryUptoRow : OpenClaim := { program := "ytfgpeaiepfdemaa", sum := "d9229375bb054ba091e0c312d39484c95210c35a156709227368e2a1c7959d97", func := "loop.example/g00912/laws.FnExactAddEntry", spec := "fnExactAddEntry", unfollowed := true, recurses := true, apart := false, narrowed := true }
def FnExactAddEntryUptoSaid : Prop := fnExactAddEntryUptoRow.holds Try.pinned (OpenSpec.upto fnExactAddEntrySpec)

/-- 'laws.FnExactDropEvent', WHERE WHAT IT READS IS OF BULK AT MOST 1048576: true; the input reads as it did. -/
def fnExactDropEventUptoRow : OpenClaim := { program := "ytfgpeaiepfdemaa", sum := "d9229375bb054ba091e0c312d39484c95210c35a156709227368e2a1c7959d97", func := "loop.example/g00912/laws.FnExactDropEvent", spec := "fnExactDropEvent", unfollowed := true, recurses := true, apart := false, narrowed := true }
def FnExactDropEventUptoSaid : Prop := fnExactDropEventUptoRow.holds Try.pinned (OpenSpec.upto fnExactDropEventSpec)

/-- 'laws.FnExactDropEntry', WHERE WHAT IT READS IS OF BULK AT MOST 1048576: true; the input reads as it did. -/
def fnExactDropEntryUptoRow : OpenClaim := { program := "ytfgpeaiepfdemaa", sum := "d9229375bb054ba091e0c312d39484c95210c35a156709227368e2a1c7959d97", func := "loop.example/g00912/laws.FnExactDropEntry", spec := "fnExactDropEntry", unfollowed := true, recurses := true, apart := false, narrowed := true }
def FnExactDropEntryUptoSaid : Prop := fnExactDropEntryUptoRow.holds Try.pinned (OpenSpec.upto fnExactDropEntrySpec)

/-- 'laws.FnStandings', WHERE WHAT IT READS IS OF BULK AT MOST 1048576: true; the input reads as it did. -/
def fnStandingsUptoRow : OpenClaim := { program := "ytfgpeaiepfdemaa", sum := "d9229375bb054ba091e0c312d39484c95210c35a156709227368e2a1c7959d97", func := "loop.example/g00912/laws.FnStandings", spec := "fnStandings", unfollowed := true, recurses := true, apart := false, narrowed := true }
def FnStandingsUptoSaid : Prop := fnStandingsUptoRow.holds Try.pinned (OpenSpec.upto fnStandingsSpec)

/-- 'laws.FnSeasons', WHERE WHAT IT READS IS OF BULK AT MOST 1048576: true; the input reads as it did. -/
def fnSeasonsUptoRow : OpenClaim := { program := "ytfgpeaiepfdemaa", sum := "d9229375bb054ba091e0c312d39484c95210c35a156709227368e2a1c7959d97", func := "loop.example/g00912/laws.FnSeasons", spec := "fnSeasons", unfollowed := true, recurses := true, apart := false, narrowed := true }
def FnSeasonsUptoSaid : Prop := fnSeasonsUptoRow.holds Try.pinned (OpenSpec.upto fnSeasonsSpec)

end Rows
end Go.Proofs.Ytfgpeaiepfdemaa
