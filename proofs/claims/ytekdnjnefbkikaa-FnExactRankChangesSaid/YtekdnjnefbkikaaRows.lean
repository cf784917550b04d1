/-
  No cell of these rows narrows 'for every input' (looked for: loops, veiled, ifaces, maps, wideKeys, modest, calm, conditions, laid).
  DERIVED. THE GIVEN ROWS OF THIS SEAT. 9 by the template 'for every input the law returns true; each argument reads behind the call as it read before'; 0 by the template 'total and deterministic' (their statements: YtekdnjnefbkikaaTotals.lean).
  GIVEN WITH THE SEED: the statements are not yours to turn. If you find one false, say at which input.
  Laid BY PROGRAM, IN A SANDBOX (cutbox-rows.mjs): the forced cells as the released guide's own fill.sh prints them over the translation ef1aa2110ea94d34… (all of the seat's roots in one cut). By AI agents, Wed Nov 11 2026. No macro, syntax, notation, axiom, sorry.
-/
import Derived.Test.YtekdnjnefbkikaaChecked
import GoSem.Claim
import GoSem.ClaimJoined
import GoSem.ClaimMapViews
import Derived.JoinedTies
import Derived.KernelRfl
namespace Go.Proofs.Ytekdnjnefbkikaa
/- THE CELL 'sum', in the pinned program and in every row, IS THE sha256 OF THE DUMP (.gsa) THAT YtekdnjnefbkikaaProg.lean LOADS. Nothing in Lean hashes anything: it is a label: what it is worth is what the hold of that sum in a sandbox is worth. -/
noncomputable def Try.pinned : Pinned := { name := "ytekdnjnefbkikaa", sum := "ef1aa2110ea94d341f1992582af23beabde3db3aa240d021a9fde78d7d50c57b", checked := Try.checked }
namespace Rows
def none {H : Type} : Left H := { results := [], args := [] }

/-- 'laws.FnExactIsWorld': WHATEVER THE INPUT: true; the input reads as it did. -/
def fnExactIsWorldSpec : ChangeSpec := { name := "fnExactIsWorld", fn := fun _ => fun
  | [d] => { results := [.lit (.bool true)], args := [d] }
  | _ => none }
def fnExactIsWorldRow : OpenClaim := { program := "ytekdnjnefbkikaa", sum := "ef1aa2110ea94d341f1992582af23beabde3db3aa240d021a9fde78d7d50c57b", func := "loop.example/g00912/laws.FnExactIsWorld", spec := "fnExactIsWorld", unfollowed := true, recurses := true, apart := false }
def FnExactIsWorldSaid : Prop := fnExactIsWorldRow.holds Try.pinned (OpenSpec.ofChange fnExactIsWorldSpec)

/-- ITS FALSE NEIGHBOUR: 'it returns false'. Refute it at one input. -/
def fnExactIsWorldWrong : ChangeSpec := { name := "fnExactIsWorld", fn := fun _ => fun
  | [d] => { results := [.lit (.bool false)], args := [d] }
  | _ => none }
def FnExactIsWorldWrongFalsely : Prop := fnExactIsWorldRow.holds Try.pinned (OpenSpec.ofChange fnExactIsWorldWrong)

/-- 'laws.FnExactSeasonParts': WHATEVER THE INPUT: true; the input reads as it did. -/
def fnExactSeasonPartsSpec : ChangeSpec := { name := "fnExactSeasonParts", fn := fun _ => fun
  | [d1, d2] => { results := [.lit (.bool true)], args := [d1, d2] }
  | _ => none }
def fnExactSeasonPartsRow : OpenClaim := { program := "ytekdnjnefbkikaa", sum := "ef1aa2110ea94d341f1992582af23beabde3db3aa240d021a9fde78d7d50c57b", func := "loop.example/g00912/laws.FnExactSeasonParts", spec := "fnExactSeasonParts", unfollowed := true, recurses := true, apart := false }
def FnExactSeasonPartsSaid : Prop := fnExactSeasonPartsRow.holds Try.pinned (OpenSpec.ofChange fnExactSeasonPartsSpec)

/-- ITS FALSE NEIGHBOUR: 'it returns false'. Refute it at one input. -/
def fnExactSeasonPartsWrong : ChangeSpec := { name := "fnExactSeasonParts", fn := fun _ => fun
  | [d1, d2] => { results := [.lit (.bool false)], args := [d1, d2] }
  | _ => none }
def FnExactSeasonPartsWrongFalsely : Prop := fnExactSeasonPartsRow.holds Try.pinned (OpenSpec.ofChange fnExactSeasonPartsWrong)

/-- 'laws.FnExactNewSeason': WHATEVER THE INPUT: true; the input reads as it did. -/
def fnExactNewSeasonSpec : ChangeSpec := { name := "fnExactNewSeason", fn := fun _ => fun
  | [d1, d2] => { results := [.lit (.bool true)], args := [d1, d2] }
  | _ => none }
def fnExactNewSeasonRow : OpenClaim := { program := "ytekdnjnefbkikaa", sum := "ef1aa2110ea94d341f1992582af23beabde3db3aa240d021a9fde78d7d50c57b", func := "loop.example/g00912/laws.FnExactNewSeason", spec := "fnExactNewSeason", unfollowed := true, recurses := true, apart := false }
def FnExactNewSeasonSaid : Prop := fnExactNewSeasonRow.holds Try.pinned (OpenSpec.ofChange fnExactNewSeasonSpec)

/-- ITS FALSE NEIGHBOUR: 'it returns false'. Refute it at one input. -/
def fnExactNewSeasonWrong : ChangeSpec := { name := "fnExactNewSeason", fn := fun _ => fun
  | [d1, d2] => { results := [.lit (.bool false)], args := [d1, d2] }
  | _ => none }
def FnExactNewSeasonWrongFalsely : Prop := fnExactNewSeasonRow.holds Try.pinned (OpenSpec.ofChange fnExactNewSeasonWrong)

/-- 'laws.FnExactWorldTotal': WHATEVER THE INPUT: true; the input reads as it did. -/
def fnExactWorldTotalSpec : ChangeSpec := { name := "fnExactWorldTotal", fn := fun _ => fun
  | [d1, d2] => { results := [.lit (.bool true)], args := [d1, d2] }
  | _ => none }
def fnExactWorldTotalRow : OpenClaim := { program := "ytekdnjnefbkikaa", sum := "ef1aa2110ea94d341f1992582af23beabde3db3aa240d021a9fde78d7d50c57b", func := "loop.example/g00912/laws.FnExactWorldTotal", spec := "fnExactWorldTotal", unfollowed := true, recurses := true, apart := false }
def FnExactWorldTotalSaid : Prop := fnExactWorldTotalRow.holds Try.pinned (OpenSpec.ofChange fnExactWorldTotalSpec)

/-- ITS FALSE NEIGHBOUR: 'it returns false'. Refute it at one input. -/
def fnExactWorldTotalWrong : ChangeSpec := { name := "fnExactWorldTotal", fn := fun _ => fun
  | [d1, d2] => { results := [.lit (.bool false)], args := [d1, d2] }
  | _ => none }
def FnExactWorldTotalWrongFalsely : Prop := fnExactWorldTotalRow.holds Try.pinned (OpenSpec.ofChange fnExactWorldTotalWrong)

/-- 'laws.FnExactAddToWorld': WHATEVER THE INPUT: true; the input reads as it did. -/
def fnExactAddToWorldSpec : ChangeSpec := { name := "fnExactAddToWorld", fn := fun _ => fun
  | [d1, d2] => { results := [.lit (.bool true)], args := [d1, d2] }
  | _ => none }
def fnExactAddToWorldRow : OpenClaim := { program := "ytekdnjnefbkikaa", sum := "ef1aa2110ea94d341f1992582af23beabde3db3aa240d021a9fde78d7d50c57b", func := "loop.example/g00912/laws.FnExactAddToWorld", spec := "fnExactAddToWorld", unfollowed := true, recurses := true, apart := false }
def FnExactAddToWorldSaid : Prop := fnExactAddToWorldRow.holds Try.pinned (OpenSpec.ofChange fnExactAddToWorldSpec)

/-- ITS FALSE NEIGHBOUR: 'it returns false'. Refute it at one input. -/
def fnExactAddToWorldWrong : ChangeSpec := { name := "fnExactAddToWorld", fn := fun _ => fun
  | [d1, d2] => { results := [.lit (.bool false)], args := [d1, d2] }
  | _ => none }
def FnExactAddToWorldWrongFalsely : Prop := fnExactAddToWorldRow.holds Try.pinned (OpenSpec.ofChange fnExactAddToWorldWrong)

/-- 'laws.FnExactWorldPlace': WHATEVER THE INPUT: true; the input reads as it did. -/
def fnExactWorldPlaceSpec : ChangeSpec := { name := "fnExactWorldPlace", fn := fun _ => fun
  | [d1, d2] => { results := [.lit (.bool true)], args := [d1, d2] }
  | _ => none }
def fnExactWorldPlaceRow : OpenClaim := { program := "ytekdnjnefbkikaa", sum := "ef1aa2110ea94d341f1992582af23beabde3db3aa240d021a9fde78d7d50c57b", func := "loop.example/g00912/laws.FnExactWorldPlace", spec := "fnExactWorldPlace", unfollowed := true, recurses := true, apart := false }
def FnExactWorldPlaceSaid : Prop := fnExactWorldPlaceRow.holds Try.pinned (OpenSpec.ofChange fnExactWorldPlaceSpec)

/-- ITS FALSE NEIGHBOUR: 'it returns false'. Refute it at one input. -/
def fnExactWorldPlaceWrong : ChangeSpec := { name := "fnExactWorldPlace", fn := fun _ => fun
  | [d1, d2] => { results := [.lit (.bool false)], args := [d1, d2] }
  | _ => none }
def FnExactWorldPlaceWrongFalsely : Prop := fnExactWorldPlaceRow.holds Try.pinned (OpenSpec.ofChange fnExactWorldPlaceWrong)

/-- 'laws.FnExactWorldList': WHATEVER THE INPUT: true; the input reads as it did. -/
def fnExactWorldListSpec : ChangeSpec := { name := "fnExactWorldList", fn := fun _ => fun
  | [d] => { results := [.lit (.bool true)], args := [d] }
  | _ => none }
def fnExactWorldListRow : OpenClaim := { program := "ytekdnjnefbkikaa", sum := "ef1aa2110ea94d341f1992582af23beabde3db3aa240d021a9fde78d7d50c57b", func := "loop.example/g00912/laws.FnExactWorldList", spec := "fnExactWorldList", unfollowed := true, recurses := true, apart := false }
def FnExactWorldListSaid : Prop := fnExactWorldListRow.holds Try.pinned (OpenSpec.ofChange fnExactWorldListSpec)

/-- ITS FALSE NEIGHBOUR: 'it returns false'. Refute it at one input. -/
def fnExactWorldListWrong : ChangeSpec := { name := "fnExactWorldList", fn := fun _ => fun
  | [d] => { results := [.lit (.bool false)], args := [d] }
  | _ => none }
def FnExactWorldListWrongFalsely : Prop := fnExactWorldListRow.holds Try.pinned (OpenSpec.ofChange fnExactWorldListWrong)

/-- 'laws.FnExactFirstOf': WHATEVER THE INPUT: true; the input reads as it did. -/
def fnExactFirstOfSpec : ChangeSpec := { name := "fnExactFirstOf", fn := fun _ => fun
  | [d1, d2] => { results := [.lit (.bool true)], args := [d1, d2] }
  | _ => none }
def fnExactFirstOfRow : OpenClaim := { program := "ytekdnjnefbkikaa", sum := "ef1aa2110ea94d341f1992582af23beabde3db3aa240d021a9fde78d7d50c57b", func := "loop.example/g00912/laws.FnExactFirstOf", spec := "fnExactFirstOf", unfollowed := true, recurses := true, apart := false }
def FnExactFirstOfSaid : Prop := fnExactFirstOfRow.holds Try.pinned (OpenSpec.ofChange fnExactFirstOfSpec)

/-- ITS FALSE NEIGHBOUR: 'it returns false'. Refute it at one input. -/
def fnExactFirstOfWrong : ChangeSpec := { name := "fnExactFirstOf", fn := fun _ => fun
  | [d1, d2] => { results := [.lit (.bool false)], args := [d1, d2] }
  | _ => none }
def FnExactFirstOfWrongFalsely : Prop := fnExactFirstOfRow.holds Try.pinned (OpenSpec.ofChange fnExactFirstOfWrong)

/-- 'laws.FnExactRankChanges': WHATEVER THE INPUT: true; the input reads as it did. -/
def fnExactRankChangesSpec : ChangeSpec := { name := "fnExactRankChanges", fn := fun _ => fun
  | [d1, d2] => { results := [.lit (.bool true)], args := [d1, d2] }
  | _ => none }
def fnExactRankChangesRow : OpenClaim := { program := "ytekdnjnefbkikaa", sum := "ef1aa2110ea94d341f1992582af23beabde3db3aa240d021a9fde78d7d50c57b", func := "loop.example/g00912/laws.FnExactRankChanges", spec := "fnExactRankChanges", unfollowed := true, recurses := true, apart := false }
def FnExactRankChangesSaid : Prop := fnExactRankChangesRow.holds Try.pinned (OpenSpec.ofChange fnExactRankChangesSpec)

/-- ITS FALSE NEIGHBOUR: 'it returns false'. Refute it at one input. -/
def fnExactRankChangesWrong : ChangeSpec := { name := "fnExactRankChanges", fn := fun _ => fun
  | [d1, d2] => { results := [.lit (.bool false)], args := [d1, d2] }
  | _ => none }
def FnExactRankChangesWrongFalsely : Prop := fnExactRankChangesRow.holds Try.pinned (OpenSpec.ofChange fnExactRankChangesWrong)

/- THE SECOND FORM. 'bulk': how many values and letters a reading holds, each counted each time it is reached (what is shared counts as often as it is met; a slice's spare places count too). A statement '..UptoSaid' is the law's where the arguments, and the package variables that the reading takes, are together of bulk at most 1048576: NARROWER than '..Said'. Prove '..Said' where nothing that the law and all that it calls make is longer than what came in: it says more and counts as full. Else prove '..UptoSaid'. A law counts once. -/
mutual
def uptoBulk {H : Type} : DataW H → Nat
  | .lit (.string bytes) => bytes.length + 1
  | .lit _ => 1
  | .nil => 1
  | .ptr d => uptoBulk d + 1
  | .slice elems spare => uptoBulkAll elems + uptoBulkAll spare + 1
  | .agg parts => uptoBulkAll parts + 1
  | .iface _ d => uptoBulk d + 1
  | .map entries => uptoBulkEntries entries + 1
  | .held _ => 1
def uptoBulkAll {H : Type} : List (DataW H) → Nat
  | [] => 0
  | d :: r => uptoBulk d + uptoBulkAll r
def uptoBulkEntries {H : Type} : List (Lit × DataW H) → Nat
  | [] => 0
  | x :: r => uptoBulkEntry x + uptoBulkEntries r
def uptoBulkEntry {H : Type} : Lit × DataW H → Nat
  | (.string bytes, d) => bytes.length + uptoBulk d + 1
  | (_, d) => uptoBulk d + 1
 end
def uptoSmall : (H : Type) → List (DataW H) → Bool := fun _ ds => decide (uptoBulkAll ds ≤ 1048576)
def OpenSpec.upto (s : _root_.Go.ChangeSpec) : _root_.Go.OpenSpec := { _root_.Go.OpenSpec.ofChange s with cond := some uptoSmall }

/-- 'laws.FnExactIsWorld', WHERE WHAT IT READS IS OF BULK AT MOST 1048576: true; the input reads as it did. -/
def fnExactIsWorldUptoRow : OpenClaim := { program := "ytekdnjnefbkikaa", sum := "ef1aa2110ea94d341f1992582af23beabde3db3aa240d021a9fde78d7d50c57b", func := "loop.example/g00912/laws.FnExactIsWorld", spec := "fnExactIsWorld", unfollowed := true, recurses := true, apart := false, narrowed := true }
def FnExactIsWorldUptoSaid : Prop := fnExactIsWorldUptoRow.holds Try.pinned (OpenSpec.upto fnExactIsWorldSpec)

/-- 'laws.FnExactSeasonParts', WHERE WHAT IT READS IS OF BULK AT MOST 1048576: true; the input reads as it did. -/
def fnExactSeasonPartsUptoRow : OpenClaim := { program := "ytekdnjnefbkikaa", sum := "ef1aa2110ea94d341f1992582af23beabde3db3aa240d021a9fde78d7d50c57b", func := "loop.example/g00912/laws.FnExactSeasonParts", spec := "fnExactSeasonParts", unfollowed := true, recurses := true, apart := false, narrowed := true }
def FnExactSeasonPartsUptoSaid : Prop := fnExactSeasonPartsUptoRow.holds Try.pinned (OpenSpec.upto fnExactSeasonPartsSpec)

/-- 'laws.FnExactNewSeason', WHERE WHAT IT READS IS OF BULK AT MOST 1048576: true; the input reads as it did. -/
def fnExactNewSeasonUptoRow : OpenClaim := { program := "ytekdnjnefbkikaa", sum := "ef1aa2110ea94d341f1992582af23beabde3db3aa240d021a9fde78d7d50c57b", func := "loop.example/g00912/laws.FnExactNewSeason", spec := "fnExactNewSeason", unfollowed := true, recurses := true, apart := false, narrowed := true }
def FnExactNewSeasonUptoSaid : Prop := fnExactNewSeasonUptoRow.holds Try.pinned (OpenSpec.upto fnExactNewSeasonSpec)

/-- 'laws.FnExactWorldTotal', WHERE WHAT IT READS IS OF BULK AT MOST 1048576: true; the input reads as it did. -/
def fnExactWorldTotalUptoRow : OpenClaim := { program := "ytekdnjnefbkikaa", sum := "ef1aa2110ea94d341f1992582af23beabde3db3aa240d021a9fde78d7d50c57b", func := "loop.example/g00912/laws.FnExactWorldTotal", spec := "fnExactWorldTotal", unfollowed := true, recurses := true, apart := false, narrowed := true }
def FnExactWorldTotalUptoSaid : Prop := fnExactWorldTotalUptoRow.holds Try.pinned (OpenSpec.upto fnExactWorldTotalSpec)

/-- 'laws.FnExactAddToWorld', WHERE WHAT IT READS IS OF BULK AT MOST 1048576: true; the input reads as it did. -/
def fnExactAddToWorldUptoRow : OpenClaim := { program := "ytekdnjnefbkikaa", sum := "ef1aa2110ea94d341f1992582af23beabde3db3aa240d021a9fde78d7d50c57b", func := "loop.example/g00912/laws.FnExactAddToWorld", spec := "fnExactAddToWorld", unfollowed := true, recurses := true, apart := false, narrowed := true }
def FnExactAddToWorldUptoSaid : Prop := fnExactAddToWorldUptoRow.holds Try.pinned (OpenSpec.upto fnExactAddToWorldSpec)

/-- 'laws.FnExactWorldPlace', WHERE WHAT IT READS IS OF BULK AT MOST 1048576: true; the input reads as it did. -/
def fnExactWorldPlaceUptoRow : OpenClaim := { program := "ytekdnjnefbkikaa", sum := "ef1aa2110ea94d341f1992582af23beabde3db3aa240d021a9fde78d7d50c57b", func := "loop.example/g00912/laws.FnExactWorldPlace", spec := "fnExactWorldPlace", unfollowed := true, recurses := true, apart := false, narrowed := true }
def FnExactWorldPlaceUptoSaid : Prop := fnExactWorldPlaceUptoRow.holds Try.pinned (OpenSpec.upto fnExactWorldPlaceSpec)

/-- 'laws.FnExactWorldList', WHERE WHAT IT READS IS OF BULK AT MOST 1048576: true; the input reads as it did. -/
def fnExactWorldListUptoRow : OpenClaim := { program := "ytekdnjnefbkikaa", sum := "ef1aa2110ea94d341f1992582af23beabde3db3aa240d021a9fde78d7d50c57b", func := "loop.example/g00912/laws.FnExactWorldList", spec := "fnExactWorldList", unfollowed := true, recurses := true, apart := false, narrowed := true }
def FnExactWorldListUptoSaid : Prop := fnExactWorldListUptoRow.holds Try.pinned (OpenSpec.upto fnExactWorldListSpec)

/-- 'laws.FnExactFirstOf', WHERE WHAT IT READS IS OF BULK AT MOST 1048576: true; the input reads as it did. -/
def fnExactFirstOfUptoRow : OpenClaim := { program := "ytekdnjnefbkikaa", sum := "ef1aa2110ea94d341f1992582af23beabde3db3aa240d021a9fde78d7d50c57b", func := "loop.example/g00912/laws.FnExactFirstOf", spec := "fnExactFirstOf", unfollowed := true, recurses := true, apart := false, narrowed := true }
def FnExactFirstOfUptoSaid : Prop := fnExactFirstOfUptoRow.holds Try.pinned (OpenSpec.upto fnExactFirstOfSpec)

/-- 'laws.FnExactRankChanges', WHERE WHAT IT READS IS OF BULK AT MOST 1048576: true; the input reads as it did. -/
def fnExactRankChangesUptoRow : OpenClaim := { program := "ytekdnjnefbkikaa", sum := "ef1aa2110ea94d341f1992582af23beabde3db3aa240d021a9fde78d7d50c57b", func := "loop.example/g00912/laws.FnExactRankChanges", spec := "fnExactRankChanges", unfollowed := true, recurses := true, apart := false, narrowed := true }
def FnExactRankChangesUptoSaid : Prop := fnExactRankChangesUptoRow.holds Try.pinned (OpenSpec.upto fnExactRankChangesSpec)

end Rows
end Go.Proofs.Ytekdnjnefbkikaa
