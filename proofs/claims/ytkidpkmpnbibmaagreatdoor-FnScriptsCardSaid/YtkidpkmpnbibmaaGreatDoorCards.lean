/-
  DERIVED. GIVEN WITH THE SEED: THE CARDS: each row of YtkidpkmpnbibmaaGreatDoorRows.lean that lists a variable, with what it lists TIED to the program's text (the seventh form; the later family's looks); each row that meets fmt, with fmt's text TOLD by the authors' own Lean function (tested against real Go, not proved from fmt's source: count such statements apart). THE CARD IS WHAT COUNTS. Prove the row's statement (the work); the ties are given (YtkidpkmpnbibmaaGreatDoorTie.lean); close each card by the builder's one call (the guide's Derived/Test/ToyasCard.lean, 'card_holds'). Laid BY PROGRAM, IN A SANDBOX (cutbox-door.mjs). By AI agents, Wed Nov 11 2026. No macro, syntax, notation, axiom, sorry.
-/
import Derived.Test.YtkidpkmpnbibmaaGreatDoorRows
import GoSem.ClaimSeven
namespace Go.Proofs.YtkidpkmpnbibmaaGreatDoor
namespace Rows

/-- THE TIED CARD OF 'laws.FnExactRunLines'. -/
def fnExactRunLinesCard : Claim7 := { stood := { row := fnExactRunLinesRow, standIns := [], harness := (true, "67203feed903379f167c0313fb5890db98bbd4707420ab91de60ee03cfe37a72"), looks := false }, kinds := [], alts := [], laidByText := true, laidKinds := [.data, .data, .data, .data, .data, .widerDeep, .pinned], laidTests := true, laidLooks := .later }
def FnExactRunLinesCardSaid : Prop := Claim7.holds Tryz.pinned (.plain (OpenSpec.ofChange fnExactRunLinesSpec)) fnExactRunLinesCard

/-- THE TIED CARD OF 'laws.FnExactCountReplies'. -/
def fnExactCountRepliesCard : Claim7 := { stood := { row := fnExactCountRepliesRow, standIns := [], harness := (true, "67203feed903379f167c0313fb5890db98bbd4707420ab91de60ee03cfe37a72"), looks := false }, kinds := [], alts := [], laidByText := true, laidKinds := [.data, .data, .data, .data, .data, .widerDeep, .pinned], laidTests := true, laidLooks := .later }
def FnExactCountRepliesCardSaid : Prop := Claim7.holds Tryz.pinned (.plain (OpenSpec.ofChange fnExactCountRepliesSpec)) fnExactCountRepliesCard

/-- THE TIED CARD OF 'laws.FnExactFailedLines'. -/
def fnExactFailedLinesCard : Claim7 := { stood := { row := fnExactFailedLinesRow, standIns := [], harness := (true, "67203feed903379f167c0313fb5890db98bbd4707420ab91de60ee03cfe37a72"), looks := false }, kinds := [], alts := [], laidByText := true, laidKinds := [.data, .data, .data, .data, .data, .widerDeep, .pinned], laidTests := true, laidLooks := .later }
def FnExactFailedLinesCardSaid : Prop := Claim7.holds Tryz.pinned (.plain (OpenSpec.ofChange fnExactFailedLinesSpec)) fnExactFailedLinesCard

/-- THE TIED CARD OF 'laws.FnExactScriptResults'. -/
def fnExactScriptResultsCard : Claim7 := { stood := { row := fnExactScriptResultsRow, standIns := [], harness := (true, "67203feed903379f167c0313fb5890db98bbd4707420ab91de60ee03cfe37a72"), looks := false }, kinds := [], alts := [], laidByText := true, laidKinds := [.data, .data, .data, .data, .data, .widerDeep, .pinned], laidTests := true, laidLooks := .later }
def FnExactScriptResultsCardSaid : Prop := Claim7.holds Tryz.pinned (.plain (OpenSpec.ofChange fnExactScriptResultsSpec)) fnExactScriptResultsCard

/-- THE TIED CARD OF 'laws.FnExactCodeAfter'. -/
def fnExactCodeAfterCard : Claim7 := { stood := { row := fnExactCodeAfterRow, standIns := [], harness := (true, "67203feed903379f167c0313fb5890db98bbd4707420ab91de60ee03cfe37a72"), looks := false }, kinds := [], alts := [], laidByText := true, laidKinds := [.data, .data, .data, .data, .data, .widerDeep, .pinned], laidTests := true, laidLooks := .later }
def FnExactCodeAfterCardSaid : Prop := Claim7.holds Tryz.pinned (.plain (OpenSpec.ofChange fnExactCodeAfterSpec)) fnExactCodeAfterCard

/-- THE TIED CARD OF 'laws.FnExactPerformanceAfter'. -/
def fnExactPerformanceAfterCard : Claim7 := { stood := { row := fnExactPerformanceAfterRow, standIns := [], harness := (true, "67203feed903379f167c0313fb5890db98bbd4707420ab91de60ee03cfe37a72"), looks := false }, kinds := [], alts := [], laidByText := true, laidKinds := [.data, .data, .data, .data, .data, .widerDeep, .pinned], laidTests := true, laidLooks := .later }
def FnExactPerformanceAfterCardSaid : Prop := Claim7.holds Tryz.pinned (.plain (OpenSpec.ofChange fnExactPerformanceAfterSpec)) fnExactPerformanceAfterCard

/-- THE TIED CARD OF 'laws.FnScripts'. -/
def fnScriptsCard : Claim7 := { stood := { row := fnScriptsRow, standIns := [], harness := (true, "67203feed903379f167c0313fb5890db98bbd4707420ab91de60ee03cfe37a72"), looks := false }, kinds := [], alts := [], laidByText := true, laidKinds := [.data, .data, .data, .data, .data, .widerDeep, .pinned], laidTests := true, laidLooks := .later }
def FnScriptsCardSaid : Prop := Claim7.holds Tryz.pinned (.plain (OpenSpec.ofChange fnScriptsSpec)) fnScriptsCard

/-- THE SECOND FORM's CARD OF 'laws.FnExactRunLines'. -/
def fnExactRunLinesUptoCard : Claim7 := { stood := { row := fnExactRunLinesUptoRow, standIns := [], harness := (true, "67203feed903379f167c0313fb5890db98bbd4707420ab91de60ee03cfe37a72"), looks := false }, kinds := [], alts := [], laidByText := true, laidKinds := [.data, .data, .data, .data, .data, .widerDeep, .pinned], laidTests := true, laidLooks := .later }
def FnExactRunLinesUptoCardSaid : Prop := Claim7.holds Tryz.pinned (.plain (OpenSpec.upto fnExactRunLinesSpec)) fnExactRunLinesUptoCard

/-- THE SECOND FORM's CARD OF 'laws.FnExactCountReplies'. -/
def fnExactCountRepliesUptoCard : Claim7 := { stood := { row := fnExactCountRepliesUptoRow, standIns := [], harness := (true, "67203feed903379f167c0313fb5890db98bbd4707420ab91de60ee03cfe37a72"), looks := false }, kinds := [], alts := [], laidByText := true, laidKinds := [.data, .data, .data, .data, .data, .widerDeep, .pinned], laidTests := true, laidLooks := .later }
def FnExactCountRepliesUptoCardSaid : Prop := Claim7.holds Tryz.pinned (.plain (OpenSpec.upto fnExactCountRepliesSpec)) fnExactCountRepliesUptoCard

/-- THE SECOND FORM's CARD OF 'laws.FnExactFailedLines'. -/
def fnExactFailedLinesUptoCard : Claim7 := { stood := { row := fnExactFailedLinesUptoRow, standIns := [], harness := (true, "67203feed903379f167c0313fb5890db98bbd4707420ab91de60ee03cfe37a72"), looks := false }, kinds := [], alts := [], laidByText := true, laidKinds := [.data, .data, .data, .data, .data, .widerDeep, .pinned], laidTests := true, laidLooks := .later }
def FnExactFailedLinesUptoCardSaid : Prop := Claim7.holds Tryz.pinned (.plain (OpenSpec.upto fnExactFailedLinesSpec)) fnExactFailedLinesUptoCard

/-- THE SECOND FORM's CARD OF 'laws.FnExactScriptResults'. -/
def fnExactScriptResultsUptoCard : Claim7 := { stood := { row := fnExactScriptResultsUptoRow, standIns := [], harness := (true, "67203feed903379f167c0313fb5890db98bbd4707420ab91de60ee03cfe37a72"), looks := false }, kinds := [], alts := [], laidByText := true, laidKinds := [.data, .data, .data, .data, .data, .widerDeep, .pinned], laidTests := true, laidLooks := .later }
def FnExactScriptResultsUptoCardSaid : Prop := Claim7.holds Tryz.pinned (.plain (OpenSpec.upto fnExactScriptResultsSpec)) fnExactScriptResultsUptoCard

/-- THE SECOND FORM's CARD OF 'laws.FnExactCodeAfter'. -/
def fnExactCodeAfterUptoCard : Claim7 := { stood := { row := fnExactCodeAfterUptoRow, standIns := [], harness := (true, "67203feed903379f167c0313fb5890db98bbd4707420ab91de60ee03cfe37a72"), looks := false }, kinds := [], alts := [], laidByText := true, laidKinds := [.data, .data, .data, .data, .data, .widerDeep, .pinned], laidTests := true, laidLooks := .later }
def FnExactCodeAfterUptoCardSaid : Prop := Claim7.holds Tryz.pinned (.plain (OpenSpec.upto fnExactCodeAfterSpec)) fnExactCodeAfterUptoCard

/-- THE SECOND FORM's CARD OF 'laws.FnExactPerformanceAfter'. -/
def fnExactPerformanceAfterUptoCard : Claim7 := { stood := { row := fnExactPerformanceAfterUptoRow, standIns := [], harness := (true, "67203feed903379f167c0313fb5890db98bbd4707420ab91de60ee03cfe37a72"), looks := false }, kinds := [], alts := [], laidByText := true, laidKinds := [.data, .data, .data, .data, .data, .widerDeep, .pinned], laidTests := true, laidLooks := .later }
def FnExactPerformanceAfterUptoCardSaid : Prop := Claim7.holds Tryz.pinned (.plain (OpenSpec.upto fnExactPerformanceAfterSpec)) fnExactPerformanceAfterUptoCard

/-- THE SECOND FORM's CARD OF 'laws.FnScripts'. -/
def fnScriptsUptoCard : Claim7 := { stood := { row := fnScriptsUptoRow, standIns := [], harness := (true, "67203feed903379f167c0313fb5890db98bbd4707420ab91de60ee03cfe37a72"), looks := false }, kinds := [], alts := [], laidByText := true, laidKinds := [.data, .data, .data, .data, .data, .widerDeep, .pinned], laidTests := true, laidLooks := .later }
def FnScriptsUptoCardSaid : Prop := Claim7.holds Tryz.pinned (.plain (OpenSpec.upto fnScriptsSpec)) fnScriptsUptoCard
end Rows
end Go.Proofs.YtkidpkmpnbibmaaGreatDoor
