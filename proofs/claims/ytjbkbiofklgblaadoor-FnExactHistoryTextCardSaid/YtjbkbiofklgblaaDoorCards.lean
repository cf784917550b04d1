/-
  DERIVED. GIVEN WITH THE SEED: THE CARDS: each row of YtjbkbiofklgblaaDoorRows.lean that lists a variable, with what it lists TIED to the program's text (the seventh form; the later family's looks); each row that meets fmt, with fmt's text TOLD by the authors' own Lean function (tested against real Go, not proved from fmt's source: count such statements apart). THE CARD IS WHAT COUNTS. Prove the row's statement (the work); the ties are given (YtjbkbiofklgblaaDoorTie.lean); close each card by the builder's one call (the guide's Derived/Test/ToyasCard.lean, 'card_holds'). Laid BY PROGRAM, IN A SANDBOX (cutbox-door.mjs). By AI agents, Wed Nov 11 2026. No macro, syntax, notation, axiom, sorry.
-/
import Derived.Test.YtjbkbiofklgblaaDoorRows
import GoSem.ClaimSeven
namespace Go.Proofs.YtjbkbiofklgblaaDoor
namespace Rows

/-- THE TIED CARD OF 'laws.FnExactHistoryText'. -/
def fnExactHistoryTextCard : Claim7 := { stood := { row := fnExactHistoryTextRow, standIns := [], harness := (true, "15f73003189545903cddfaff8fc97c9a51d6f0464ef4a915e6365eb11e38985d"), looks := false }, kinds := [], alts := [], laidByText := true, laidKinds := [.data, .data, .data, .widerDeep], laidTests := true, laidLooks := .later }
def FnExactHistoryTextCardSaid : Prop := Claim7.holds Tryd.pinned (.plain (OpenSpec.ofChange fnExactHistoryTextSpec)) fnExactHistoryTextCard

/-- THE TIED CARD OF 'laws.FnExactParseHistory'. -/
def fnExactParseHistoryCard : Claim7 := { stood := { row := fnExactParseHistoryRow, standIns := [], harness := (true, "15f73003189545903cddfaff8fc97c9a51d6f0464ef4a915e6365eb11e38985d"), looks := false }, kinds := [], alts := [], laidByText := true, laidKinds := [.data, .widerDeep, .pinned], laidTests := true, laidLooks := .later }
def FnExactParseHistoryCardSaid : Prop := Claim7.holds Tryd.pinned (.plain (OpenSpec.ofChange fnExactParseHistorySpec)) fnExactParseHistoryCard

/-- THE SECOND FORM's CARD OF 'laws.FnExactHistoryText'. -/
def fnExactHistoryTextUptoCard : Claim7 := { stood := { row := fnExactHistoryTextUptoRow, standIns := [], harness := (true, "15f73003189545903cddfaff8fc97c9a51d6f0464ef4a915e6365eb11e38985d"), looks := false }, kinds := [], alts := [], laidByText := true, laidKinds := [.data, .data, .data, .widerDeep], laidTests := true, laidLooks := .later }
def FnExactHistoryTextUptoCardSaid : Prop := Claim7.holds Tryd.pinned (.plain (OpenSpec.upto fnExactHistoryTextSpec)) fnExactHistoryTextUptoCard

/-- THE SECOND FORM's CARD OF 'laws.FnExactParseHistory'. -/
def fnExactParseHistoryUptoCard : Claim7 := { stood := { row := fnExactParseHistoryUptoRow, standIns := [], harness := (true, "15f73003189545903cddfaff8fc97c9a51d6f0464ef4a915e6365eb11e38985d"), looks := false }, kinds := [], alts := [], laidByText := true, laidKinds := [.data, .widerDeep, .pinned], laidTests := true, laidLooks := .later }
def FnExactParseHistoryUptoCardSaid : Prop := Claim7.holds Tryd.pinned (.plain (OpenSpec.upto fnExactParseHistorySpec)) fnExactParseHistoryUptoCard
end Rows
end Go.Proofs.YtjbkbiofklgblaaDoor
