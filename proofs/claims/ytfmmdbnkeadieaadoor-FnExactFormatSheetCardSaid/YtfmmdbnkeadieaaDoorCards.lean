/-
  DERIVED. GIVEN WITH THE SEED: THE CARDS: each row of YtfmmdbnkeadieaaDoorRows.lean that lists a variable, with what it lists TIED to the program's text (the seventh form; the later family's looks); each row that meets fmt, with fmt's text TOLD by the authors' own Lean function (tested against real Go, not proved from fmt's source: count such statements apart). THE CARD IS WHAT COUNTS. Prove the row's statement (the work); the ties are given (YtfmmdbnkeadieaaDoorTie.lean); close each card by the builder's one call (the guide's Derived/Test/ToyasCard.lean, 'card_holds'). Laid BY PROGRAM, IN A SANDBOX (cutbox-door.mjs). By AI agents, Wed Nov 11 2026. No macro, syntax, notation, axiom, sorry.
-/
import Derived.Test.YtfmmdbnkeadieaaDoorRows
import GoSem.ClaimSeven
namespace Go.Proofs.YtfmmdbnkeadieaaDoor
namespace Rows

/-- THE TIED CARD OF 'laws.FnExactFormatNumbers'. -/
def fnExactFormatNumbersCard : Claim7 := { stood := { row := fnExactFormatNumbersRow, standIns := [], harness := (true, "3ffb2a94f2b74e88ae2a45e1054a28b240c6de2647a7528b52a1d06c411b60d6"), looks := false }, kinds := [], alts := [], laidByText := true, laidKinds := [.data, .data, .data], laidTests := true, laidLooks := .later }
def FnExactFormatNumbersCardSaid : Prop := Claim7.holds Tryd.pinned (.plain (OpenSpec.ofChange fnExactFormatNumbersSpec)) fnExactFormatNumbersCard

/-- THE TIED CARD OF 'laws.FnExactFormatSheet'. -/
def fnExactFormatSheetCard : Claim7 := { stood := { row := fnExactFormatSheetRow, standIns := [], harness := (true, "3ffb2a94f2b74e88ae2a45e1054a28b240c6de2647a7528b52a1d06c411b60d6"), looks := false }, kinds := [], alts := [], laidByText := true, laidKinds := [.data, .data, .data], laidTests := true, laidLooks := .later }
def FnExactFormatSheetCardSaid : Prop := Claim7.holds Tryd.pinned (.plain (OpenSpec.ofChange fnExactFormatSheetSpec)) fnExactFormatSheetCard

/-- THE TIED CARD OF 'laws.FnExactFormatTable'. -/
def fnExactFormatTableCard : Claim7 := { stood := { row := fnExactFormatTableRow, standIns := [], harness := (true, "3ffb2a94f2b74e88ae2a45e1054a28b240c6de2647a7528b52a1d06c411b60d6"), looks := false }, kinds := [], alts := [], laidByText := true, laidKinds := [.data, .data, .data], laidTests := true, laidLooks := .later }
def FnExactFormatTableCardSaid : Prop := Claim7.holds Tryd.pinned (.plain (OpenSpec.ofChange fnExactFormatTableSpec)) fnExactFormatTableCard

/-- THE TIED CARD OF 'laws.FnExactFormatKey'. -/
def fnExactFormatKeyCard : Claim7 := { stood := { row := fnExactFormatKeyRow, standIns := [], harness := (true, "3ffb2a94f2b74e88ae2a45e1054a28b240c6de2647a7528b52a1d06c411b60d6"), looks := false }, kinds := [], alts := [], laidByText := true, laidKinds := [.data, .data, .data], laidTests := true, laidLooks := .later }
def FnExactFormatKeyCardSaid : Prop := Claim7.holds Tryd.pinned (.plain (OpenSpec.ofChange fnExactFormatKeySpec)) fnExactFormatKeyCard

/-- THE SECOND FORM's CARD OF 'laws.FnExactFormatNumbers'. -/
def fnExactFormatNumbersUptoCard : Claim7 := { stood := { row := fnExactFormatNumbersUptoRow, standIns := [], harness := (true, "3ffb2a94f2b74e88ae2a45e1054a28b240c6de2647a7528b52a1d06c411b60d6"), looks := false }, kinds := [], alts := [], laidByText := true, laidKinds := [.data, .data, .data], laidTests := true, laidLooks := .later }
def FnExactFormatNumbersUptoCardSaid : Prop := Claim7.holds Tryd.pinned (.plain (OpenSpec.upto fnExactFormatNumbersSpec)) fnExactFormatNumbersUptoCard

/-- THE SECOND FORM's CARD OF 'laws.FnExactFormatSheet'. -/
def fnExactFormatSheetUptoCard : Claim7 := { stood := { row := fnExactFormatSheetUptoRow, standIns := [], harness := (true, "3ffb2a94f2b74e88ae2a45e1054a28b240c6de2647a7528b52a1d06c411b60d6"), looks := false }, kinds := [], alts := [], laidByText := true, laidKinds := [.data, .data, .data], laidTests := true, laidLooks := .later }
def FnExactFormatSheetUptoCardSaid : Prop := Claim7.holds Tryd.pinned (.plain (OpenSpec.upto fnExactFormatSheetSpec)) fnExactFormatSheetUptoCard

/-- THE SECOND FORM's CARD OF 'laws.FnExactFormatTable'. -/
def fnExactFormatTableUptoCard : Claim7 := { stood := { row := fnExactFormatTableUptoRow, standIns := [], harness := (true, "3ffb2a94f2b74e88ae2a45e1054a28b240c6de2647a7528b52a1d06c411b60d6"), looks := false }, kinds := [], alts := [], laidByText := true, laidKinds := [.data, .data, .data], laidTests := true, laidLooks := .later }
def FnExactFormatTableUptoCardSaid : Prop := Claim7.holds Tryd.pinned (.plain (OpenSpec.upto fnExactFormatTableSpec)) fnExactFormatTableUptoCard

/-- THE SECOND FORM's CARD OF 'laws.FnExactFormatKey'. -/
def fnExactFormatKeyUptoCard : Claim7 := { stood := { row := fnExactFormatKeyUptoRow, standIns := [], harness := (true, "3ffb2a94f2b74e88ae2a45e1054a28b240c6de2647a7528b52a1d06c411b60d6"), looks := false }, kinds := [], alts := [], laidByText := true, laidKinds := [.data, .data, .data], laidTests := true, laidLooks := .later }
def FnExactFormatKeyUptoCardSaid : Prop := Claim7.holds Tryd.pinned (.plain (OpenSpec.upto fnExactFormatKeySpec)) fnExactFormatKeyUptoCard
end Rows
end Go.Proofs.YtfmmdbnkeadieaaDoor
