/-
  DERIVED. GIVEN WITH THE SEED: THE CARDS: each row of YtfbafmeeejmgoaaDoorRows.lean that lists a variable, with what it lists TIED to the program's text (the seventh form; the later family's looks); each row that meets fmt, with fmt's text TOLD by the authors' own Lean function (tested against real Go, not proved from fmt's source: count such statements apart). THE CARD IS WHAT COUNTS. Prove the row's statement (the work); the ties are given (YtfbafmeeejmgoaaDoorTie.lean); close each card by the builder's one call (the guide's Derived/Test/ToyasCard.lean, 'card_holds'). Laid BY PROGRAM, IN A SANDBOX (cutbox-door.mjs). By AI agents, Wed Nov 11 2026. No macro, syntax, notation, axiom, sorry.
-/
import Derived.Test.YtfbafmeeejmgoaaDoorRows
import GoSem.ClaimSeven
namespace Go.Proofs.YtfbafmeeejmgoaaDoor
namespace Rows

/-- THE TIED CARD OF 'laws.FnExactFormatKey'. -/
def fnExactFormatKeyCard : Claim7 := { stood := { row := fnExactFormatKeyRow, standIns := [], harness := (true, "12c803e2f92bff99264c1006f4b2e423ca1b99a7c92adfd902b43574a3dc3183"), looks := false }, kinds := [], alts := [], laidByText := true, laidKinds := [.data, .data, .data], laidTests := true, laidLooks := .later }
def FnExactFormatKeyCardSaid : Prop := Claim7.holds Tryd.pinned (.plain (OpenSpec.ofChange fnExactFormatKeySpec)) fnExactFormatKeyCard

/-- THE TIED CARD OF 'laws.FnViews'. -/
def fnViewsCard : Claim7 := { stood := { row := fnViewsRow, standIns := [], harness := (true, "12c803e2f92bff99264c1006f4b2e423ca1b99a7c92adfd902b43574a3dc3183"), looks := false }, kinds := [], alts := [], laidByText := true, laidKinds := [.data, .data, .data], laidTests := true, laidLooks := .later }
def FnViewsCardSaid : Prop := Claim7.holds Tryd.pinned (.plain (OpenSpec.ofChange fnViewsSpec)) fnViewsCard

/-- THE SECOND FORM's CARD OF 'laws.FnExactFormatKey'. -/
def fnExactFormatKeyUptoCard : Claim7 := { stood := { row := fnExactFormatKeyUptoRow, standIns := [], harness := (true, "12c803e2f92bff99264c1006f4b2e423ca1b99a7c92adfd902b43574a3dc3183"), looks := false }, kinds := [], alts := [], laidByText := true, laidKinds := [.data, .data, .data], laidTests := true, laidLooks := .later }
def FnExactFormatKeyUptoCardSaid : Prop := Claim7.holds Tryd.pinned (.plain (OpenSpec.upto fnExactFormatKeySpec)) fnExactFormatKeyUptoCard

/-- THE SECOND FORM's CARD OF 'laws.FnViews'. -/
def fnViewsUptoCard : Claim7 := { stood := { row := fnViewsUptoRow, standIns := [], harness := (true, "12c803e2f92bff99264c1006f4b2e423ca1b99a7c92adfd902b43574a3dc3183"), looks := false }, kinds := [], alts := [], laidByText := true, laidKinds := [.data, .data, .data], laidTests := true, laidLooks := .later }
def FnViewsUptoCardSaid : Prop := Claim7.holds Tryd.pinned (.plain (OpenSpec.upto fnViewsSpec)) fnViewsUptoCard
end Rows
end Go.Proofs.YtfbafmeeejmgoaaDoor
