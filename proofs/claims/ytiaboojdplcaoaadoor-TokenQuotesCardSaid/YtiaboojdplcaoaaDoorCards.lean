/-
  DERIVED. GIVEN WITH THE SEED: THE CARDS: each row of YtiaboojdplcaoaaDoorRows.lean that lists a variable, with what it lists TIED to the program's text (the seventh form; the later family's looks); each row that meets fmt, with fmt's text TOLD by the authors' own Lean function (tested against real Go, not proved from fmt's source: count such statements apart). THE CARD IS WHAT COUNTS. Prove the row's statement (the work); the ties are given (YtiaboojdplcaoaaDoorTie.lean); close each card by the builder's one call (the guide's Derived/Test/ToyasCard.lean, 'card_holds'). Laid BY PROGRAM, IN A SANDBOX (cutbox-door.mjs). By AI agents, Wed Nov 11 2026. No macro, syntax, notation, axiom, sorry.
-/
import Derived.Test.YtiaboojdplcaoaaDoorRows
import GoSem.ClaimSeven
namespace Go.Proofs.YtiaboojdplcaoaaDoor
namespace Rows

/-- THE TIED CARD OF 'larderlaw.DatePrints'. -/
def datePrintsCard : Claim7 := { stood := { row := datePrintsRow, standIns := [], harness := (true, "6fcb629c651effd080e52d832c56deafe0cd09569fe4a7d1eed5d69dce5a475e"), looks := false }, kinds := [], alts := [], laidByText := true, laidKinds := [.data, .data, .data], laidTests := true, laidLooks := .later }
def DatePrintsCardSaid : Prop := Claim7.holds Tryd.pinned (.plain (OpenSpec.ofChange datePrintsSpec)) datePrintsCard

/-- THE TIED CARD OF 'larderlaw.TokenQuotes'. -/
def tokenQuotesCard : Claim7 := { stood := { row := tokenQuotesRow, standIns := [], harness := (true, "6fcb629c651effd080e52d832c56deafe0cd09569fe4a7d1eed5d69dce5a475e"), looks := false }, kinds := [], alts := [], laidByText := true, laidKinds := [.data, .pinned], laidTests := true, laidLooks := .later }
def TokenQuotesCardSaid : Prop := Claim7.holds Tryd.pinned (.plain (OpenSpec.ofChange tokenQuotesSpec)) tokenQuotesCard

/-- THE TIED CARD OF 'larderlaw.BodyEncodes'. -/
def bodyEncodesCard : Claim7 := { stood := { row := bodyEncodesRow, standIns := [], harness := (true, "6fcb629c651effd080e52d832c56deafe0cd09569fe4a7d1eed5d69dce5a475e"), looks := false }, kinds := [], alts := [], laidByText := true, laidKinds := [.data, .data, .data], laidTests := true, laidLooks := .later }
def BodyEncodesCardSaid : Prop := Claim7.holds Tryd.pinned (.plain (OpenSpec.ofChange bodyEncodesSpec)) bodyEncodesCard

/-- THE SECOND FORM's CARD OF 'larderlaw.DatePrints'. -/
def datePrintsUptoCard : Claim7 := { stood := { row := datePrintsUptoRow, standIns := [], harness := (true, "6fcb629c651effd080e52d832c56deafe0cd09569fe4a7d1eed5d69dce5a475e"), looks := false }, kinds := [], alts := [], laidByText := true, laidKinds := [.data, .data, .data], laidTests := true, laidLooks := .later }
def DatePrintsUptoCardSaid : Prop := Claim7.holds Tryd.pinned (.plain (OpenSpec.upto datePrintsSpec)) datePrintsUptoCard

/-- THE SECOND FORM's CARD OF 'larderlaw.TokenQuotes'. -/
def tokenQuotesUptoCard : Claim7 := { stood := { row := tokenQuotesUptoRow, standIns := [], harness := (true, "6fcb629c651effd080e52d832c56deafe0cd09569fe4a7d1eed5d69dce5a475e"), looks := false }, kinds := [], alts := [], laidByText := true, laidKinds := [.data, .pinned], laidTests := true, laidLooks := .later }
def TokenQuotesUptoCardSaid : Prop := Claim7.holds Tryd.pinned (.plain (OpenSpec.upto tokenQuotesSpec)) tokenQuotesUptoCard

/-- THE SECOND FORM's CARD OF 'larderlaw.BodyEncodes'. -/
def bodyEncodesUptoCard : Claim7 := { stood := { row := bodyEncodesUptoRow, standIns := [], harness := (true, "6fcb629c651effd080e52d832c56deafe0cd09569fe4a7d1eed5d69dce5a475e"), looks := false }, kinds := [], alts := [], laidByText := true, laidKinds := [.data, .data, .data], laidTests := true, laidLooks := .later }
def BodyEncodesUptoCardSaid : Prop := Claim7.holds Tryd.pinned (.plain (OpenSpec.upto bodyEncodesSpec)) bodyEncodesUptoCard
end Rows
end Go.Proofs.YtiaboojdplcaoaaDoor
