/-
  DERIVED. GIVEN WITH THE SEED: THE CARDS: each row of YtbblihfkfgmfaaaDoorRows.lean that lists a variable, with what it lists TIED to the program's text (the seventh form; the later family's looks); each row that meets fmt, with fmt's text TOLD by the authors' own Lean function (tested against real Go, not proved from fmt's source: count such statements apart). THE CARD IS WHAT COUNTS. Prove the row's statement (the work); the ties are given (YtbblihfkfgmfaaaDoorTie.lean); close each card by the builder's one call (the guide's Derived/Test/ToyasCard.lean, 'card_holds'). Laid BY PROGRAM, IN A SANDBOX (cutbox-door.mjs). By AI agents, Wed Nov 11 2026. No macro, syntax, notation, axiom, sorry.
-/
import Derived.Test.YtbblihfkfgmfaaaDoorRows
import GoSem.ClaimSeven
namespace Go.Proofs.YtbblihfkfgmfaaaDoor
namespace Rows

/-- THE TIED CARD OF 'larderlaw.FieldChecks'. -/
def fieldChecksCard : Claim7 := { stood := { row := fieldChecksRow, standIns := [], harness := (true, "8094c0e3cbb2c97a3f4d918bf668379fff393b97f7ddbf24b2d30310cc58547f"), looks := false }, kinds := [], alts := [], laidByText := true, laidKinds := [.data, .pinned], laidTests := true, laidLooks := .later }
def FieldChecksCardSaid : Prop := Claim7.holds Tryd.pinned (.plain (OpenSpec.ofChange fieldChecksSpec)) fieldChecksCard

/-- THE TIED CARD OF 'larderlaw.FieldPrints'. -/
def fieldPrintsCard : Claim7 := { stood := { row := fieldPrintsRow, standIns := [], harness := (true, "8094c0e3cbb2c97a3f4d918bf668379fff393b97f7ddbf24b2d30310cc58547f"), looks := false }, kinds := [], alts := [], laidByText := true, laidKinds := [.data, .pinned], laidTests := true, laidLooks := .later }
def FieldPrintsCardSaid : Prop := Claim7.holds Tryd.pinned (.plain (OpenSpec.ofChange fieldPrintsSpec)) fieldPrintsCard

/-- THE TIED CARD OF 'larderlaw.LineRequests'. -/
def lineRequestsCard : Claim7 := { stood := { row := lineRequestsRow, standIns := [], harness := (true, "8094c0e3cbb2c97a3f4d918bf668379fff393b97f7ddbf24b2d30310cc58547f"), looks := false }, kinds := [], alts := [], laidByText := true, laidKinds := [.data, .pinned], laidTests := true, laidLooks := .later }
def LineRequestsCardSaid : Prop := Claim7.holds Tryd.pinned (.plain (OpenSpec.ofChange lineRequestsSpec)) lineRequestsCard

/-- THE SECOND FORM's CARD OF 'larderlaw.FieldChecks'. -/
def fieldChecksUptoCard : Claim7 := { stood := { row := fieldChecksUptoRow, standIns := [], harness := (true, "8094c0e3cbb2c97a3f4d918bf668379fff393b97f7ddbf24b2d30310cc58547f"), looks := false }, kinds := [], alts := [], laidByText := true, laidKinds := [.data, .pinned], laidTests := true, laidLooks := .later }
def FieldChecksUptoCardSaid : Prop := Claim7.holds Tryd.pinned (.plain (OpenSpec.upto fieldChecksSpec)) fieldChecksUptoCard

/-- THE SECOND FORM's CARD OF 'larderlaw.FieldPrints'. -/
def fieldPrintsUptoCard : Claim7 := { stood := { row := fieldPrintsUptoRow, standIns := [], harness := (true, "8094c0e3cbb2c97a3f4d918bf668379fff393b97f7ddbf24b2d30310cc58547f"), looks := false }, kinds := [], alts := [], laidByText := true, laidKinds := [.data, .pinned], laidTests := true, laidLooks := .later }
def FieldPrintsUptoCardSaid : Prop := Claim7.holds Tryd.pinned (.plain (OpenSpec.upto fieldPrintsSpec)) fieldPrintsUptoCard

/-- THE SECOND FORM's CARD OF 'larderlaw.LineRequests'. -/
def lineRequestsUptoCard : Claim7 := { stood := { row := lineRequestsUptoRow, standIns := [], harness := (true, "8094c0e3cbb2c97a3f4d918bf668379fff393b97f7ddbf24b2d30310cc58547f"), looks := false }, kinds := [], alts := [], laidByText := true, laidKinds := [.data, .pinned], laidTests := true, laidLooks := .later }
def LineRequestsUptoCardSaid : Prop := Claim7.holds Tryd.pinned (.plain (OpenSpec.upto lineRequestsSpec)) lineRequestsUptoCard
end Rows
end Go.Proofs.YtbblihfkfgmfaaaDoor
