/-
  DERIVED. GIVEN WITH THE SEED: THE CARDS: each row of YtfgjbflddabdcaaGreatDoorRows.lean that lists a variable, with what it lists TIED to the program's text (the seventh form; the later family's looks); each row that meets fmt, with fmt's text TOLD by the authors' own Lean function (tested against real Go, not proved from fmt's source: count such statements apart). THE CARD IS WHAT COUNTS. Prove the row's statement (the work); the ties are given (YtfgjbflddabdcaaGreatDoorTie.lean); close each card by the builder's one call (the guide's Derived/Test/ToyasCard.lean, 'card_holds'). Laid BY PROGRAM, IN A SANDBOX (cutbox-door.mjs). By AI agents, Wed Nov 11 2026. No macro, syntax, notation, axiom, sorry.
-/
import Derived.Test.YtfgjbflddabdcaaGreatDoorRows
import GoSem.ClaimSeven
namespace Go.Proofs.YtfgjbflddabdcaaGreatDoor
namespace Rows

/-- THE TIED CARD OF 'larderlaw.MsgWritesRequest'. -/
def msgWritesRequestCard : Claim7 := { stood := { row := msgWritesRequestRow, standIns := [], harness := (true, "91f4c7c17c3307e491b9eb7b650363d05e0122336ecd6adcf5f84c5d15493daf"), looks := true }, kinds := [], alts := [], laidByText := true, laidKinds := [.data, .data, .data, .data, .sentinel, .sentinel, .pinned], laidTests := true, laidLooks := .later }
def MsgWritesRequestCardSaid : Prop := Claim7.holds Tryz.pinned (.plain (OpenSpec.ofChange msgWritesRequestSpec)) msgWritesRequestCard

/-- THE TIED CARD OF 'larderlaw.MsgWritesResponse'. -/
def msgWritesResponseCard : Claim7 := { stood := { row := msgWritesResponseRow, standIns := [], harness := (true, "91f4c7c17c3307e491b9eb7b650363d05e0122336ecd6adcf5f84c5d15493daf"), looks := true }, kinds := [], alts := [], laidByText := true, laidKinds := [.data, .data, .data, .data, .sentinel, .sentinel, .pinned], laidTests := true, laidLooks := .later }
def MsgWritesResponseCardSaid : Prop := Claim7.holds Tryz.pinned (.plain (OpenSpec.ofChange msgWritesResponseSpec)) msgWritesResponseCard

/-- THE TIED CARD OF 'larderlaw.MsgReadsRequest'. -/
def msgReadsRequestCard : Claim7 := { stood := { row := msgReadsRequestRow, standIns := [], harness := (true, "91f4c7c17c3307e491b9eb7b650363d05e0122336ecd6adcf5f84c5d15493daf"), looks := true }, kinds := [], alts := [], laidByText := true, laidKinds := [.data, .data, .data, .data, .sentinel, .sentinel, .pinned], laidTests := true, laidLooks := .later }
def MsgReadsRequestCardSaid : Prop := Claim7.holds Tryz.pinned (.plain (OpenSpec.ofChange msgReadsRequestSpec)) msgReadsRequestCard

/-- THE TIED CARD OF 'larderlaw.MsgReadsResponse'. -/
def msgReadsResponseCard : Claim7 := { stood := { row := msgReadsResponseRow, standIns := [], harness := (true, "91f4c7c17c3307e491b9eb7b650363d05e0122336ecd6adcf5f84c5d15493daf"), looks := true }, kinds := [], alts := [], laidByText := true, laidKinds := [.data, .data, .data, .data, .sentinel, .sentinel, .pinned], laidTests := true, laidLooks := .later }
def MsgReadsResponseCardSaid : Prop := Claim7.holds Tryz.pinned (.plain (OpenSpec.ofChange msgReadsResponseSpec)) msgReadsResponseCard

/-- THE SECOND FORM's CARD OF 'larderlaw.MsgWritesRequest'. -/
def msgWritesRequestUptoCard : Claim7 := { stood := { row := msgWritesRequestUptoRow, standIns := [], harness := (true, "91f4c7c17c3307e491b9eb7b650363d05e0122336ecd6adcf5f84c5d15493daf"), looks := true }, kinds := [], alts := [], laidByText := true, laidKinds := [.data, .data, .data, .data, .sentinel, .sentinel, .pinned], laidTests := true, laidLooks := .later }
def MsgWritesRequestUptoCardSaid : Prop := Claim7.holds Tryz.pinned (.plain (OpenSpec.upto msgWritesRequestSpec)) msgWritesRequestUptoCard

/-- THE SECOND FORM's CARD OF 'larderlaw.MsgWritesResponse'. -/
def msgWritesResponseUptoCard : Claim7 := { stood := { row := msgWritesResponseUptoRow, standIns := [], harness := (true, "91f4c7c17c3307e491b9eb7b650363d05e0122336ecd6adcf5f84c5d15493daf"), looks := true }, kinds := [], alts := [], laidByText := true, laidKinds := [.data, .data, .data, .data, .sentinel, .sentinel, .pinned], laidTests := true, laidLooks := .later }
def MsgWritesResponseUptoCardSaid : Prop := Claim7.holds Tryz.pinned (.plain (OpenSpec.upto msgWritesResponseSpec)) msgWritesResponseUptoCard

/-- THE SECOND FORM's CARD OF 'larderlaw.MsgReadsRequest'. -/
def msgReadsRequestUptoCard : Claim7 := { stood := { row := msgReadsRequestUptoRow, standIns := [], harness := (true, "91f4c7c17c3307e491b9eb7b650363d05e0122336ecd6adcf5f84c5d15493daf"), looks := true }, kinds := [], alts := [], laidByText := true, laidKinds := [.data, .data, .data, .data, .sentinel, .sentinel, .pinned], laidTests := true, laidLooks := .later }
def MsgReadsRequestUptoCardSaid : Prop := Claim7.holds Tryz.pinned (.plain (OpenSpec.upto msgReadsRequestSpec)) msgReadsRequestUptoCard

/-- THE SECOND FORM's CARD OF 'larderlaw.MsgReadsResponse'. -/
def msgReadsResponseUptoCard : Claim7 := { stood := { row := msgReadsResponseUptoRow, standIns := [], harness := (true, "91f4c7c17c3307e491b9eb7b650363d05e0122336ecd6adcf5f84c5d15493daf"), looks := true }, kinds := [], alts := [], laidByText := true, laidKinds := [.data, .data, .data, .data, .sentinel, .sentinel, .pinned], laidTests := true, laidLooks := .later }
def MsgReadsResponseUptoCardSaid : Prop := Claim7.holds Tryz.pinned (.plain (OpenSpec.upto msgReadsResponseSpec)) msgReadsResponseUptoCard
end Rows
end Go.Proofs.YtfgjbflddabdcaaGreatDoor
