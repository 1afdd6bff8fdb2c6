/-
  DERIVED. GIVEN WITH THE SEED: THE CARDS: each row of YtcoghpokkhjhgaaGreatDoorRows.lean that lists a variable, with what it lists TIED to the program's text (the seventh form; the later family's looks); each row that meets fmt, with fmt's text TOLD by the authors' own Lean function (tested against real Go, not proved from fmt's source: count such statements apart). THE CARD IS WHAT COUNTS. Prove the row's statement (the work); the ties are given (YtcoghpokkhjhgaaGreatDoorTie.lean); close each card by the builder's one call (the guide's Derived/Test/ToyasCard.lean, 'card_holds'). Laid BY PROGRAM, IN A SANDBOX (cutbox-door.mjs). By AI agents, Wed Nov 11 2026. No macro, syntax, notation, axiom, sorry.
-/
import Derived.Test.YtcoghpokkhjhgaaGreatDoorRows
import GoSem.ClaimSeven
namespace Go.Proofs.YtcoghpokkhjhgaaGreatDoor
namespace Rows

/-- THE TIED CARD OF 'larderlaw.CondSays'. -/
def condSaysCard : Claim7 := { stood := { row := condSaysRow, standIns := [], harness := (true, "172ad64b896394528bc1caab5a1673b778d3c8d908e25dc0d59f1e8657faca15"), looks := false }, kinds := [], alts := [], laidByText := true, laidKinds := [.data, .data, .data, .data, .pinned], laidTests := true, laidLooks := .later }
def CondSaysCardSaid : Prop := Claim7.holds Tryz.pinned (.plain (OpenSpec.ofChange condSaysSpec)) condSaysCard

/-- THE TIED CARD OF 'larderlaw.FreshUses'. -/
def freshUsesCard : Claim7 := { stood := { row := freshUsesRow, standIns := [], harness := (true, "172ad64b896394528bc1caab5a1673b778d3c8d908e25dc0d59f1e8657faca15"), looks := false }, kinds := [], alts := [], laidByText := true, laidKinds := [.data, .data, .data, .data, .pinned], laidTests := true, laidLooks := .later }
def FreshUsesCardSaid : Prop := Claim7.holds Tryz.pinned (.plain (OpenSpec.ofChange freshUsesSpec)) freshUsesCard

/-- THE SECOND FORM's CARD OF 'larderlaw.CondSays'. -/
def condSaysUptoCard : Claim7 := { stood := { row := condSaysUptoRow, standIns := [], harness := (true, "172ad64b896394528bc1caab5a1673b778d3c8d908e25dc0d59f1e8657faca15"), looks := false }, kinds := [], alts := [], laidByText := true, laidKinds := [.data, .data, .data, .data, .pinned], laidTests := true, laidLooks := .later }
def CondSaysUptoCardSaid : Prop := Claim7.holds Tryz.pinned (.plain (OpenSpec.upto condSaysSpec)) condSaysUptoCard

/-- THE SECOND FORM's CARD OF 'larderlaw.FreshUses'. -/
def freshUsesUptoCard : Claim7 := { stood := { row := freshUsesUptoRow, standIns := [], harness := (true, "172ad64b896394528bc1caab5a1673b778d3c8d908e25dc0d59f1e8657faca15"), looks := false }, kinds := [], alts := [], laidByText := true, laidKinds := [.data, .data, .data, .data, .pinned], laidTests := true, laidLooks := .later }
def FreshUsesUptoCardSaid : Prop := Claim7.holds Tryz.pinned (.plain (OpenSpec.upto freshUsesSpec)) freshUsesUptoCard
end Rows
end Go.Proofs.YtcoghpokkhjhgaaGreatDoor
