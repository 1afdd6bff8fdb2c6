/-
  DERIVED. GIVEN WITH THE SEED: THE CARDS: each row of YtbchkaoocobpfaaDoorRows.lean that lists a variable, with what it lists TIED to the program's text (the seventh form; the later family's looks); each row that meets fmt, with fmt's text TOLD by the authors' own Lean function (tested against real Go, not proved from fmt's source: count such statements apart). THE CARD IS WHAT COUNTS. Prove the row's statement (the work); the ties are given (YtbchkaoocobpfaaDoorTie.lean); close each card by the builder's one call (the guide's Derived/Test/ToyasCard.lean, 'card_holds'). Laid BY PROGRAM, IN A SANDBOX (cutbox-door.mjs). By AI agents, Wed Nov 11 2026. No macro, syntax, notation, axiom, sorry.
-/
import Derived.Test.YtbchkaoocobpfaaDoorRows
import GoSem.ClaimSeven
namespace Go.Proofs.YtbchkaoocobpfaaDoor
namespace Rows

/-- THE TIED CARD OF 'larderlaw.DigestComes'. -/
def digestComesCard : Claim7 := { stood := { row := digestComesRow, standIns := [], harness := (true, "c359f8f987afaf82ea2f1450c4729aca70edde63de3905b5f39561f36d89fbf0"), looks := false }, kinds := [], alts := [], laidByText := true, laidKinds := [.listed, .data], laidTests := true, laidLooks := .later }
def DigestComesCardSaid : Prop := Claim7.holds Tryd.pinned (.plain (OpenSpec.ofChange digestComesSpec)) digestComesCard

/-- THE TIED CARD OF 'larderlaw.DigestSays'. -/
def digestSaysCard : Claim7 := { stood := { row := digestSaysRow, standIns := [], harness := (true, "c359f8f987afaf82ea2f1450c4729aca70edde63de3905b5f39561f36d89fbf0"), looks := false }, kinds := [], alts := [], laidByText := true, laidKinds := [.listed, .data], laidTests := true, laidLooks := .later }
def DigestSaysCardSaid : Prop := Claim7.holds Tryd.pinned (.plain (OpenSpec.ofChange digestSaysSpec)) digestSaysCard

/-- THE TIED CARD OF 'larderlaw.PileSays'. -/
def pileSaysCard : Claim7 := { stood := { row := pileSaysRow, standIns := [], harness := (true, "c359f8f987afaf82ea2f1450c4729aca70edde63de3905b5f39561f36d89fbf0"), looks := false }, kinds := [], alts := [], laidByText := true, laidKinds := [.listed, .data], laidTests := true, laidLooks := .later }
def PileSaysCardSaid : Prop := Claim7.holds Tryd.pinned (.plain (OpenSpec.ofChange pileSaysSpec)) pileSaysCard

/-- THE SECOND FORM's CARD OF 'larderlaw.DigestComes'. -/
def digestComesUptoCard : Claim7 := { stood := { row := digestComesUptoRow, standIns := [], harness := (true, "c359f8f987afaf82ea2f1450c4729aca70edde63de3905b5f39561f36d89fbf0"), looks := false }, kinds := [], alts := [], laidByText := true, laidKinds := [.listed, .data], laidTests := true, laidLooks := .later }
def DigestComesUptoCardSaid : Prop := Claim7.holds Tryd.pinned (.plain (OpenSpec.upto digestComesSpec)) digestComesUptoCard

/-- THE SECOND FORM's CARD OF 'larderlaw.DigestSays'. -/
def digestSaysUptoCard : Claim7 := { stood := { row := digestSaysUptoRow, standIns := [], harness := (true, "c359f8f987afaf82ea2f1450c4729aca70edde63de3905b5f39561f36d89fbf0"), looks := false }, kinds := [], alts := [], laidByText := true, laidKinds := [.listed, .data], laidTests := true, laidLooks := .later }
def DigestSaysUptoCardSaid : Prop := Claim7.holds Tryd.pinned (.plain (OpenSpec.upto digestSaysSpec)) digestSaysUptoCard

/-- THE SECOND FORM's CARD OF 'larderlaw.PileSays'. -/
def pileSaysUptoCard : Claim7 := { stood := { row := pileSaysUptoRow, standIns := [], harness := (true, "c359f8f987afaf82ea2f1450c4729aca70edde63de3905b5f39561f36d89fbf0"), looks := false }, kinds := [], alts := [], laidByText := true, laidKinds := [.listed, .data], laidTests := true, laidLooks := .later }
def PileSaysUptoCardSaid : Prop := Claim7.holds Tryd.pinned (.plain (OpenSpec.upto pileSaysSpec)) pileSaysUptoCard
end Rows
end Go.Proofs.YtbchkaoocobpfaaDoor
