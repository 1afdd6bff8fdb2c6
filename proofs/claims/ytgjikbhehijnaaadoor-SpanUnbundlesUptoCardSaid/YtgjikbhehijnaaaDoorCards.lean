/-
  DERIVED. GIVEN WITH THE SEED: THE CARDS: each row of YtgjikbhehijnaaaDoorRows.lean that lists a variable, with what it lists TIED to the program's text (the seventh form; the later family's looks); each row that meets fmt, with fmt's text TOLD by the authors' own Lean function (tested against real Go, not proved from fmt's source: count such statements apart). THE CARD IS WHAT COUNTS. Prove the row's statement (the work); the ties are given (YtgjikbhehijnaaaDoorTie.lean); close each card by the builder's one call (the guide's Derived/Test/ToyasCard.lean, 'card_holds'). Laid BY PROGRAM, IN A SANDBOX (cutbox-door.mjs). By AI agents, Wed Nov 11 2026. No macro, syntax, notation, axiom, sorry.
-/
import Derived.Test.YtgjikbhehijnaaaDoorRows
import GoSem.ClaimSeven
namespace Go.Proofs.YtgjikbhehijnaaaDoor
namespace Rows

/-- THE TIED CARD OF 'larderlaw.DigestComes'. -/
def digestComesCard : Claim7 := { stood := { row := digestComesRow, standIns := [], harness := (true, "3c4a4a8ee479f7cf5e62264cc1df5a4736488c4139c38329e216db0636486e81"), looks := true }, kinds := [], alts := [], laidByText := true, laidKinds := [.listed, .data], laidTests := true, laidLooks := .later }
def DigestComesCardSaid : Prop := Claim7.holds Tryd.pinned (.plain (OpenSpec.ofChange digestComesSpec)) digestComesCard

/-- THE TIED CARD OF 'larderlaw.DigestSays'. -/
def digestSaysCard : Claim7 := { stood := { row := digestSaysRow, standIns := [], harness := (true, "3c4a4a8ee479f7cf5e62264cc1df5a4736488c4139c38329e216db0636486e81"), looks := true }, kinds := [], alts := [], laidByText := true, laidKinds := [.listed, .data], laidTests := true, laidLooks := .later }
def DigestSaysCardSaid : Prop := Claim7.holds Tryd.pinned (.plain (OpenSpec.ofChange digestSaysSpec)) digestSaysCard

/-- THE TIED CARD OF 'larderlaw.PileSays'. -/
def pileSaysCard : Claim7 := { stood := { row := pileSaysRow, standIns := [], harness := (true, "3c4a4a8ee479f7cf5e62264cc1df5a4736488c4139c38329e216db0636486e81"), looks := true }, kinds := [], alts := [], laidByText := true, laidKinds := [.listed, .data], laidTests := true, laidLooks := .later }
def PileSaysCardSaid : Prop := Claim7.holds Tryd.pinned (.plain (OpenSpec.ofChange pileSaysSpec)) pileSaysCard

/-- THE TIED CARD OF 'larderlaw.SpanUnbundles'. -/
def spanUnbundlesCard : Claim7 := { stood := { row := spanUnbundlesRow, standIns := [], harness := (true, "3c4a4a8ee479f7cf5e62264cc1df5a4736488c4139c38329e216db0636486e81"), looks := true }, kinds := [], alts := [], laidByText := true, laidKinds := [.data, .data, .data, .sentinel, .sentinel], laidTests := true, laidLooks := .later }
def SpanUnbundlesCardSaid : Prop := Claim7.holds Tryd.pinned (.plain (OpenSpec.ofChange spanUnbundlesSpec)) spanUnbundlesCard

/-- THE SECOND FORM's CARD OF 'larderlaw.DigestComes'. -/
def digestComesUptoCard : Claim7 := { stood := { row := digestComesUptoRow, standIns := [], harness := (true, "3c4a4a8ee479f7cf5e62264cc1df5a4736488c4139c38329e216db0636486e81"), looks := true }, kinds := [], alts := [], laidByText := true, laidKinds := [.listed, .data], laidTests := true, laidLooks := .later }
def DigestComesUptoCardSaid : Prop := Claim7.holds Tryd.pinned (.plain (OpenSpec.upto digestComesSpec)) digestComesUptoCard

/-- THE SECOND FORM's CARD OF 'larderlaw.DigestSays'. -/
def digestSaysUptoCard : Claim7 := { stood := { row := digestSaysUptoRow, standIns := [], harness := (true, "3c4a4a8ee479f7cf5e62264cc1df5a4736488c4139c38329e216db0636486e81"), looks := true }, kinds := [], alts := [], laidByText := true, laidKinds := [.listed, .data], laidTests := true, laidLooks := .later }
def DigestSaysUptoCardSaid : Prop := Claim7.holds Tryd.pinned (.plain (OpenSpec.upto digestSaysSpec)) digestSaysUptoCard

/-- THE SECOND FORM's CARD OF 'larderlaw.PileSays'. -/
def pileSaysUptoCard : Claim7 := { stood := { row := pileSaysUptoRow, standIns := [], harness := (true, "3c4a4a8ee479f7cf5e62264cc1df5a4736488c4139c38329e216db0636486e81"), looks := true }, kinds := [], alts := [], laidByText := true, laidKinds := [.listed, .data], laidTests := true, laidLooks := .later }
def PileSaysUptoCardSaid : Prop := Claim7.holds Tryd.pinned (.plain (OpenSpec.upto pileSaysSpec)) pileSaysUptoCard

/-- THE SECOND FORM's CARD OF 'larderlaw.SpanUnbundles'. -/
def spanUnbundlesUptoCard : Claim7 := { stood := { row := spanUnbundlesUptoRow, standIns := [], harness := (true, "3c4a4a8ee479f7cf5e62264cc1df5a4736488c4139c38329e216db0636486e81"), looks := true }, kinds := [], alts := [], laidByText := true, laidKinds := [.data, .data, .data, .sentinel, .sentinel], laidTests := true, laidLooks := .later }
def SpanUnbundlesUptoCardSaid : Prop := Claim7.holds Tryd.pinned (.plain (OpenSpec.upto spanUnbundlesSpec)) spanUnbundlesUptoCard
end Rows
end Go.Proofs.YtgjikbhehijnaaaDoor
