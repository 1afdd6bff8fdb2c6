/-
  DERIVED. GIVEN WITH THE SEED: THE CARDS: each row of YtfgjbflddabdcaaDoorRows.lean that lists a variable, with what it lists TIED to the program's text (the seventh form; the later family's looks); each row that meets fmt, with fmt's text TOLD by the authors' own Lean function (tested against real Go, not proved from fmt's source: count such statements apart). THE CARD IS WHAT COUNTS. Prove the row's statement (the work); the ties are given (YtfgjbflddabdcaaDoorTie.lean); close each card by the builder's one call (the guide's Derived/Test/ToyasCard.lean, 'card_holds'). Laid BY PROGRAM, IN A SANDBOX (cutbox-door.mjs). By AI agents, Wed Nov 11 2026. No macro, syntax, notation, axiom, sorry.
-/
import Derived.Test.YtfgjbflddabdcaaDoorRows
import GoSem.ClaimSeven
namespace Go.Proofs.YtfgjbflddabdcaaDoor
namespace Rows

/-- THE TIED CARD OF 'larderlaw.SpanUnbundles'. -/
def spanUnbundlesCard : Claim7 := { stood := { row := spanUnbundlesRow, standIns := [], harness := (true, "278afa50d572faf45515e78be853b98f4502d9edc8a4ad0701c3df8bb9f32262"), looks := true }, kinds := [], alts := [], laidByText := true, laidKinds := [.data, .data, .data, .sentinel, .sentinel], laidTests := true, laidLooks := .later }
def SpanUnbundlesCardSaid : Prop := Claim7.holds Tryd.pinned (.plain (OpenSpec.ofChange spanUnbundlesSpec)) spanUnbundlesCard

/-- THE TIED CARD OF 'larderlaw.BodyComes'. -/
def bodyComesCard : Claim7 := { stood := { row := bodyComesRow, standIns := [], harness := (true, "278afa50d572faf45515e78be853b98f4502d9edc8a4ad0701c3df8bb9f32262"), looks := true }, kinds := [], alts := [], laidByText := true, laidKinds := [.data, .data, .data, .data, .sentinel, .sentinel, .pinned], laidTests := true, laidLooks := .later }
def BodyComesCardSaid : Prop := Claim7.holds Tryd.pinned (.plain (OpenSpec.ofChange bodyComesSpec)) bodyComesCard

/-- THE TIED CARD OF 'larderlaw.BodyDecodes'. -/
def bodyDecodesCard : Claim7 := { stood := { row := bodyDecodesRow, standIns := [], harness := (true, "278afa50d572faf45515e78be853b98f4502d9edc8a4ad0701c3df8bb9f32262"), looks := true }, kinds := [], alts := [], laidByText := true, laidKinds := [.data, .data, .data, .data, .sentinel, .sentinel, .pinned], laidTests := true, laidLooks := .later }
def BodyDecodesCardSaid : Prop := Claim7.holds Tryd.pinned (.plain (OpenSpec.ofChange bodyDecodesSpec)) bodyDecodesCard

/-- THE TIED CARD OF 'larderlaw.SpanParses'. -/
def spanParsesCard : Claim7 := { stood := { row := spanParsesRow, standIns := [], harness := (true, "278afa50d572faf45515e78be853b98f4502d9edc8a4ad0701c3df8bb9f32262"), looks := true }, kinds := [], alts := [], laidByText := true, laidKinds := [.data, .data, .data, .data, .sentinel, .sentinel, .pinned], laidTests := true, laidLooks := .later }
def SpanParsesCardSaid : Prop := Claim7.holds Tryd.pinned (.plain (OpenSpec.ofChange spanParsesSpec)) spanParsesCard

/-- THE SECOND FORM's CARD OF 'larderlaw.SpanUnbundles'. -/
def spanUnbundlesUptoCard : Claim7 := { stood := { row := spanUnbundlesUptoRow, standIns := [], harness := (true, "278afa50d572faf45515e78be853b98f4502d9edc8a4ad0701c3df8bb9f32262"), looks := true }, kinds := [], alts := [], laidByText := true, laidKinds := [.data, .data, .data, .sentinel, .sentinel], laidTests := true, laidLooks := .later }
def SpanUnbundlesUptoCardSaid : Prop := Claim7.holds Tryd.pinned (.plain (OpenSpec.upto spanUnbundlesSpec)) spanUnbundlesUptoCard

/-- THE SECOND FORM's CARD OF 'larderlaw.BodyComes'. -/
def bodyComesUptoCard : Claim7 := { stood := { row := bodyComesUptoRow, standIns := [], harness := (true, "278afa50d572faf45515e78be853b98f4502d9edc8a4ad0701c3df8bb9f32262"), looks := true }, kinds := [], alts := [], laidByText := true, laidKinds := [.data, .data, .data, .data, .sentinel, .sentinel, .pinned], laidTests := true, laidLooks := .later }
def BodyComesUptoCardSaid : Prop := Claim7.holds Tryd.pinned (.plain (OpenSpec.upto bodyComesSpec)) bodyComesUptoCard

/-- THE SECOND FORM's CARD OF 'larderlaw.BodyDecodes'. -/
def bodyDecodesUptoCard : Claim7 := { stood := { row := bodyDecodesUptoRow, standIns := [], harness := (true, "278afa50d572faf45515e78be853b98f4502d9edc8a4ad0701c3df8bb9f32262"), looks := true }, kinds := [], alts := [], laidByText := true, laidKinds := [.data, .data, .data, .data, .sentinel, .sentinel, .pinned], laidTests := true, laidLooks := .later }
def BodyDecodesUptoCardSaid : Prop := Claim7.holds Tryd.pinned (.plain (OpenSpec.upto bodyDecodesSpec)) bodyDecodesUptoCard

/-- THE SECOND FORM's CARD OF 'larderlaw.SpanParses'. -/
def spanParsesUptoCard : Claim7 := { stood := { row := spanParsesUptoRow, standIns := [], harness := (true, "278afa50d572faf45515e78be853b98f4502d9edc8a4ad0701c3df8bb9f32262"), looks := true }, kinds := [], alts := [], laidByText := true, laidKinds := [.data, .data, .data, .data, .sentinel, .sentinel, .pinned], laidTests := true, laidLooks := .later }
def SpanParsesUptoCardSaid : Prop := Claim7.holds Tryd.pinned (.plain (OpenSpec.upto spanParsesSpec)) spanParsesUptoCard
end Rows
end Go.Proofs.YtfgjbflddabdcaaDoor
