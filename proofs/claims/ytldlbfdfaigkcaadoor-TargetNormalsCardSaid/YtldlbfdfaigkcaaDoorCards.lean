/-
  DERIVED. GIVEN WITH THE SEED: THE CARDS: each row of YtldlbfdfaigkcaaDoorRows.lean that lists a variable, with what it lists TIED to the program's text (the seventh form; the later family's looks); each row that meets fmt, with fmt's text TOLD by the authors' own Lean function (tested against real Go, not proved from fmt's source: count such statements apart). THE CARD IS WHAT COUNTS. Prove the row's statement (the work); the ties are given (YtldlbfdfaigkcaaDoorTie.lean); close each card by the builder's one call (the guide's Derived/Test/ToyasCard.lean, 'card_holds'). Laid BY PROGRAM, IN A SANDBOX (cutbox-door.mjs). By AI agents, Wed Nov 11 2026. No macro, syntax, notation, axiom, sorry.
-/
import Derived.Test.YtldlbfdfaigkcaaDoorRows
import GoSem.ClaimSeven
namespace Go.Proofs.YtldlbfdfaigkcaaDoor
namespace Rows

/-- THE TIED CARD OF 'larderlaw.DatePrints'. -/
def datePrintsCard : Claim7 := { stood := { row := datePrintsRow, standIns := [], harness := (true, "82a0dae858bdbd3a6c9b0a9dd782e4f4a2e2c7b9c3225b8063e67767e4a3d305"), looks := true }, kinds := [], alts := [], laidByText := true, laidKinds := [.data, .data, .data], laidTests := true, laidLooks := .later }
def DatePrintsCardSaid : Prop := Claim7.holds Tryd.pinned (.plain (OpenSpec.ofChange datePrintsSpec)) datePrintsCard

/-- THE TIED CARD OF 'larderlaw.BodyEncodes'. -/
def bodyEncodesCard : Claim7 := { stood := { row := bodyEncodesRow, standIns := [], harness := (true, "82a0dae858bdbd3a6c9b0a9dd782e4f4a2e2c7b9c3225b8063e67767e4a3d305"), looks := true }, kinds := [], alts := [], laidByText := true, laidKinds := [.data, .data, .data], laidTests := true, laidLooks := .later }
def BodyEncodesCardSaid : Prop := Claim7.holds Tryd.pinned (.plain (OpenSpec.ofChange bodyEncodesSpec)) bodyEncodesCard

/-- THE TIED CARD OF 'larderlaw.SpanPrints'. -/
def spanPrintsCard : Claim7 := { stood := { row := spanPrintsRow, standIns := [], harness := (true, "82a0dae858bdbd3a6c9b0a9dd782e4f4a2e2c7b9c3225b8063e67767e4a3d305"), looks := true }, kinds := [], alts := [], laidByText := true, laidKinds := [.data, .data, .data], laidTests := true, laidLooks := .later }
def SpanPrintsCardSaid : Prop := Claim7.holds Tryd.pinned (.plain (OpenSpec.ofChange spanPrintsSpec)) spanPrintsCard

/-- THE TIED CARD OF 'larderlaw.ControlPrints'. -/
def controlPrintsCard : Claim7 := { stood := { row := controlPrintsRow, standIns := [], harness := (true, "82a0dae858bdbd3a6c9b0a9dd782e4f4a2e2c7b9c3225b8063e67767e4a3d305"), looks := true }, kinds := [], alts := [], laidByText := true, laidKinds := [.data, .pinned], laidTests := true, laidLooks := .later }
def ControlPrintsCardSaid : Prop := Claim7.holds Tryd.pinned (.plain (OpenSpec.ofChange controlPrintsSpec)) controlPrintsCard

/-- THE TIED CARD OF 'larderlaw.SpanBundles'. -/
def spanBundlesCard : Claim7 := { stood := { row := spanBundlesRow, standIns := [], harness := (true, "82a0dae858bdbd3a6c9b0a9dd782e4f4a2e2c7b9c3225b8063e67767e4a3d305"), looks := true }, kinds := [], alts := [], laidByText := true, laidKinds := [.data, .data, .data], laidTests := true, laidLooks := .later }
def SpanBundlesCardSaid : Prop := Claim7.holds Tryd.pinned (.plain (OpenSpec.ofChange spanBundlesSpec)) spanBundlesCard

/-- THE TIED CARD OF 'larderlaw.TagLists'. -/
def tagListsCard : Claim7 := { stood := { row := tagListsRow, standIns := [], harness := (true, "82a0dae858bdbd3a6c9b0a9dd782e4f4a2e2c7b9c3225b8063e67767e4a3d305"), looks := true }, kinds := [], alts := [], laidByText := true, laidKinds := [.data, .pinned], laidTests := true, laidLooks := .later }
def TagListsCardSaid : Prop := Claim7.holds Tryd.pinned (.plain (OpenSpec.ofChange tagListsSpec)) tagListsCard

/-- THE TIED CARD OF 'larderlaw.FieldParses'. -/
def fieldParsesCard : Claim7 := { stood := { row := fieldParsesRow, standIns := [], harness := (true, "82a0dae858bdbd3a6c9b0a9dd782e4f4a2e2c7b9c3225b8063e67767e4a3d305"), looks := true }, kinds := [], alts := [], laidByText := true, laidKinds := [.data, .pinned], laidTests := true, laidLooks := .later }
def FieldParsesCardSaid : Prop := Claim7.holds Tryd.pinned (.plain (OpenSpec.ofChange fieldParsesSpec)) fieldParsesCard

/-- THE TIED CARD OF 'larderlaw.TargetNormals'. -/
def targetNormalsCard : Claim7 := { stood := { row := targetNormalsRow, standIns := [], harness := (true, "82a0dae858bdbd3a6c9b0a9dd782e4f4a2e2c7b9c3225b8063e67767e4a3d305"), looks := true }, kinds := [], alts := [], laidByText := true, laidKinds := [.data, .pinned], laidTests := true, laidLooks := .later }
def TargetNormalsCardSaid : Prop := Claim7.holds Tryd.pinned (.plain (OpenSpec.ofChange targetNormalsSpec)) targetNormalsCard

/-- THE TIED CARD OF 'larderlaw.DateParses'. -/
def dateParsesCard : Claim7 := { stood := { row := dateParsesRow, standIns := [], harness := (true, "82a0dae858bdbd3a6c9b0a9dd782e4f4a2e2c7b9c3225b8063e67767e4a3d305"), looks := true }, kinds := [], alts := [], laidByText := true, laidKinds := [.data, .data, .data, .data, .pinned], laidTests := true, laidLooks := .later }
def DateParsesCardSaid : Prop := Claim7.holds Tryd.pinned (.plain (OpenSpec.ofChange dateParsesSpec)) dateParsesCard

/-- THE TIED CARD OF 'larderlaw.SpanContents'. -/
def spanContentsCard : Claim7 := { stood := { row := spanContentsRow, standIns := [], harness := (true, "82a0dae858bdbd3a6c9b0a9dd782e4f4a2e2c7b9c3225b8063e67767e4a3d305"), looks := true }, kinds := [], alts := [], laidByText := true, laidKinds := [.data, .data, .data, .sentinel, .sentinel], laidTests := true, laidLooks := .later }
def SpanContentsCardSaid : Prop := Claim7.holds Tryd.pinned (.plain (OpenSpec.ofChange spanContentsSpec)) spanContentsCard

/-- THE SECOND FORM's CARD OF 'larderlaw.DatePrints'. -/
def datePrintsUptoCard : Claim7 := { stood := { row := datePrintsUptoRow, standIns := [], harness := (true, "82a0dae858bdbd3a6c9b0a9dd782e4f4a2e2c7b9c3225b8063e67767e4a3d305"), looks := true }, kinds := [], alts := [], laidByText := true, laidKinds := [.data, .data, .data], laidTests := true, laidLooks := .later }
def DatePrintsUptoCardSaid : Prop := Claim7.holds Tryd.pinned (.plain (OpenSpec.upto datePrintsSpec)) datePrintsUptoCard

/-- THE SECOND FORM's CARD OF 'larderlaw.BodyEncodes'. -/
def bodyEncodesUptoCard : Claim7 := { stood := { row := bodyEncodesUptoRow, standIns := [], harness := (true, "82a0dae858bdbd3a6c9b0a9dd782e4f4a2e2c7b9c3225b8063e67767e4a3d305"), looks := true }, kinds := [], alts := [], laidByText := true, laidKinds := [.data, .data, .data], laidTests := true, laidLooks := .later }
def BodyEncodesUptoCardSaid : Prop := Claim7.holds Tryd.pinned (.plain (OpenSpec.upto bodyEncodesSpec)) bodyEncodesUptoCard

/-- THE SECOND FORM's CARD OF 'larderlaw.SpanPrints'. -/
def spanPrintsUptoCard : Claim7 := { stood := { row := spanPrintsUptoRow, standIns := [], harness := (true, "82a0dae858bdbd3a6c9b0a9dd782e4f4a2e2c7b9c3225b8063e67767e4a3d305"), looks := true }, kinds := [], alts := [], laidByText := true, laidKinds := [.data, .data, .data], laidTests := true, laidLooks := .later }
def SpanPrintsUptoCardSaid : Prop := Claim7.holds Tryd.pinned (.plain (OpenSpec.upto spanPrintsSpec)) spanPrintsUptoCard

/-- THE SECOND FORM's CARD OF 'larderlaw.ControlPrints'. -/
def controlPrintsUptoCard : Claim7 := { stood := { row := controlPrintsUptoRow, standIns := [], harness := (true, "82a0dae858bdbd3a6c9b0a9dd782e4f4a2e2c7b9c3225b8063e67767e4a3d305"), looks := true }, kinds := [], alts := [], laidByText := true, laidKinds := [.data, .pinned], laidTests := true, laidLooks := .later }
def ControlPrintsUptoCardSaid : Prop := Claim7.holds Tryd.pinned (.plain (OpenSpec.upto controlPrintsSpec)) controlPrintsUptoCard

/-- THE SECOND FORM's CARD OF 'larderlaw.SpanBundles'. -/
def spanBundlesUptoCard : Claim7 := { stood := { row := spanBundlesUptoRow, standIns := [], harness := (true, "82a0dae858bdbd3a6c9b0a9dd782e4f4a2e2c7b9c3225b8063e67767e4a3d305"), looks := true }, kinds := [], alts := [], laidByText := true, laidKinds := [.data, .data, .data], laidTests := true, laidLooks := .later }
def SpanBundlesUptoCardSaid : Prop := Claim7.holds Tryd.pinned (.plain (OpenSpec.upto spanBundlesSpec)) spanBundlesUptoCard

/-- THE SECOND FORM's CARD OF 'larderlaw.TagLists'. -/
def tagListsUptoCard : Claim7 := { stood := { row := tagListsUptoRow, standIns := [], harness := (true, "82a0dae858bdbd3a6c9b0a9dd782e4f4a2e2c7b9c3225b8063e67767e4a3d305"), looks := true }, kinds := [], alts := [], laidByText := true, laidKinds := [.data, .pinned], laidTests := true, laidLooks := .later }
def TagListsUptoCardSaid : Prop := Claim7.holds Tryd.pinned (.plain (OpenSpec.upto tagListsSpec)) tagListsUptoCard

/-- THE SECOND FORM's CARD OF 'larderlaw.FieldParses'. -/
def fieldParsesUptoCard : Claim7 := { stood := { row := fieldParsesUptoRow, standIns := [], harness := (true, "82a0dae858bdbd3a6c9b0a9dd782e4f4a2e2c7b9c3225b8063e67767e4a3d305"), looks := true }, kinds := [], alts := [], laidByText := true, laidKinds := [.data, .pinned], laidTests := true, laidLooks := .later }
def FieldParsesUptoCardSaid : Prop := Claim7.holds Tryd.pinned (.plain (OpenSpec.upto fieldParsesSpec)) fieldParsesUptoCard

/-- THE SECOND FORM's CARD OF 'larderlaw.TargetNormals'. -/
def targetNormalsUptoCard : Claim7 := { stood := { row := targetNormalsUptoRow, standIns := [], harness := (true, "82a0dae858bdbd3a6c9b0a9dd782e4f4a2e2c7b9c3225b8063e67767e4a3d305"), looks := true }, kinds := [], alts := [], laidByText := true, laidKinds := [.data, .pinned], laidTests := true, laidLooks := .later }
def TargetNormalsUptoCardSaid : Prop := Claim7.holds Tryd.pinned (.plain (OpenSpec.upto targetNormalsSpec)) targetNormalsUptoCard

/-- THE SECOND FORM's CARD OF 'larderlaw.DateParses'. -/
def dateParsesUptoCard : Claim7 := { stood := { row := dateParsesUptoRow, standIns := [], harness := (true, "82a0dae858bdbd3a6c9b0a9dd782e4f4a2e2c7b9c3225b8063e67767e4a3d305"), looks := true }, kinds := [], alts := [], laidByText := true, laidKinds := [.data, .data, .data, .data, .pinned], laidTests := true, laidLooks := .later }
def DateParsesUptoCardSaid : Prop := Claim7.holds Tryd.pinned (.plain (OpenSpec.upto dateParsesSpec)) dateParsesUptoCard

/-- THE SECOND FORM's CARD OF 'larderlaw.SpanContents'. -/
def spanContentsUptoCard : Claim7 := { stood := { row := spanContentsUptoRow, standIns := [], harness := (true, "82a0dae858bdbd3a6c9b0a9dd782e4f4a2e2c7b9c3225b8063e67767e4a3d305"), looks := true }, kinds := [], alts := [], laidByText := true, laidKinds := [.data, .data, .data, .sentinel, .sentinel], laidTests := true, laidLooks := .later }
def SpanContentsUptoCardSaid : Prop := Claim7.holds Tryd.pinned (.plain (OpenSpec.upto spanContentsSpec)) spanContentsUptoCard
end Rows
end Go.Proofs.YtldlbfdfaigkcaaDoor
