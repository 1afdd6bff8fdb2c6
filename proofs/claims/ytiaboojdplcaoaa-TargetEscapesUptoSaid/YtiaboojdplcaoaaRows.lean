/-
  No cell of these rows narrows 'for every input' (looked for: loops, veiled, ifaces, maps, wideKeys, modest, calm, conditions, laid).
  DERIVED. THE GIVEN ROWS OF THIS SEAT. 9 by the template 'for every input the law returns true; each argument reads behind the call as it read before'; 0 by the template 'total and deterministic' (their statements: YtiaboojdplcaoaaTotals.lean).
  GIVEN WITH THE SEED: the statements are not yours to turn. If you find one false, say at which input.
  Laid BY PROGRAM, IN A SANDBOX (cutbox-rows.mjs): the forced cells as the released guide's own fill.sh prints them over the translation 9b47c32d1f8d8cb2… (all of the seat's roots in one cut). By AI agents, Wed Nov 11 2026. No macro, syntax, notation, axiom, sorry.
-/
import Derived.Test.YtiaboojdplcaoaaChecked
import GoSem.Claim
import GoSem.ClaimJoined
import GoSem.ClaimMapViews
import Derived.JoinedTies
import Derived.KernelRfl
namespace Go.Proofs.Ytiaboojdplcaoaa
/- THE CELL 'sum', in the pinned program and in every row, IS THE sha256 OF THE DUMP (.gsa) THAT YtiaboojdplcaoaaProg.lean LOADS. Nothing in Lean hashes anything: it is a label: what it is worth is what the hold of that sum in a sandbox is worth. -/
noncomputable def Try.pinned : Pinned := { name := "ytiaboojdplcaoaa", sum := "9b47c32d1f8d8cb2d55aedf3afd98ad4caa75248b12e3e02e48b1145da8c61fb", checked := Try.checked }
namespace Rows
def none {H : Type} : Left H := { results := [], args := [] }

/-- 'larderlaw.TokenIs': WHATEVER THE INPUT: true; the input reads as it did. -/
def tokenIsSpec : ChangeSpec := { name := "tokenIs", fn := fun _ => fun
  | [d] => { results := [.lit (.bool true)], args := [d] }
  | _ => none }
def tokenIsRow : OpenClaim := { program := "ytiaboojdplcaoaa", sum := "9b47c32d1f8d8cb2d55aedf3afd98ad4caa75248b12e3e02e48b1145da8c61fb", func := "larder/larderlaw.TokenIs", spec := "tokenIs", inPlace := ["internal/bytealg.IndexByteString", "internal/bytealg.IndexString"], named := ["internal/bytealg.MaxLen"], apart := false }
def TokenIsSaid : Prop := tokenIsRow.holds Try.pinned (OpenSpec.ofChange tokenIsSpec)

/-- ITS FALSE NEIGHBOUR: 'it returns false'. Refute it at one input. -/
def tokenIsWrong : ChangeSpec := { name := "tokenIs", fn := fun _ => fun
  | [d] => { results := [.lit (.bool false)], args := [d] }
  | _ => none }
def TokenIsWrongFalsely : Prop := tokenIsRow.holds Try.pinned (OpenSpec.ofChange tokenIsWrong)

/-- 'larderlaw.ControlSeconds': WHATEVER THE INPUT: true; the input reads as it did. -/
def controlSecondsSpec : ChangeSpec := { name := "controlSeconds", fn := fun _ => fun
  | [d1, d2] => { results := [.lit (.bool true)], args := [d1, d2] }
  | _ => none }
def controlSecondsRow : OpenClaim := { program := "ytiaboojdplcaoaa", sum := "9b47c32d1f8d8cb2d55aedf3afd98ad4caa75248b12e3e02e48b1145da8c61fb", func := "larder/larderlaw.ControlSeconds", spec := "controlSeconds", inPlace := ["internal/bytealg.IndexByteString", "internal/bytealg.IndexString"], named := ["internal/bytealg.MaxLen"], apart := false }
def ControlSecondsSaid : Prop := controlSecondsRow.holds Try.pinned (OpenSpec.ofChange controlSecondsSpec)

/-- ITS FALSE NEIGHBOUR: 'it returns false'. Refute it at one input. -/
def controlSecondsWrong : ChangeSpec := { name := "controlSeconds", fn := fun _ => fun
  | [d1, d2] => { results := [.lit (.bool false)], args := [d1, d2] }
  | _ => none }
def ControlSecondsWrongFalsely : Prop := controlSecondsRow.holds Try.pinned (OpenSpec.ofChange controlSecondsWrong)

/-- 'larderlaw.FieldGets': WHATEVER THE INPUT: true; the input reads as it did. -/
def fieldGetsSpec : ChangeSpec := { name := "fieldGets", fn := fun _ => fun
  | [d1, d2] => { results := [.lit (.bool true)], args := [d1, d2] }
  | _ => none }
def fieldGetsRow : OpenClaim := { program := "ytiaboojdplcaoaa", sum := "9b47c32d1f8d8cb2d55aedf3afd98ad4caa75248b12e3e02e48b1145da8c61fb", func := "larder/larderlaw.FieldGets", spec := "fieldGets", inPlace := ["internal/abi.NoEscape", "internal/bytealg.MakeNoZero", "internal/bytealg.IndexByteString"], unfollowed := true, recurses := true, apart := false }
def FieldGetsSaid : Prop := fieldGetsRow.holds Try.pinned (OpenSpec.ofChange fieldGetsSpec)

/-- ITS FALSE NEIGHBOUR: 'it returns false'. Refute it at one input. -/
def fieldGetsWrong : ChangeSpec := { name := "fieldGets", fn := fun _ => fun
  | [d1, d2] => { results := [.lit (.bool false)], args := [d1, d2] }
  | _ => none }
def FieldGetsWrongFalsely : Prop := fieldGetsRow.holds Try.pinned (OpenSpec.ofChange fieldGetsWrong)

/-- 'larderlaw.TargetEscapes': WHATEVER THE INPUT: true; the input reads as it did. -/
def targetEscapesSpec : ChangeSpec := { name := "targetEscapes", fn := fun _ => fun
  | [d] => { results := [.lit (.bool true)], args := [d] }
  | _ => none }
def targetEscapesRow : OpenClaim := { program := "ytiaboojdplcaoaa", sum := "9b47c32d1f8d8cb2d55aedf3afd98ad4caa75248b12e3e02e48b1145da8c61fb", func := "larder/larderlaw.TargetEscapes", spec := "targetEscapes", inPlace := ["internal/bytealg.IndexByteString", "internal/bytealg.IndexString"], unfollowed := true, recurses := true, named := ["internal/bytealg.MaxLen"], apart := false }
def TargetEscapesSaid : Prop := targetEscapesRow.holds Try.pinned (OpenSpec.ofChange targetEscapesSpec)

/-- ITS FALSE NEIGHBOUR: 'it returns false'. Refute it at one input. -/
def targetEscapesWrong : ChangeSpec := { name := "targetEscapes", fn := fun _ => fun
  | [d] => { results := [.lit (.bool false)], args := [d] }
  | _ => none }
def TargetEscapesWrongFalsely : Prop := targetEscapesRow.holds Try.pinned (OpenSpec.ofChange targetEscapesWrong)

/-- 'larderlaw.ControlParses': WHATEVER THE INPUT: true; the input reads as it did. -/
def controlParsesSpec : ChangeSpec := { name := "controlParses", fn := fun _ => fun
  | [d] => { results := [.lit (.bool true)], args := [d] }
  | _ => none }
def controlParsesRow : OpenClaim := { program := "ytiaboojdplcaoaa", sum := "9b47c32d1f8d8cb2d55aedf3afd98ad4caa75248b12e3e02e48b1145da8c61fb", func := "larder/larderlaw.ControlParses", spec := "controlParses", inPlace := ["internal/bytealg.IndexByteString", "internal/bytealg.IndexString"], recurses := true, named := ["internal/bytealg.MaxLen"], apart := false }
def ControlParsesSaid : Prop := controlParsesRow.holds Try.pinned (OpenSpec.ofChange controlParsesSpec)

/-- ITS FALSE NEIGHBOUR: 'it returns false'. Refute it at one input. -/
def controlParsesWrong : ChangeSpec := { name := "controlParses", fn := fun _ => fun
  | [d] => { results := [.lit (.bool false)], args := [d] }
  | _ => none }
def ControlParsesWrongFalsely : Prop := controlParsesRow.holds Try.pinned (OpenSpec.ofChange controlParsesWrong)

/-- 'larderlaw.TokenParams': WHATEVER THE INPUT: true; the input reads as it did. -/
def tokenParamsSpec : ChangeSpec := { name := "tokenParams", fn := fun _ => fun
  | [d] => { results := [.lit (.bool true)], args := [d] }
  | _ => none }
def tokenParamsRow : OpenClaim := { program := "ytiaboojdplcaoaa", sum := "9b47c32d1f8d8cb2d55aedf3afd98ad4caa75248b12e3e02e48b1145da8c61fb", func := "larder/larderlaw.TokenParams", spec := "tokenParams", inPlace := ["internal/bytealg.IndexByteString", "internal/bytealg.IndexString"], recurses := true, named := ["internal/bytealg.MaxLen"], apart := false }
def TokenParamsSaid : Prop := tokenParamsRow.holds Try.pinned (OpenSpec.ofChange tokenParamsSpec)

/-- ITS FALSE NEIGHBOUR: 'it returns false'. Refute it at one input. -/
def tokenParamsWrong : ChangeSpec := { name := "tokenParams", fn := fun _ => fun
  | [d] => { results := [.lit (.bool false)], args := [d] }
  | _ => none }
def TokenParamsWrongFalsely : Prop := tokenParamsRow.holds Try.pinned (OpenSpec.ofChange tokenParamsWrong)

/-- 'larderlaw.PolicyStrips': WHATEVER THE INPUT: true; the input reads as it did. -/
def policyStripsSpec : ChangeSpec := { name := "policyStrips", fn := fun _ => fun
  | [d1, d2, d3] => { results := [.lit (.bool true)], args := [d1, d2, d3] }
  | _ => none }
def policyStripsRow : OpenClaim := { program := "ytiaboojdplcaoaa", sum := "9b47c32d1f8d8cb2d55aedf3afd98ad4caa75248b12e3e02e48b1145da8c61fb", func := "larder/larderlaw.PolicyStrips", spec := "policyStrips", inPlace := ["internal/abi.NoEscape", "internal/bytealg.MakeNoZero", "internal/bytealg.IndexByteString"], unfollowed := true, recurses := true, apart := false }
def PolicyStripsSaid : Prop := policyStripsRow.holds Try.pinned (OpenSpec.ofChange policyStripsSpec)

/-- ITS FALSE NEIGHBOUR: 'it returns false'. Refute it at one input. -/
def policyStripsWrong : ChangeSpec := { name := "policyStrips", fn := fun _ => fun
  | [d1, d2, d3] => { results := [.lit (.bool false)], args := [d1, d2, d3] }
  | _ => none }
def PolicyStripsWrongFalsely : Prop := policyStripsRow.holds Try.pinned (OpenSpec.ofChange policyStripsWrong)

/-- 'larderlaw.RowSays': WHATEVER THE INPUT: true; the input reads as it did. -/
def rowSaysSpec : ChangeSpec := { name := "rowSays", fn := fun _ => fun
  | [d1, d2] => { results := [.lit (.bool true)], args := [d1, d2] }
  | _ => none }
def rowSaysRow : OpenClaim := { program := "ytiaboojdplcaoaa", sum := "9b47c32d1f8d8cb2d55aedf3afd98ad4caa75248b12e3e02e48b1145da8c61fb", func := "larder/larderlaw.RowSays", spec := "rowSays", unfollowed := true, recurses := true, apart := false }
def RowSaysSaid : Prop := rowSaysRow.holds Try.pinned (OpenSpec.ofChange rowSaysSpec)

/-- ITS FALSE NEIGHBOUR: 'it returns false'. Refute it at one input. -/
def rowSaysWrong : ChangeSpec := { name := "rowSays", fn := fun _ => fun
  | [d1, d2] => { results := [.lit (.bool false)], args := [d1, d2] }
  | _ => none }
def RowSaysWrongFalsely : Prop := rowSaysRow.holds Try.pinned (OpenSpec.ofChange rowSaysWrong)

/-- 'larderlaw.PolicyFreshens': WHATEVER THE INPUT: true; the input reads as it did. -/
def policyFreshensSpec : ChangeSpec := { name := "policyFreshens", fn := fun _ => fun
  | [d1, d2] => { results := [.lit (.bool true)], args := [d1, d2] }
  | _ => none }
def policyFreshensRow : OpenClaim := { program := "ytiaboojdplcaoaa", sum := "9b47c32d1f8d8cb2d55aedf3afd98ad4caa75248b12e3e02e48b1145da8c61fb", func := "larder/larderlaw.PolicyFreshens", spec := "policyFreshens", inPlace := ["internal/abi.NoEscape", "internal/bytealg.MakeNoZero", "internal/bytealg.IndexByteString"], unfollowed := true, recurses := true, apart := false }
def PolicyFreshensSaid : Prop := policyFreshensRow.holds Try.pinned (OpenSpec.ofChange policyFreshensSpec)

/-- ITS FALSE NEIGHBOUR: 'it returns false'. Refute it at one input. -/
def policyFreshensWrong : ChangeSpec := { name := "policyFreshens", fn := fun _ => fun
  | [d1, d2] => { results := [.lit (.bool false)], args := [d1, d2] }
  | _ => none }
def PolicyFreshensWrongFalsely : Prop := policyFreshensRow.holds Try.pinned (OpenSpec.ofChange policyFreshensWrong)

/- THE SECOND FORM. 'bulk': how many values and letters a reading holds, each counted each time it is reached (what is shared counts as often as it is met; a slice's spare places count too). A statement '..UptoSaid' is the law's where the arguments, and the package variables that the reading takes, are together of bulk at most 1048576: NARROWER than '..Said'. Prove '..Said' where nothing that the law and all that it calls make is longer than what came in: it says more and counts as full. Else prove '..UptoSaid'. A law counts once. -/
mutual
def uptoBulk {H : Type} : DataW H → Nat
  | .lit (.string bytes) => bytes.length + 1
  | .lit _ => 1
  | .nil => 1
  | .ptr d => uptoBulk d + 1
  | .slice elems spare => uptoBulkAll elems + uptoBulkAll spare + 1
  | .agg parts => uptoBulkAll parts + 1
  | .iface _ d => uptoBulk d + 1
  | .map entries => uptoBulkEntries entries + 1
  | .held _ => 1
def uptoBulkAll {H : Type} : List (DataW H) → Nat
  | [] => 0
  | d :: r => uptoBulk d + uptoBulkAll r
def uptoBulkEntries {H : Type} : List (Lit × DataW H) → Nat
  | [] => 0
  | x :: r => uptoBulkEntry x + uptoBulkEntries r
def uptoBulkEntry {H : Type} : Lit × DataW H → Nat
  | (.string bytes, d) => bytes.length + uptoBulk d + 1
  | (_, d) => uptoBulk d + 1
 end
def uptoSmall : (H : Type) → List (DataW H) → Bool := fun _ ds => decide (uptoBulkAll ds ≤ 1048576)
def OpenSpec.upto (s : _root_.Go.ChangeSpec) : _root_.Go.OpenSpec := { _root_.Go.OpenSpec.ofChange s with cond := some uptoSmall }

/-- 'larderlaw.TokenIs', WHERE WHAT IT READS IS OF BULK AT MOST 1048576: true; the input reads as it did. -/
def tokenIsUptoRow : OpenClaim := { program := "ytiaboojdplcaoaa", sum := "9b47c32d1f8d8cb2d55aedf3afd98ad4caa75248b12e3e02e48b1145da8c61fb", func := "larder/larderlaw.TokenIs", spec := "tokenIs", inPlace := ["internal/bytealg.IndexByteString", "internal/bytealg.IndexString"], named := ["internal/bytealg.MaxLen"], apart := false, narrowed := true }
def TokenIsUptoSaid : Prop := tokenIsUptoRow.holds Try.pinned (OpenSpec.upto tokenIsSpec)

/-- 'larderlaw.ControlSeconds', WHERE WHAT IT READS IS OF BULK AT MOST 1048576: true; the input reads as it did. -/
def controlSecondsUptoRow : OpenClaim := { program := "ytiaboojdplcaoaa", sum := "9b47c32d1f8d8cb2d55aedf3afd98ad4caa75248b12e3e02e48b1145da8c61fb", func := "larder/larderlaw.ControlSeconds", spec := "controlSeconds", inPlace := ["internal/bytealg.IndexByteString", "internal/bytealg.IndexString"], named := ["internal/bytealg.MaxLen"], apart := false, narrowed := true }
def ControlSecondsUptoSaid : Prop := controlSecondsUptoRow.holds Try.pinned (OpenSpec.upto controlSecondsSpec)

/-- 'larderlaw.FieldGets', WHERE WHAT IT READS IS OF BULK AT MOST 1048576: true; the input reads as it did. -/
def fieldGetsUptoRow : OpenClaim := { program := "ytiaboojdplcaoaa", sum := "9b47c32d1f8d8cb2d55aedf3afd98ad4caa75248b12e3e02e48b1145da8c61fb", func := "larder/larderlaw.FieldGets", spec := "fieldGets", inPlace := ["internal/abi.NoEscape", "internal/bytealg.MakeNoZero", "internal/bytealg.IndexByteString"], unfollowed := true, recurses := true, apart := false, narrowed := true }
def FieldGetsUptoSaid : Prop := fieldGetsUptoRow.holds Try.pinned (OpenSpec.upto fieldGetsSpec)

/-- 'larderlaw.TargetEscapes', WHERE WHAT IT READS IS OF BULK AT MOST 1048576: true; the input reads as it did. -/
def targetEscapesUptoRow : OpenClaim := { program := "ytiaboojdplcaoaa", sum := "9b47c32d1f8d8cb2d55aedf3afd98ad4caa75248b12e3e02e48b1145da8c61fb", func := "larder/larderlaw.TargetEscapes", spec := "targetEscapes", inPlace := ["internal/bytealg.IndexByteString", "internal/bytealg.IndexString"], unfollowed := true, recurses := true, named := ["internal/bytealg.MaxLen"], apart := false, narrowed := true }
def TargetEscapesUptoSaid : Prop := targetEscapesUptoRow.holds Try.pinned (OpenSpec.upto targetEscapesSpec)

/-- 'larderlaw.ControlParses', WHERE WHAT IT READS IS OF BULK AT MOST 1048576: true; the input reads as it did. -/
def controlParsesUptoRow : OpenClaim := { program := "ytiaboojdplcaoaa", sum := "9b47c32d1f8d8cb2d55aedf3afd98ad4caa75248b12e3e02e48b1145da8c61fb", func := "larder/larderlaw.ControlParses", spec := "controlParses", inPlace := ["internal/bytealg.IndexByteString", "internal/bytealg.IndexString"], recurses := true, named := ["internal/bytealg.MaxLen"], apart := false, narrowed := true }
def ControlParsesUptoSaid : Prop := controlParsesUptoRow.holds Try.pinned (OpenSpec.upto controlParsesSpec)

/-- 'larderlaw.TokenParams', WHERE WHAT IT READS IS OF BULK AT MOST 1048576: true; the input reads as it did. -/
def tokenParamsUptoRow : OpenClaim := { program := "ytiaboojdplcaoaa", sum := "9b47c32d1f8d8cb2d55aedf3afd98ad4caa75248b12e3e02e48b1145da8c61fb", func := "larder/larderlaw.TokenParams", spec := "tokenParams", inPlace := ["internal/bytealg.IndexByteString", "internal/bytealg.IndexString"], recurses := true, named := ["internal/bytealg.MaxLen"], apart := false, narrowed := true }
def TokenParamsUptoSaid : Prop := tokenParamsUptoRow.holds Try.pinned (OpenSpec.upto tokenParamsSpec)

/-- 'larderlaw.PolicyStrips', WHERE WHAT IT READS IS OF BULK AT MOST 1048576: true; the input reads as it did. -/
def policyStripsUptoRow : OpenClaim := { program := "ytiaboojdplcaoaa", sum := "9b47c32d1f8d8cb2d55aedf3afd98ad4caa75248b12e3e02e48b1145da8c61fb", func := "larder/larderlaw.PolicyStrips", spec := "policyStrips", inPlace := ["internal/abi.NoEscape", "internal/bytealg.MakeNoZero", "internal/bytealg.IndexByteString"], unfollowed := true, recurses := true, apart := false, narrowed := true }
def PolicyStripsUptoSaid : Prop := policyStripsUptoRow.holds Try.pinned (OpenSpec.upto policyStripsSpec)

/-- 'larderlaw.RowSays', WHERE WHAT IT READS IS OF BULK AT MOST 1048576: true; the input reads as it did. -/
def rowSaysUptoRow : OpenClaim := { program := "ytiaboojdplcaoaa", sum := "9b47c32d1f8d8cb2d55aedf3afd98ad4caa75248b12e3e02e48b1145da8c61fb", func := "larder/larderlaw.RowSays", spec := "rowSays", unfollowed := true, recurses := true, apart := false, narrowed := true }
def RowSaysUptoSaid : Prop := rowSaysUptoRow.holds Try.pinned (OpenSpec.upto rowSaysSpec)

/-- 'larderlaw.PolicyFreshens', WHERE WHAT IT READS IS OF BULK AT MOST 1048576: true; the input reads as it did. -/
def policyFreshensUptoRow : OpenClaim := { program := "ytiaboojdplcaoaa", sum := "9b47c32d1f8d8cb2d55aedf3afd98ad4caa75248b12e3e02e48b1145da8c61fb", func := "larder/larderlaw.PolicyFreshens", spec := "policyFreshens", inPlace := ["internal/abi.NoEscape", "internal/bytealg.MakeNoZero", "internal/bytealg.IndexByteString"], unfollowed := true, recurses := true, apart := false, narrowed := true }
def PolicyFreshensUptoSaid : Prop := policyFreshensUptoRow.holds Try.pinned (OpenSpec.upto policyFreshensSpec)

end Rows
end Go.Proofs.Ytiaboojdplcaoaa
