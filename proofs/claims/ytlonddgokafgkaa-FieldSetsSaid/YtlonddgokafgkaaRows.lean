/-
  No cell of these rows narrows 'for every input' (looked for: loops, veiled, ifaces, maps, wideKeys, modest, calm, conditions, laid).
  DERIVED. THE GIVEN ROWS OF THIS SEAT. 12 by the template 'for every input the law returns true; each argument reads behind the call as it read before'; 0 by the template 'total and deterministic' (their statements: YtlonddgokafgkaaTotals.lean).
  GIVEN WITH THE SEED: the statements are not yours to turn. If you find one false, say at which input.
  Laid BY PROGRAM, IN A SANDBOX (cutbox-rows.mjs): the forced cells as the released guide's own fill.sh prints them over the translation be7dfdff619e6a1c… (all of the seat's roots in one cut). By AI agents, Wed Nov 11 2026. No macro, syntax, notation, axiom, sorry.
-/
import Derived.Test.YtlonddgokafgkaaChecked
import GoSem.Claim
import GoSem.ClaimJoined
import GoSem.ClaimMapViews
import Derived.JoinedTies
import Derived.KernelRfl
namespace Go.Proofs.Ytlonddgokafgkaa
/- THE CELL 'sum', in the pinned program and in every row, IS THE sha256 OF THE DUMP (.gsa) THAT YtlonddgokafgkaaProg.lean LOADS. Nothing in Lean hashes anything: it is a label: what it is worth is what the hold of that sum in a sandbox is worth. -/
noncomputable def Try.pinned : Pinned := { name := "ytlonddgokafgkaa", sum := "be7dfdff619e6a1cb90b1d03954435c6c4027c46a40b7541daf474be3d352e7d", checked := Try.checked }
namespace Rows
def none {H : Type} : Left H := { results := [], args := [] }

/-- 'larderlaw.Names': WHATEVER THE INPUT: true; the input reads as it did. -/
def namesSpec : ChangeSpec := { name := "names", fn := fun _ => fun
  | [] => { results := [.lit (.bool true)], args := [] }
  | _ => none }
def namesRow : OpenClaim := { program := "ytlonddgokafgkaa", sum := "be7dfdff619e6a1cb90b1d03954435c6c4027c46a40b7541daf474be3d352e7d", func := "larder/larderlaw.Names", spec := "names", apart := false }
def NamesSaid : Prop := namesRow.holds Try.pinned (OpenSpec.ofChange namesSpec)

/-- ITS FALSE NEIGHBOUR: 'it returns false'. Refute it at one input. -/
def namesWrong : ChangeSpec := { name := "names", fn := fun _ => fun
  | [] => { results := [.lit (.bool false)], args := [] }
  | _ => none }
def NamesWrongFalsely : Prop := namesRow.holds Try.pinned (OpenSpec.ofChange namesWrong)

/-- 'larderlaw.LogCrc': WHATEVER THE INPUT: true; the input reads as it did. -/
def logCrcSpec : ChangeSpec := { name := "logCrc", fn := fun _ => fun
  | [d] => { results := [.lit (.bool true)], args := [d] }
  | _ => none }
def logCrcRow : OpenClaim := { program := "ytlonddgokafgkaa", sum := "be7dfdff619e6a1cb90b1d03954435c6c4027c46a40b7541daf474be3d352e7d", func := "larder/larderlaw.LogCrc", spec := "logCrc", apart := false }
def LogCrcSaid : Prop := logCrcRow.holds Try.pinned (OpenSpec.ofChange logCrcSpec)

/-- ITS FALSE NEIGHBOUR: 'it returns false'. Refute it at one input. -/
def logCrcWrong : ChangeSpec := { name := "logCrc", fn := fun _ => fun
  | [d] => { results := [.lit (.bool false)], args := [d] }
  | _ => none }
def LogCrcWrongFalsely : Prop := logCrcRow.holds Try.pinned (OpenSpec.ofChange logCrcWrong)

/-- 'larderlaw.DateCivil': WHATEVER THE INPUT: true; the input reads as it did. -/
def dateCivilSpec : ChangeSpec := { name := "dateCivil", fn := fun _ => fun
  | [d] => { results := [.lit (.bool true)], args := [d] }
  | _ => none }
def dateCivilRow : OpenClaim := { program := "ytlonddgokafgkaa", sum := "be7dfdff619e6a1cb90b1d03954435c6c4027c46a40b7541daf474be3d352e7d", func := "larder/larderlaw.DateCivil", spec := "dateCivil", apart := false }
def DateCivilSaid : Prop := dateCivilRow.holds Try.pinned (OpenSpec.ofChange dateCivilSpec)

/-- ITS FALSE NEIGHBOUR: 'it returns false'. Refute it at one input. -/
def dateCivilWrong : ChangeSpec := { name := "dateCivil", fn := fun _ => fun
  | [d] => { results := [.lit (.bool false)], args := [d] }
  | _ => none }
def DateCivilWrongFalsely : Prop := dateCivilRow.holds Try.pinned (OpenSpec.ofChange dateCivilWrong)

/-- 'larderlaw.TokenUnquotes': WHATEVER THE INPUT: true; the input reads as it did. -/
def tokenUnquotesSpec : ChangeSpec := { name := "tokenUnquotes", fn := fun _ => fun
  | [d] => { results := [.lit (.bool true)], args := [d] }
  | _ => none }
def tokenUnquotesRow : OpenClaim := { program := "ytlonddgokafgkaa", sum := "be7dfdff619e6a1cb90b1d03954435c6c4027c46a40b7541daf474be3d352e7d", func := "larder/larderlaw.TokenUnquotes", spec := "tokenUnquotes", apart := false }
def TokenUnquotesSaid : Prop := tokenUnquotesRow.holds Try.pinned (OpenSpec.ofChange tokenUnquotesSpec)

/-- ITS FALSE NEIGHBOUR: 'it returns false'. Refute it at one input. -/
def tokenUnquotesWrong : ChangeSpec := { name := "tokenUnquotes", fn := fun _ => fun
  | [d] => { results := [.lit (.bool false)], args := [d] }
  | _ => none }
def TokenUnquotesWrongFalsely : Prop := tokenUnquotesRow.holds Try.pinned (OpenSpec.ofChange tokenUnquotesWrong)

/-- 'larderlaw.DateDays': WHATEVER THE INPUT: true; the input reads as it did. -/
def dateDaysSpec : ChangeSpec := { name := "dateDays", fn := fun _ => fun
  | [d1, d2, d3] => { results := [.lit (.bool true)], args := [d1, d2, d3] }
  | _ => none }
def dateDaysRow : OpenClaim := { program := "ytlonddgokafgkaa", sum := "be7dfdff619e6a1cb90b1d03954435c6c4027c46a40b7541daf474be3d352e7d", func := "larder/larderlaw.DateDays", spec := "dateDays", apart := false }
def DateDaysSaid : Prop := dateDaysRow.holds Try.pinned (OpenSpec.ofChange dateDaysSpec)

/-- ITS FALSE NEIGHBOUR: 'it returns false'. Refute it at one input. -/
def dateDaysWrong : ChangeSpec := { name := "dateDays", fn := fun _ => fun
  | [d1, d2, d3] => { results := [.lit (.bool false)], args := [d1, d2, d3] }
  | _ => none }
def DateDaysWrongFalsely : Prop := dateDaysRow.holds Try.pinned (OpenSpec.ofChange dateDaysWrong)

/-- 'larderlaw.ChunkComes': WHATEVER THE INPUT: true; the input reads as it did. -/
def chunkComesSpec : ChangeSpec := { name := "chunkComes", fn := fun _ => fun
  | [d1, d2] => { results := [.lit (.bool true)], args := [d1, d2] }
  | _ => none }
def chunkComesRow : OpenClaim := { program := "ytlonddgokafgkaa", sum := "be7dfdff619e6a1cb90b1d03954435c6c4027c46a40b7541daf474be3d352e7d", func := "larder/larderlaw.ChunkComes", spec := "chunkComes", unfollowed := true, recurses := true, apart := false }
def ChunkComesSaid : Prop := chunkComesRow.holds Try.pinned (OpenSpec.ofChange chunkComesSpec)

/-- ITS FALSE NEIGHBOUR: 'it returns false'. Refute it at one input. -/
def chunkComesWrong : ChangeSpec := { name := "chunkComes", fn := fun _ => fun
  | [d1, d2] => { results := [.lit (.bool false)], args := [d1, d2] }
  | _ => none }
def ChunkComesWrongFalsely : Prop := chunkComesRow.holds Try.pinned (OpenSpec.ofChange chunkComesWrong)

/-- 'larderlaw.ChunkCuts': WHATEVER THE INPUT: true; the input reads as it did. -/
def chunkCutsSpec : ChangeSpec := { name := "chunkCuts", fn := fun _ => fun
  | [d1, d2] => { results := [.lit (.bool true)], args := [d1, d2] }
  | _ => none }
def chunkCutsRow : OpenClaim := { program := "ytlonddgokafgkaa", sum := "be7dfdff619e6a1cb90b1d03954435c6c4027c46a40b7541daf474be3d352e7d", func := "larder/larderlaw.ChunkCuts", spec := "chunkCuts", unfollowed := true, recurses := true, apart := false }
def ChunkCutsSaid : Prop := chunkCutsRow.holds Try.pinned (OpenSpec.ofChange chunkCutsSpec)

/-- ITS FALSE NEIGHBOUR: 'it returns false'. Refute it at one input. -/
def chunkCutsWrong : ChangeSpec := { name := "chunkCuts", fn := fun _ => fun
  | [d1, d2] => { results := [.lit (.bool false)], args := [d1, d2] }
  | _ => none }
def ChunkCutsWrongFalsely : Prop := chunkCutsRow.holds Try.pinned (OpenSpec.ofChange chunkCutsWrong)

/-- 'larderlaw.LogRecovers': WHATEVER THE INPUT: true; the input reads as it did. -/
def logRecoversSpec : ChangeSpec := { name := "logRecovers", fn := fun _ => fun
  | [d] => { results := [.lit (.bool true)], args := [d] }
  | _ => none }
def logRecoversRow : OpenClaim := { program := "ytlonddgokafgkaa", sum := "be7dfdff619e6a1cb90b1d03954435c6c4027c46a40b7541daf474be3d352e7d", func := "larder/larderlaw.LogRecovers", spec := "logRecovers", recurses := true, apart := false }
def LogRecoversSaid : Prop := logRecoversRow.holds Try.pinned (OpenSpec.ofChange logRecoversSpec)

/-- ITS FALSE NEIGHBOUR: 'it returns false'. Refute it at one input. -/
def logRecoversWrong : ChangeSpec := { name := "logRecovers", fn := fun _ => fun
  | [d] => { results := [.lit (.bool false)], args := [d] }
  | _ => none }
def LogRecoversWrongFalsely : Prop := logRecoversRow.holds Try.pinned (OpenSpec.ofChange logRecoversWrong)

/-- 'larderlaw.SpanResolves': WHATEVER THE INPUT: true; the input reads as it did. -/
def spanResolvesSpec : ChangeSpec := { name := "spanResolves", fn := fun _ => fun
  | [d1, d2] => { results := [.lit (.bool true)], args := [d1, d2] }
  | _ => none }
def spanResolvesRow : OpenClaim := { program := "ytlonddgokafgkaa", sum := "be7dfdff619e6a1cb90b1d03954435c6c4027c46a40b7541daf474be3d352e7d", func := "larder/larderlaw.SpanResolves", spec := "spanResolves", unfollowed := true, recurses := true, apart := false }
def SpanResolvesSaid : Prop := spanResolvesRow.holds Try.pinned (OpenSpec.ofChange spanResolvesSpec)

/-- ITS FALSE NEIGHBOUR: 'it returns false'. Refute it at one input. -/
def spanResolvesWrong : ChangeSpec := { name := "spanResolves", fn := fun _ => fun
  | [d1, d2] => { results := [.lit (.bool false)], args := [d1, d2] }
  | _ => none }
def SpanResolvesWrongFalsely : Prop := spanResolvesRow.holds Try.pinned (OpenSpec.ofChange spanResolvesWrong)

/-- 'larderlaw.LogFrames': WHATEVER THE INPUT: true; the input reads as it did. -/
def logFramesSpec : ChangeSpec := { name := "logFrames", fn := fun _ => fun
  | [d1, d2, d3] => { results := [.lit (.bool true)], args := [d1, d2, d3] }
  | _ => none }
def logFramesRow : OpenClaim := { program := "ytlonddgokafgkaa", sum := "be7dfdff619e6a1cb90b1d03954435c6c4027c46a40b7541daf474be3d352e7d", func := "larder/larderlaw.LogFrames", spec := "logFrames", inPlace := ["internal/abi.NoEscape"], recurses := true, apart := false }
def LogFramesSaid : Prop := logFramesRow.holds Try.pinned (OpenSpec.ofChange logFramesSpec)

/-- ITS FALSE NEIGHBOUR: 'it returns false'. Refute it at one input. -/
def logFramesWrong : ChangeSpec := { name := "logFrames", fn := fun _ => fun
  | [d1, d2, d3] => { results := [.lit (.bool false)], args := [d1, d2, d3] }
  | _ => none }
def LogFramesWrongFalsely : Prop := logFramesRow.holds Try.pinned (OpenSpec.ofChange logFramesWrong)

/-- 'larderlaw.TokenSplits': WHATEVER THE INPUT: true; the input reads as it did. -/
def tokenSplitsSpec : ChangeSpec := { name := "tokenSplits", fn := fun _ => fun
  | [d] => { results := [.lit (.bool true)], args := [d] }
  | _ => none }
def tokenSplitsRow : OpenClaim := { program := "ytlonddgokafgkaa", sum := "be7dfdff619e6a1cb90b1d03954435c6c4027c46a40b7541daf474be3d352e7d", func := "larder/larderlaw.TokenSplits", spec := "tokenSplits", recurses := true, apart := false }
def TokenSplitsSaid : Prop := tokenSplitsRow.holds Try.pinned (OpenSpec.ofChange tokenSplitsSpec)

/-- ITS FALSE NEIGHBOUR: 'it returns false'. Refute it at one input. -/
def tokenSplitsWrong : ChangeSpec := { name := "tokenSplits", fn := fun _ => fun
  | [d] => { results := [.lit (.bool false)], args := [d] }
  | _ => none }
def TokenSplitsWrongFalsely : Prop := tokenSplitsRow.holds Try.pinned (OpenSpec.ofChange tokenSplitsWrong)

/-- 'larderlaw.FieldSets': WHATEVER THE INPUT: true; the input reads as it did. -/
def fieldSetsSpec : ChangeSpec := { name := "fieldSets", fn := fun _ => fun
  | [d1, d2, d3] => { results := [.lit (.bool true)], args := [d1, d2, d3] }
  | _ => none }
def fieldSetsRow : OpenClaim := { program := "ytlonddgokafgkaa", sum := "be7dfdff619e6a1cb90b1d03954435c6c4027c46a40b7541daf474be3d352e7d", func := "larder/larderlaw.FieldSets", spec := "fieldSets", inPlace := ["internal/bytealg.IndexByteString"], unfollowed := true, recurses := true, apart := false }
def FieldSetsSaid : Prop := fieldSetsRow.holds Try.pinned (OpenSpec.ofChange fieldSetsSpec)

/-- ITS FALSE NEIGHBOUR: 'it returns false'. Refute it at one input. -/
def fieldSetsWrong : ChangeSpec := { name := "fieldSets", fn := fun _ => fun
  | [d1, d2, d3] => { results := [.lit (.bool false)], args := [d1, d2, d3] }
  | _ => none }
def FieldSetsWrongFalsely : Prop := fieldSetsRow.holds Try.pinned (OpenSpec.ofChange fieldSetsWrong)

/- THE SECOND FORM. 'bulk': how many values and letters a reading holds, each counted each time it is reached (what is shared counts as often as it is met; a slice's spare places count too). A statement '..UptoSaid' is the law's where the arguments, and the package variables that the reading takes, are together of bulk at most 1048576: NARROWER than '..Said'. Prove '..Said' where nothing that the law and all that it calls make is longer than what came in: it says more and counts as full. Else prove '..UptoSaid'. A law counts once. -/
mutual
def uptoBulk {H : Type} : DataW H → Nat
  | .lit (.string bytes) => bytes.length + 1
  | .lit _ => 1
  | .nil => 1
  | .ptr d => uptoBulk d + 1
  | .slice elems spare => uptoBulkAll elems + uptoBulkAll spare + 1
  | .agg parts => uptoBulkAll parts + 1
  | .iface _ d => uptoBulk d + 1
  | .map entries => uptoBulkEntries entries + 1
  | .held _ => 1
def uptoBulkAll {H : Type} : List (DataW H) → Nat
  | [] => 0
  | d :: r => uptoBulk d + uptoBulkAll r
def uptoBulkEntries {H : Type} : List (Lit × DataW H) → Nat
  | [] => 0
  | x :: r => uptoBulkEntry x + uptoBulkEntries r
def uptoBulkEntry {H : Type} : Lit × DataW H → Nat
  | (.string bytes, d) => bytes.length + uptoBulk d + 1
  | (_, d) => uptoBulk d + 1
 end
def uptoSmall : (H : Type) → List (DataW H) → Bool := fun _ ds => decide (uptoBulkAll ds ≤ 1048576)
def OpenSpec.upto (s : _root_.Go.ChangeSpec) : _root_.Go.OpenSpec := { _root_.Go.OpenSpec.ofChange s with cond := some uptoSmall }

/-- 'larderlaw.Names', WHERE WHAT IT READS IS OF BULK AT MOST 1048576: true; the input reads as it did. -/
def namesUptoRow : OpenClaim := { program := "ytlonddgokafgkaa", sum := "be7dfdff619e6a1cb90b1d03954435c6c4027c46a40b7541daf474be3d352e7d", func := "larder/larderlaw.Names", spec := "names", apart := false, narrowed := true }
def NamesUptoSaid : Prop := namesUptoRow.holds Try.pinned (OpenSpec.upto namesSpec)

/-- 'larderlaw.LogCrc', WHERE WHAT IT READS IS OF BULK AT MOST 1048576: true; the input reads as it did. -/
def logCrcUptoRow : OpenClaim := { program := "ytlonddgokafgkaa", sum := "be7dfdff619e6a1cb90b1d03954435c6c4027c46a40b7541daf474be3d352e7d", func := "larder/larderlaw.LogCrc", spec := "logCrc", apart := false, narrowed := true }
def LogCrcUptoSaid : Prop := logCrcUptoRow.holds Try.pinned (OpenSpec.upto logCrcSpec)

/-- 'larderlaw.DateCivil', WHERE WHAT IT READS IS OF BULK AT MOST 1048576: true; the input reads as it did. -/
def dateCivilUptoRow : OpenClaim := { program := "ytlonddgokafgkaa", sum := "be7dfdff619e6a1cb90b1d03954435c6c4027c46a40b7541daf474be3d352e7d", func := "larder/larderlaw.DateCivil", spec := "dateCivil", apart := false, narrowed := true }
def DateCivilUptoSaid : Prop := dateCivilUptoRow.holds Try.pinned (OpenSpec.upto dateCivilSpec)

/-- 'larderlaw.TokenUnquotes', WHERE WHAT IT READS IS OF BULK AT MOST 1048576: true; the input reads as it did. -/
def tokenUnquotesUptoRow : OpenClaim := { program := "ytlonddgokafgkaa", sum := "be7dfdff619e6a1cb90b1d03954435c6c4027c46a40b7541daf474be3d352e7d", func := "larder/larderlaw.TokenUnquotes", spec := "tokenUnquotes", apart := false, narrowed := true }
def TokenUnquotesUptoSaid : Prop := tokenUnquotesUptoRow.holds Try.pinned (OpenSpec.upto tokenUnquotesSpec)

/-- 'larderlaw.DateDays', WHERE WHAT IT READS IS OF BULK AT MOST 1048576: true; the input reads as it did. -/
def dateDaysUptoRow : OpenClaim := { program := "ytlonddgokafgkaa", sum := "be7dfdff619e6a1cb90b1d03954435c6c4027c46a40b7541daf474be3d352e7d", func := "larder/larderlaw.DateDays", spec := "dateDays", apart := false, narrowed := true }
def DateDaysUptoSaid : Prop := dateDaysUptoRow.holds Try.pinned (OpenSpec.upto dateDaysSpec)

/-- 'larderlaw.ChunkComes', WHERE WHAT IT READS IS OF BULK AT MOST 1048576: true; the input reads as it did. -/
def chunkComesUptoRow : OpenClaim := { program := "ytlonddgokafgkaa", sum := "be7dfdff619e6a1cb90b1d03954435c6c4027c46a40b7541daf474be3d352e7d", func := "larder/larderlaw.ChunkComes", spec := "chunkComes", unfollowed := true, recurses := true, apart := false, narrowed := true }
def ChunkComesUptoSaid : Prop := chunkComesUptoRow.holds Try.pinned (OpenSpec.upto chunkComesSpec)

/-- 'larderlaw.ChunkCuts', WHERE WHAT IT READS IS OF BULK AT MOST 1048576: true; the input reads as it did. -/
def chunkCutsUptoRow : OpenClaim := { program := "ytlonddgokafgkaa", sum := "be7dfdff619e6a1cb90b1d03954435c6c4027c46a40b7541daf474be3d352e7d", func := "larder/larderlaw.ChunkCuts", spec := "chunkCuts", unfollowed := true, recurses := true, apart := false, narrowed := true }
def ChunkCutsUptoSaid : Prop := chunkCutsUptoRow.holds Try.pinned (OpenSpec.upto chunkCutsSpec)

/-- 'larderlaw.LogRecovers', WHERE WHAT IT READS IS OF BULK AT MOST 1048576: true; the input reads as it did. -/
def logRecoversUptoRow : OpenClaim := { program := "ytlonddgokafgkaa", sum := "be7dfdff619e6a1cb90b1d03954435c6c4027c46a40b7541daf474be3d352e7d", func := "larder/larderlaw.LogRecovers", spec := "logRecovers", recurses := true, apart := false, narrowed := true }
def LogRecoversUptoSaid : Prop := logRecoversUptoRow.holds Try.pinned (OpenSpec.upto logRecoversSpec)

/-- 'larderlaw.SpanResolves', WHERE WHAT IT READS IS OF BULK AT MOST 1048576: true; the input reads as it did. -/
def spanResolvesUptoRow : OpenClaim := { program := "ytlonddgokafgkaa", sum := "be7dfdff619e6a1cb90b1d03954435c6c4027c46a40b7541daf474be3d352e7d", func := "larder/larderlaw.SpanResolves", spec := "spanResolves", unfollowed := true, recurses := true, apart := false, narrowed := true }
def SpanResolvesUptoSaid : Prop := spanResolvesUptoRow.holds Try.pinned (OpenSpec.upto spanResolvesSpec)

/-- 'larderlaw.LogFrames', WHERE WHAT IT READS IS OF BULK AT MOST 1048576: true; the input reads as it did. -/
def logFramesUptoRow : OpenClaim := { program := "ytlonddgokafgkaa", sum := "be7dfdff619e6a1cb90b1d03954435c6c4027c46a40b7541daf474be3d352e7d", func := "larder/larderlaw.LogFrames", spec := "logFrames", inPlace := ["internal/abi.NoEscape"], recurses := true, apart := false, narrowed := true }
def LogFramesUptoSaid : Prop := logFramesUptoRow.holds Try.pinned (OpenSpec.upto logFramesSpec)

/-- 'larderlaw.TokenSplits', WHERE WHAT IT READS IS OF BULK AT MOST 1048576: true; the input reads as it did. -/
def tokenSplitsUptoRow : OpenClaim := { program := "ytlonddgokafgkaa", sum := "be7dfdff619e6a1cb90b1d03954435c6c4027c46a40b7541daf474be3d352e7d", func := "larder/larderlaw.TokenSplits", spec := "tokenSplits", recurses := true, apart := false, narrowed := true }
def TokenSplitsUptoSaid : Prop := tokenSplitsUptoRow.holds Try.pinned (OpenSpec.upto tokenSplitsSpec)

/-- 'larderlaw.FieldSets', WHERE WHAT IT READS IS OF BULK AT MOST 1048576: true; the input reads as it did. -/
def fieldSetsUptoRow : OpenClaim := { program := "ytlonddgokafgkaa", sum := "be7dfdff619e6a1cb90b1d03954435c6c4027c46a40b7541daf474be3d352e7d", func := "larder/larderlaw.FieldSets", spec := "fieldSets", inPlace := ["internal/bytealg.IndexByteString"], unfollowed := true, recurses := true, apart := false, narrowed := true }
def FieldSetsUptoSaid : Prop := fieldSetsUptoRow.holds Try.pinned (OpenSpec.upto fieldSetsSpec)

end Rows
end Go.Proofs.Ytlonddgokafgkaa
