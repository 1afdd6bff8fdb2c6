/-
  No cell of these rows narrows 'for every input' (looked for: loops, veiled, ifaces, maps, wideKeys, modest, calm, conditions, laid).
  DERIVED. THE GIVEN ROWS OF THIS SEAT. 7 by the template 'for every input the law returns true; each argument reads behind the call as it read before'; 0 by the template 'total and deterministic' (their statements: YtmhhjmncbclihaaTotals.lean).
  GIVEN WITH THE SEED: the statements are not yours to turn. If you find one false, say at which input.
  Laid BY PROGRAM, IN A SANDBOX (cutbox-rows.mjs): the forced cells as the released guide's own fill.sh prints them over the translation f2b122fcf60aa9f4… (all of the seat's roots in one cut). By AI agents, Wed Nov 11 2026. No macro, syntax, notation, axiom, sorry.
-/
import Derived.Test.YtmhhjmncbclihaaChecked
import GoSem.Claim
import GoSem.ClaimJoined
import GoSem.ClaimMapViews
import Derived.JoinedTies
import Derived.KernelRfl
namespace Go.Proofs.Ytmhhjmncbclihaa
/- THE CELL 'sum', in the pinned program and in every row, IS THE sha256 OF THE DUMP (.gsa) THAT YtmhhjmncbclihaaProg.lean LOADS. Nothing in Lean hashes anything: it is a label: what it is worth is what the hold of that sum in a sandbox is worth. -/
noncomputable def Try.pinned : Pinned := { name := "ytmhhjmncbclihaa", sum := "f2b122fcf60aa9f4e292835d5cd3155d8affad497c8512ff64423882ce4a5c37", checked := Try.checked }
namespace Rows
def none {H : Type} : Left H := { results := [], args := [] }

/-- 'larderlaw.ChunkComes': WHATEVER THE INPUT: true; the input reads as it did. -/
def chunkComesSpec : ChangeSpec := { name := "chunkComes", fn := fun _ => fun
  | [d1, d2] => { results := [.lit (.bool true)], args := [d1, d2] }
  | _ => none }
def chunkComesRow : OpenClaim := { program := "ytmhhjmncbclihaa", sum := "f2b122fcf60aa9f4e292835d5cd3155d8affad497c8512ff64423882ce4a5c37", func := "larder/larderlaw.ChunkComes", spec := "chunkComes", unfollowed := true, recurses := true, apart := false }
def ChunkComesSaid : Prop := chunkComesRow.holds Try.pinned (OpenSpec.ofChange chunkComesSpec)

/-- ITS FALSE NEIGHBOUR: 'it returns false'. Refute it at one input. -/
def chunkComesWrong : ChangeSpec := { name := "chunkComes", fn := fun _ => fun
  | [d1, d2] => { results := [.lit (.bool false)], args := [d1, d2] }
  | _ => none }
def ChunkComesWrongFalsely : Prop := chunkComesRow.holds Try.pinned (OpenSpec.ofChange chunkComesWrong)

/-- 'larderlaw.ChunkCuts': WHATEVER THE INPUT: true; the input reads as it did. -/
def chunkCutsSpec : ChangeSpec := { name := "chunkCuts", fn := fun _ => fun
  | [d1, d2] => { results := [.lit (.bool true)], args := [d1, d2] }
  | _ => none }
def chunkCutsRow : OpenClaim := { program := "ytmhhjmncbclihaa", sum := "f2b122fcf60aa9f4e292835d5cd3155d8affad497c8512ff64423882ce4a5c37", func := "larder/larderlaw.ChunkCuts", spec := "chunkCuts", unfollowed := true, recurses := true, apart := false }
def ChunkCutsSaid : Prop := chunkCutsRow.holds Try.pinned (OpenSpec.ofChange chunkCutsSpec)

/-- ITS FALSE NEIGHBOUR: 'it returns false'. Refute it at one input. -/
def chunkCutsWrong : ChangeSpec := { name := "chunkCuts", fn := fun _ => fun
  | [d1, d2] => { results := [.lit (.bool false)], args := [d1, d2] }
  | _ => none }
def ChunkCutsWrongFalsely : Prop := chunkCutsRow.holds Try.pinned (OpenSpec.ofChange chunkCutsWrong)

/-- 'larderlaw.RowSays': WHATEVER THE INPUT: true; the input reads as it did. -/
def rowSaysSpec : ChangeSpec := { name := "rowSays", fn := fun _ => fun
  | [d1, d2] => { results := [.lit (.bool true)], args := [d1, d2] }
  | _ => none }
def rowSaysRow : OpenClaim := { program := "ytmhhjmncbclihaa", sum := "f2b122fcf60aa9f4e292835d5cd3155d8affad497c8512ff64423882ce4a5c37", func := "larder/larderlaw.RowSays", spec := "rowSays", unfollowed := true, recurses := true, apart := false }
def RowSaysSaid : Prop := rowSaysRow.holds Try.pinned (OpenSpec.ofChange rowSaysSpec)

/-- ITS FALSE NEIGHBOUR: 'it returns false'. Refute it at one input. -/
def rowSaysWrong : ChangeSpec := { name := "rowSays", fn := fun _ => fun
  | [d1, d2] => { results := [.lit (.bool false)], args := [d1, d2] }
  | _ => none }
def RowSaysWrongFalsely : Prop := rowSaysRow.holds Try.pinned (OpenSpec.ofChange rowSaysWrong)

/-- 'larderlaw.BookSays': WHATEVER THE INPUT: true; the input reads as it did. -/
def bookSaysSpec : ChangeSpec := { name := "bookSays", fn := fun _ => fun
  | [d] => { results := [.lit (.bool true)], args := [d] }
  | _ => none }
def bookSaysRow : OpenClaim := { program := "ytmhhjmncbclihaa", sum := "f2b122fcf60aa9f4e292835d5cd3155d8affad497c8512ff64423882ce4a5c37", func := "larder/larderlaw.BookSays", spec := "bookSays", inPlace := ["internal/abi.NoEscape"], unfollowed := true, recurses := true, apart := false }
def BookSaysSaid : Prop := bookSaysRow.holds Try.pinned (OpenSpec.ofChange bookSaysSpec)

/-- ITS FALSE NEIGHBOUR: 'it returns false'. Refute it at one input. -/
def bookSaysWrong : ChangeSpec := { name := "bookSays", fn := fun _ => fun
  | [d] => { results := [.lit (.bool false)], args := [d] }
  | _ => none }
def BookSaysWrongFalsely : Prop := bookSaysRow.holds Try.pinned (OpenSpec.ofChange bookSaysWrong)

/-- 'larderlaw.BookOpens': WHATEVER THE INPUT: true; the input reads as it did. -/
def bookOpensSpec : ChangeSpec := { name := "bookOpens", fn := fun _ => fun
  | [d1, d2] => { results := [.lit (.bool true)], args := [d1, d2] }
  | _ => none }
def bookOpensRow : OpenClaim := { program := "ytmhhjmncbclihaa", sum := "f2b122fcf60aa9f4e292835d5cd3155d8affad497c8512ff64423882ce4a5c37", func := "larder/larderlaw.BookOpens", spec := "bookOpens", inPlace := ["internal/abi.NoEscape"], unfollowed := true, recurses := true, apart := false }
def BookOpensSaid : Prop := bookOpensRow.holds Try.pinned (OpenSpec.ofChange bookOpensSpec)

/-- ITS FALSE NEIGHBOUR: 'it returns false'. Refute it at one input. -/
def bookOpensWrong : ChangeSpec := { name := "bookOpens", fn := fun _ => fun
  | [d1, d2] => { results := [.lit (.bool false)], args := [d1, d2] }
  | _ => none }
def BookOpensWrongFalsely : Prop := bookOpensRow.holds Try.pinned (OpenSpec.ofChange bookOpensWrong)

/-- 'larderlaw.VarySays': WHATEVER THE INPUT: true; the input reads as it did. -/
def varySaysSpec : ChangeSpec := { name := "varySays", fn := fun _ => fun
  | [d1, d2, d3] => { results := [.lit (.bool true)], args := [d1, d2, d3] }
  | _ => none }
def varySaysRow : OpenClaim := { program := "ytmhhjmncbclihaa", sum := "f2b122fcf60aa9f4e292835d5cd3155d8affad497c8512ff64423882ce4a5c37", func := "larder/larderlaw.VarySays", spec := "varySays", inPlace := ["internal/abi.NoEscape", "internal/bytealg.MakeNoZero", "internal/bytealg.IndexByteString", "internal/bytealg.IndexString"], unfollowed := true, recurses := true, named := ["internal/bytealg.MaxLen"], apart := false }
def VarySaysSaid : Prop := varySaysRow.holds Try.pinned (OpenSpec.ofChange varySaysSpec)

/-- ITS FALSE NEIGHBOUR: 'it returns false'. Refute it at one input. -/
def varySaysWrong : ChangeSpec := { name := "varySays", fn := fun _ => fun
  | [d1, d2, d3] => { results := [.lit (.bool false)], args := [d1, d2, d3] }
  | _ => none }
def VarySaysWrongFalsely : Prop := varySaysRow.holds Try.pinned (OpenSpec.ofChange varySaysWrong)

/-- 'larderlaw.PolicyStores': WHATEVER THE INPUT: true; the input reads as it did. -/
def policyStoresSpec : ChangeSpec := { name := "policyStores", fn := fun _ => fun
  | [d1, d2] => { results := [.lit (.bool true)], args := [d1, d2] }
  | _ => none }
def policyStoresRow : OpenClaim := { program := "ytmhhjmncbclihaa", sum := "f2b122fcf60aa9f4e292835d5cd3155d8affad497c8512ff64423882ce4a5c37", func := "larder/larderlaw.PolicyStores", spec := "policyStores", inPlace := ["internal/abi.NoEscape", "internal/bytealg.MakeNoZero", "internal/bytealg.IndexByteString", "internal/bytealg.IndexString"], unfollowed := true, recurses := true, named := ["internal/bytealg.MaxLen"], apart := false }
def PolicyStoresSaid : Prop := policyStoresRow.holds Try.pinned (OpenSpec.ofChange policyStoresSpec)

/-- ITS FALSE NEIGHBOUR: 'it returns false'. Refute it at one input. -/
def policyStoresWrong : ChangeSpec := { name := "policyStores", fn := fun _ => fun
  | [d1, d2] => { results := [.lit (.bool false)], args := [d1, d2] }
  | _ => none }
def PolicyStoresWrongFalsely : Prop := policyStoresRow.holds Try.pinned (OpenSpec.ofChange policyStoresWrong)

/- THE SECOND FORM. 'bulk': how many values and letters a reading holds, each counted each time it is reached (what is shared counts as often as it is met; a slice's spare places count too). A statement '..UptoSaid' is the law's where the arguments, and the package variables that the reading takes, are together of bulk at most 1048576: NARROWER than '..Said'. Prove '..Said' where nothing that the law and all that it calls make is longer than what came in: it says more and counts as full. Else prove '..UptoSaid'. A law counts once. -/
mutual
def uptoBulk {H : Type} : DataW H → Nat
  | .lit (.string bytes) => bytes.length + 1
  | .lit _ => 1
  | .nil => 1
  | .ptr d => uptoBulk d + 1
  | .slice elems spare => uptoBulkAll elems + uptoBulkAll spare + 1
  | .agg parts => uptoBulkAll parts + 1
  | .iface _ d => uptoBulk d + 1
  | .map entries => uptoBulkEntries entries + 1
  | .held _ => 1
def uptoBulkAll {H : Type} : List (DataW H) → Nat
  | [] => 0
  | d :: r => uptoBulk d + uptoBulkAll r
def uptoBulkEntries {H : Type} : List (Lit × DataW H) → Nat
  | [] => 0
  | x :: r => uptoBulkEntry x + uptoBulkEntries r
def uptoBulkEntry {H : Type} : Lit × DataW H → Nat
  | (.string bytes, d) => bytes.length + uptoBulk d + 1
  | (_, d) => uptoBulk d + 1
 end
def uptoSmall : (H : Type) → List (DataW H) → Bool := fun _ ds => decide (uptoBulkAll ds ≤ 1048576)
def OpenSpec.upto (s : _root_.Go.ChangeSpec) : _root_.Go.OpenSpec := { _root_.Go.OpenSpec.ofChange s with cond := some uptoSmall }

/-- 'larderlaw.ChunkComes', WHERE WHAT IT READS IS OF BULK AT MOST 1048576: true; the input reads as it did. -/
def chunkComesUptoRow : OpenClaim := { program := "ytmhhjmncbclihaa", sum := "f2b122fcf60aa9f4e292835d5cd3155d8affad497c8512ff64423882ce4a5c37", func := "larder/larderlaw.ChunkComes", spec := "chunkComes", unfollowed := true, recurses := true, apart := false, narrowed := true }
def ChunkComesUptoSaid : Prop := chunkComesUptoRow.holds Try.pinned (OpenSpec.upto chunkComesSpec)

/-- 'larderlaw.ChunkCuts', WHERE WHAT IT READS IS OF BULK AT MOST 1048576: true; the input reads as it did. -/
def chunkCutsUptoRow : OpenClaim := { program := "ytmhhjmncbclihaa", sum := "f2b122fcf60aa9f4e292835d5cd3155d8affad497c8512ff64423882ce4a5c37", func := "larder/larderlaw.ChunkCuts", spec := "chunkCuts", unfollowed := true, recurses := true, apart := false, narrowed := true }
def ChunkCutsUptoSaid : Prop := chunkCutsUptoRow.holds Try.pinned (OpenSpec.upto chunkCutsSpec)

/-- 'larderlaw.RowSays', WHERE WHAT IT READS IS OF BULK AT MOST 1048576: true; the input reads as it did. -/
def rowSaysUptoRow : OpenClaim := { program := "ytmhhjmncbclihaa", sum := "f2b122fcf60aa9f4e292835d5cd3155d8affad497c8512ff64423882ce4a5c37", func := "larder/larderlaw.RowSays", spec := "rowSays", unfollowed := true, recurses := true, apart := false, narrowed := true }
def RowSaysUptoSaid : Prop := rowSaysUptoRow.holds Try.pinned (OpenSpec.upto rowSaysSpec)

/-- 'larderlaw.BookSays', WHERE WHAT IT READS IS OF BULK AT MOST 1048576: true; the input reads as it did. -/
def bookSaysUptoRow : OpenClaim := { program := "ytmhhjmncbclihaa", sum := "f2b122fcf60aa9f4e292835d5cd3155d8affad497c8512ff64423882ce4a5c37", func := "larder/larderlaw.BookSays", spec := "bookSays", inPlace := ["internal/abi.NoEscape"], unfollowed := true, recurses := true, apart := false, narrowed := true }
def BookSaysUptoSaid : Prop := bookSaysUptoRow.holds Try.pinned (OpenSpec.upto bookSaysSpec)

/-- 'larderlaw.BookOpens', WHERE WHAT IT READS IS OF BULK AT MOST 1048576: true; the input reads as it did. -/
def bookOpensUptoRow : OpenClaim := { program := "ytmhhjmncbclihaa", sum := "f2b122fcf60aa9f4e292835d5cd3155d8affad497c8512ff64423882ce4a5c37", func := "larder/larderlaw.BookOpens", spec := "bookOpens", inPlace := ["internal/abi.NoEscape"], unfollowed := true, recurses := true, apart := false, narrowed := true }
def BookOpensUptoSaid : Prop := bookOpensUptoRow.holds Try.pinned (OpenSpec.upto bookOpensSpec)

/-- 'larderlaw.VarySays', WHERE WHAT IT READS IS OF BULK AT MOST 1048576: true; the input reads as it did. -/
def varySaysUptoRow : OpenClaim := { program := "ytmhhjmncbclihaa", sum := "f2b122fcf60aa9f4e292835d5cd3155d8affad497c8512ff64423882ce4a5c37", func := "larder/larderlaw.VarySays", spec := "varySays", inPlace := ["internal/abi.NoEscape", "internal/bytealg.MakeNoZero", "internal/bytealg.IndexByteString", "internal/bytealg.IndexString"], unfollowed := true, recurses := true, named := ["internal/bytealg.MaxLen"], apart := false, narrowed := true }
def VarySaysUptoSaid : Prop := varySaysUptoRow.holds Try.pinned (OpenSpec.upto varySaysSpec)

/-- 'larderlaw.PolicyStores', WHERE WHAT IT READS IS OF BULK AT MOST 1048576: true; the input reads as it did. -/
def policyStoresUptoRow : OpenClaim := { program := "ytmhhjmncbclihaa", sum := "f2b122fcf60aa9f4e292835d5cd3155d8affad497c8512ff64423882ce4a5c37", func := "larder/larderlaw.PolicyStores", spec := "policyStores", inPlace := ["internal/abi.NoEscape", "internal/bytealg.MakeNoZero", "internal/bytealg.IndexByteString", "internal/bytealg.IndexString"], unfollowed := true, recurses := true, named := ["internal/bytealg.MaxLen"], apart := false, narrowed := true }
def PolicyStoresUptoSaid : Prop := policyStoresUptoRow.holds Try.pinned (OpenSpec.upto policyStoresSpec)

end Rows
end Go.Proofs.Ytmhhjmncbclihaa
