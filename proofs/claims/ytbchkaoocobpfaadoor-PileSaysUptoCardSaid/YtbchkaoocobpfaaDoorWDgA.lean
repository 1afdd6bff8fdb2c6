/- Walks: digests: a block. -/
import Derived.Test.YtbchkaoocobpfaaDoorWDgI
import Derived.Test.YtbchkaoocobpfaaDoorSpecs
import Derived.Deep.DeepCutAuto
namespace Go.Proofs.YtbchkaoocobpfaaDoor
open Go.RowKit Go.Larder
set_option linter.unusedVariables false
set_option linter.unusedSimpArgs false
theorem eight {h : List Nat} (hl : h.length = 8) : ∃ h0 h1 h2 h3 h4 h5 h6 h7, h = [h0, h1, h2, h3, h4, h5, h6, h7] := by
  match h, hl with
  | [a, b, c, d, e, f, g, i], _ => exact ⟨a, b, c, d, e, f, g, i, rfl⟩
theorem info_u32 : ((Tryd.prog).info? 56).map (·.size) = some 1 := by kernel_rfl
theorem cast_mod (m : Nat) : ((m : Int) % 4294967296) = ((m % 4294967296 : Nat) : Int) := by omega
theorem cast_div (m : Nat) : ((m : Int) / 4294967296) = ((m / 4294967296 : Nat) : Int) := by omega
theorem start_box (h0 h1 h2 h3 h4 h5 h6 h7 many : Nat) (last : Bool) : (startV [h0, h1, h2, h3, h4, h5, h6, h7] many last).map U = [.int .u32 (h0 : Nat), .int .u32 (h1 : Nat), .int .u32 (h2 : Nat), .int .u32 (h3 : Nat), .int .u32 (h4 : Nat), .int .u32 (h5 : Nat), .int .u32 (h6 : Nat), .int .u32 (h7 : Nat), .int .u32 1779033703, .int .u32 3144134277, .int .u32 1013904242, .int .u32 2773480762,
    .int .u32 ((1359893119 ^^^ many % 4294967296 : Nat) : Int), .int .u32 ((2600822924 ^^^ many / 4294967296 % 4294967296 : Nat) : Int), .int .u32 (if last then 3766232660 else 528734635), .int .u32 1541459225] := by
  cases last <;> simp [startV, ivN, U]
end Go.Proofs.YtbchkaoocobpfaaDoor
