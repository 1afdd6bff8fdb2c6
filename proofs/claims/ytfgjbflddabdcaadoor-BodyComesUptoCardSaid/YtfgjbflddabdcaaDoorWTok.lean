/- Walks through package token: each function returns what its Lean function computes. -/
import Derived.Test.YtfgjbflddabdcaaDoorChecked
import Derived.Test.YtfgjbflddabdcaaDoorSpecTok
namespace Go.Proofs.YtfgjbflddabdcaaDoor
open Go.RowKit Go.Larder
set_option linter.unusedVariables false
set_option linter.unusedSimpArgs false

theorem sl_u8 : SlT Tryd.prog 57 5 1 1 := SlT.mk' (z := .int .u8 0) Tryd.underlying57 (by kernel_rfl) rfl

end Go.Proofs.YtfgjbflddabdcaaDoor
