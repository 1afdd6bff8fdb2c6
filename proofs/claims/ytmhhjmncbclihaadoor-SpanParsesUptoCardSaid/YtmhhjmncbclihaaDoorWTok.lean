/- Walks through package token: each function returns what its Lean function computes. -/
import Derived.Test.YtmhhjmncbclihaaDoorChecked
import Derived.Test.YtmhhjmncbclihaaDoorSpecTok
namespace Go.Proofs.YtmhhjmncbclihaaDoor
open Go.RowKit Go.Larder
set_option linter.unusedVariables false
set_option linter.unusedSimpArgs false

theorem sl_u8 : SlT Tryd.prog 73 5 1 1 := SlT.mk' (z := .int .u8 0) Tryd.underlying73 (by kernel_rfl) rfl

end Go.Proofs.YtmhhjmncbclihaaDoor
