/- Walks: lower case, the program's. -/
import Derived.Test.YtfgjbflddabdcaaDoorSpecLow
import Derived.Test.YtfgjbflddabdcaaDoorChecked
namespace Go.Proofs.YtfgjbflddabdcaaDoor
open Go.RowKit Go.Larder
set_option linter.unusedVariables false
set_option linter.unusedSimpArgs false

end Go.Proofs.YtfgjbflddabdcaaDoor
