/- Walks: lower case, the program's. -/
import Derived.Test.YtgjikbhehijnaaaDoorSpecLow
import Derived.Test.YtgjikbhehijnaaaDoorChecked
namespace Go.Proofs.YtgjikbhehijnaaaDoor
open Go.RowKit Go.Larder
set_option linter.unusedVariables false
set_option linter.unusedSimpArgs false

end Go.Proofs.YtgjikbhehijnaaaDoor
