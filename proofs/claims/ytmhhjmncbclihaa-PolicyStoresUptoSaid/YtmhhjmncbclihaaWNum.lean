/- Walks: texts of digits read as numbers: the program's number (dates), the reference's count. -/
import Derived.Test.YtmhhjmncbclihaaChecked
import Derived.Test.YtmhhjmncbclihaaSpecs
namespace Go.Proofs.Ytmhhjmncbclihaa
open Go.RowKit Go.Larder
set_option linter.unusedVariables false
set_option linter.unusedSimpArgs false
end Go.Proofs.Ytmhhjmncbclihaa
