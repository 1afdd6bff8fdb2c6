/- Walks through date.Days and the reference's Days. -/
import Derived.Test.YtmhhjmncbclihaaWDate
import Derived.Test.YtmhhjmncbclihaaSpecs
namespace Go.Proofs.Ytmhhjmncbclihaa
open Go.RowKit Go.Larder
set_option linter.unusedVariables false
set_option linter.unusedSimpArgs false

/-- What Days answers. -/
def days (y m d : Int) : Int × Int := if daysIn y m d then (yd y + cum y (m - 1).toNat + d - 1, 0) else (0, 1)

end Go.Proofs.Ytmhhjmncbclihaa
