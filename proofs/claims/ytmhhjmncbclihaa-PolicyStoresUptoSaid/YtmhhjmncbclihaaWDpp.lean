/- Walk: date.Parse. -/
import Derived.Test.YtmhhjmncbclihaaWDtp
import Derived.Test.YtmhhjmncbclihaaWDtpR
import Derived.Test.YtmhhjmncbclihaaWDays
import Derived.Test.YtmhhjmncbclihaaWNum
import Derived.Test.YtmhhjmncbclihaaWLib
import Derived.Test.YtmhhjmncbclihaaWDpo
namespace Go.Proofs.Ytmhhjmncbclihaa
open Go.RowKit Go.Larder
set_option linter.unusedVariables false
set_option linter.unusedSimpArgs false

theorem mon3 {j k : Nat} (h : ((3 * k : Nat) : Int) = (j : Int)) : j = 3 * k := by omega
end Go.Proofs.Ytmhhjmncbclihaa
