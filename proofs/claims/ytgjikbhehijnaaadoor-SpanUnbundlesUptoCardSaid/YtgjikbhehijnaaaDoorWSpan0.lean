/- Walks: what is asked for, checked. -/
import Derived.Test.YtgjikbhehijnaaaDoorSpecSpan
import Derived.Test.YtgjikbhehijnaaaDoorChecked
namespace Go.Proofs.YtgjikbhehijnaaaDoor
open Go.RowKit Go.Larder
set_option linter.unusedVariables false
set_option linter.unusedSimpArgs false

theorem w_isNumber (n : Int) (w : World) : Calls Tryd.prog 96 #[.int .i64 n] w (fun e w' => e = .returned (.bool (isNum n)) ∧ w = w') := by
  unfold isNum
  go_enter Tryd.func96, Tryd.ntmps96
  by_cases h1 : 0 ≤ n <;> by_cases h2 : n ≤ 99999
  all_goals
    go_wp2_with fail
    go_ret
    simp [h1, h2]

theorem w_outside (n a b : Int) (w : World) : Calls Tryd.prog 42 #[.int .i64 n, .int .i64 a, .int .i64 b] w (fun e w' => e = .returned (.bool (decide (n < a) || decide (b < n))) ∧ w = w') := by
  go_enter Tryd.func42, Tryd.ntmps42
  by_cases h1 : n < a <;> by_cases h2 : b < n
  all_goals
    go_wp2_with fail
    go_ret
    simp [h1, h2]

end Go.Proofs.YtgjikbhehijnaaaDoor
