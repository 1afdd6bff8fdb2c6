/- Walks through the references' function outside. -/
import Derived.Test.YtbchkaoocobpfaaDoorChecked
import Derived.Test.YtbchkaoocobpfaaDoorSpecs
namespace Go.Proofs.YtbchkaoocobpfaaDoor
open Go.RowKit Go.Larder
set_option linter.unusedVariables false
set_option linter.unusedSimpArgs false

theorem w_outside (n lo hi : Int) (w : World) :
    Calls Tryd.prog 38 #[.int .i64 n, .int .i64 lo, .int .i64 hi] w fun e w' => e = .returned (.bool (decide (n < lo) || decide (hi < n))) ∧ w = w' := by
  by_cases h : n < lo
  · have H := Lib.hid (show decide (n < lo) = true from by simpa using h)
    go_enter Tryd.func38, Tryd.ntmps38
    go_wp2
    go_ret
    exact ⟨ret_bool (by rw [H.out]; rfl), rfl⟩
  · have H := Lib.hid (show decide (n < lo) = false from by simpa using h)
    go_enter Tryd.func38, Tryd.ntmps38
    go_wp2
    go_ret
    exact ⟨ret_bool (by rw [H.out]; rfl), rfl⟩

end Go.Proofs.YtbchkaoocobpfaaDoor
