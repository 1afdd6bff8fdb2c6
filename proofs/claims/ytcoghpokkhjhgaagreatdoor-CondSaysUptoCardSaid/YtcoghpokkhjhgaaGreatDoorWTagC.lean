/- Walks: the two comparisons of tags. -/
import Derived.Test.YtcoghpokkhjhgaaGreatDoorWTag
namespace Go.Proofs.YtcoghpokkhjhgaaGreatDoor
open Go.RowKit Go.Larder
set_option linter.unusedVariables false
set_option linter.unusedSimpArgs false
theorem w_Strong (a b : Bool) (s t : List UInt8) (w : World) :
    Calls Tryz.prog 11 #[.agg #[.bool a, S s], .agg #[.bool b, S t]] w fun e w' => e = .returned (.bool (!a && !b && (s == t))) ∧ Below w.heap.size w w' := by
  cases a <;> cases b <;> (
    go_enter Tryz.func11, Tryz.ntmps11
    go_wp2_with fail
    go_ret
    exact ⟨ret_bool (by simp), by go_grown⟩)
theorem w_Weak (a b : Bool) (s t : List UInt8) (w : World) :
    Calls Tryz.prog 13 #[.agg #[.bool a, S s], .agg #[.bool b, S t]] w fun e w' => e = .returned (.bool (s == t)) ∧ Below w.heap.size w w' := by
  go_enter Tryz.func13, Tryz.ntmps13
  go_wp2_with fail
  go_ret
  exact ⟨ret_bool (by simp), by go_grown⟩
end Go.Proofs.YtcoghpokkhjhgaaGreatDoor
