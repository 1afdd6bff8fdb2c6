/- Walks: the two comparisons of tags. -/
import Derived.Test.YtbblihfkfgmfaaaWTag
namespace Go.Proofs.Ytbblihfkfgmfaaa
open Go.RowKit Go.Larder
set_option linter.unusedVariables false
set_option linter.unusedSimpArgs false
theorem w_Strong (a b : Bool) (s t : List UInt8) (w : World) :
    Calls Try.prog 8 #[.agg #[.bool a, S s], .agg #[.bool b, S t]] w fun e w' => e = .returned (.bool (!a && !b && (s == t))) ∧ Below w.heap.size w w' := by
  cases a <;> cases b <;> (
    go_enter Try.func8, Try.ntmps8
    go_wp2_with fail
    go_ret
    exact ⟨ret_bool (by simp), by go_grown⟩)
theorem w_Weak (a b : Bool) (s t : List UInt8) (w : World) :
    Calls Try.prog 9 #[.agg #[.bool a, S s], .agg #[.bool b, S t]] w fun e w' => e = .returned (.bool (s == t)) ∧ Below w.heap.size w w' := by
  go_enter Try.func9, Try.ntmps9
  go_wp2_with fail
  go_ret
  exact ⟨ret_bool (by simp), by go_grown⟩
end Go.Proofs.Ytbblihfkfgmfaaa
