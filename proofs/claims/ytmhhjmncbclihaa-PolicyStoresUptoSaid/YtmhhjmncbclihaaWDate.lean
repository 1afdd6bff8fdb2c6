/- Walks through package date's Civil and Days and the references' Civil and Days. -/
import Derived.Test.YtmhhjmncbclihaaChecked
import Derived.Test.YtmhhjmncbclihaaSpecs
import Derived.Test.YtmhhjmncbclihaaWRef0
namespace Go.Proofs.Ytmhhjmncbclihaa
open Go.RowKit Go.Larder
set_option linter.unusedVariables false
set_option linter.unusedSimpArgs false

/-- A month's list lies in new memory. -/
def MonthsAt (y : Int) (w : World) (e : Ending) (w' : World) : Prop :=
  ∃ g : Nat, e = .returned (.slice (some ⟨g, 0, none⟩) 12 12) ∧ (∀ m : Nat, m < 12 → w'.cell? ⟨g, m, none⟩ = some (.int .i64 (md y m))) ∧ Below w.heap.size w w'

theorem ret_civil {a b c y m r : Int} (h1 : a = y) (h2 : b = m) (h3 : c = r) : Ending.returned (.tuple #[.int .i64 a, .int .i64 b, .int .i64 c, .int .i64 0]) = .returned (.tuple #[.int .i64 y, .int .i64 m, .int .i64 r, .int .i64 0]) := by subst h1 h2 h3; rfl

end Go.Proofs.Ytmhhjmncbclihaa
