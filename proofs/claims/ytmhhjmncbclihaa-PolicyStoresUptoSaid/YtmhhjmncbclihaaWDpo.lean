/- What reading a date answers. -/
import Derived.Test.YtmhhjmncbclihaaWDtp
import Derived.Test.YtmhhjmncbclihaaSpecs
namespace Go.Proofs.Ytmhhjmncbclihaa
open Go.RowKit Go.Larder
set_option linter.unusedVariables false
set_option linter.unusedSimpArgs false

/-- What reading a date answers: its number, or nothing and 3. -/
def DateOut (w : World) (l : List UInt8) (e : Ending) (w' : World) : Prop :=
  ((∃ n, e = .returned (.tuple #[.int .i64 n, .int .i64 0]) ∧ isDate n l) ∨ (e = .returned (.tuple #[.int .i64 0, .int .i64 3]) ∧ ∀ n, ¬ isDate n l)) ∧ Below w.heap.size w w'
theorem DateOut.no {w w' : World} {l : List UInt8} (h : ∀ n, ¬ isDate n l) (hb : Below w.heap.size w w') : DateOut w l (.returned (.tuple #[.int .i64 0, .int .i64 3])) w' := ⟨.inr ⟨rfl, h⟩, hb⟩
theorem DateOut.yes {w w' : World} {l : List UInt8} {n : Int} (h : isDate n l) (hb : Below w.heap.size w w') : DateOut w l (.returned (.tuple #[.int .i64 n, .int .i64 0])) w' := ⟨.inl ⟨n, rfl, h⟩, hb⟩
theorem slice_seg (l : List UInt8) (a b : Nat) (h : b ≤ l.length) (hab : a ≤ b) (w : World) :
    (Instr.slice 9 (.string ⟨l.toArray⟩) (some (.int .i64 (a : Int))) (some (.int .i64 (b : Int))) none).run Try.prog w = .ok (.string ⟨(seg l a b).toArray⟩) w := by
  refine (run_slice_str 9 Try.underlying9 l a b (by omega) (by omega) (by omega) w).trans ?_
  rfl
end Go.Proofs.Ytmhhjmncbclihaa
