/- A result's two forms as one; four results. No program in sight. -/
import Derived.Test.YtfgjbflddabdcaaGreatDoorSpecs
namespace Go.Larder
open Go.RowKit
set_option linter.unusedVariables false
set_option linter.unusedSimpArgs false
theorem results_tmp4 {fn : Func} {t u v x : Tmp} (h : fn.results = #[.tmp t, .tmp u, .tmp v, .tmp x]) (tmps : Array Value) (P : Program) (w : World) :
    (results fn tmps).run P w = .ok (.tuple #[tmps.getD t undef, tmps.getD u undef, tmps.getD v undef, tmps.getD x undef]) w := by
  simp [results, h]
def flatR : Except Int (List UInt8) → List UInt8 × Int
  | .error n => ([], n)
  | .ok out => (out, 0)
theorem flatSt {w : World} {r : Except Int (List UInt8)} {e : Ending} {w' : World} (h : StPost w r e w') : ∃ a n, e = .returned (.tuple #[S a, .int .i64 n]) ∧ (a, n) = flatR r ∧ Below w.heap.size w w' := by
  cases r with
  | error n => exact ⟨[], n, h.1, rfl, h.2⟩
  | ok out => exact ⟨out, 0, h.1, rfl, h.2⟩
end Go.Larder
