/- The head of a text, as a slice. -/
import Derived.Test.YtfgjbflddabdcaaDoorBase
namespace Go.Proofs.YtfgjbflddabdcaaDoor
open Go.RowKit Go.Larder
set_option linter.unusedVariables false
set_option linter.unusedSimpArgs false
/-- A text up to a place. -/
theorem run_sliceU {P : Program} (t : TypeId) (ht : P.underlying t = some .string) (s : List UInt8) (hi : Int) (h0 : 0 ≤ hi) (h2 : hi ≤ s.length) (w : World) :
    (Instr.slice t (.string ⟨s.toArray⟩) none (some (.int .i64 hi)) none).run P w = .ok (S (s.take hi.toNat)) w := by
  have hsz : (⟨s.toArray⟩ : ByteArray).size = s.length := ba_size s
  simp [Instr.slice, Sem.run_bind, run_underlying ht, Instr.sliceBounds, Instr.sliceBound, asIntOf, hsz, h0, h2, Result.andThen]
  rw [ba_extract]
  simp
end Go.Proofs.YtfgjbflddabdcaaDoor
