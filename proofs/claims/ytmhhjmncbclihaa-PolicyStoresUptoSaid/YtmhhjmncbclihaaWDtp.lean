/- Walks: date.two, date.Print. -/
import Derived.Test.YtmhhjmncbclihaaWDate
import Derived.Test.YtmhhjmncbclihaaSpecs
import Derived.Test.YtmhhjmncbclihaaWItoa
namespace Go.Proofs.Ytmhhjmncbclihaa
open Go.RowKit Go.Larder
set_option linter.unusedVariables false
set_option linter.unusedSimpArgs false

theorem two_len (n : Int) (h : 0 ≤ n ∧ n < 100) : (twoL n).length = 2 := dec_two n h.1 h.2

theorem run_slice_str {P : Program} (t : TypeId) (ht : P.underlying t = some .string) (s : List UInt8) (lo hi : Int) (h0 : 0 ≤ lo) (h1 : lo ≤ hi) (h2 : hi ≤ s.length) (w : World) :
    (Instr.slice t (.string ⟨s.toArray⟩) (some (.int .i64 lo)) (some (.int .i64 hi)) none).run P w = .ok (S ((s.drop lo.toNat).take (hi.toNat - lo.toNat))) w := by
  have hsz : (⟨s.toArray⟩ : ByteArray).size = s.length := ba_size s
  have e1 : hi.toNat ≤ s.length := by omega
  have e2 : lo ≤ (hi.toNat : Int) := by omega
  have e3 : lo ≤ max hi 0 := by omega
  simp [Instr.slice, Sem.run_bind, run_underlying ht, Instr.sliceBounds, Instr.sliceBound, asIntOf, hsz, h0, h2, show 0 ≤ hi from by omega, e2, e3, Result.andThen]
  rw [ba_extract]

end Go.Proofs.Ytmhhjmncbclihaa
