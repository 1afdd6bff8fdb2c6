/- Get at fields of small bulk, the program's and the reference's. -/
import Derived.Test.YtmhhjmncbclihaaWGet
import Derived.Test.YtmhhjmncbclihaaSpecs
namespace Go.Proofs.Ytmhhjmncbclihaa
open Go.RowKit Go.Larder
set_option linter.unusedVariables false
set_option linter.unusedSimpArgs false
/-- Get at fields of small bulk, both -/
theorem w_GetS (name : List UInt8) (hn : name.length ≤ 1000) (l : List Fld) (hj : (l.map (fun f => f.1.length + f.2.length + 3)).sum ≤ 1048576) (A : Option Addr) (c : Nat) (w : World) (hr : ReadL encF w w.heap.size A l) :
    Calls Try.prog 76 #[.slice A l.length c, S name] w (fun e w' => e = .returned (.tuple #[S (Lib.join (valsL (lowL name) l) sepL), .bool (!(valsL (lowL name) l).isEmpty)]) ∧ Below w.heap.size w w') := by
  obtain ⟨hl, hx⟩ := sum_big hj
  have hj2 := join_ok (nm := lowL name) hj
  exact w_Get name (by omega) l (fun f hf => (hx f hf).1) hl (by omega) A c w hr
theorem w_GetRS (name : List UInt8) (hn : name.length ≤ 1000) (l : List Fld) (hj : (l.map (fun f => f.1.length + f.2.length + 3)).sum ≤ 1048576) (A : Option Addr) (c : Nat) (w : World) (hr : ReadL encF w w.heap.size A l) :
    Calls Try.prog 81 #[.slice A l.length c, S name] w (fun e w' => e = .returned (.tuple #[S (Lib.join (valsL (lowL name) l) sepL), .bool (!(valsL (lowL name) l).isEmpty)]) ∧ Below w.heap.size w w') := by
  obtain ⟨hl, hx⟩ := sum_big hj
  have h := w_GetR name (by omega) l (fun f hf => (hx f hf).1) hl hj A c w hr
  rw [getGo_all] at h
  exact h
end Go.Proofs.Ytmhhjmncbclihaa
