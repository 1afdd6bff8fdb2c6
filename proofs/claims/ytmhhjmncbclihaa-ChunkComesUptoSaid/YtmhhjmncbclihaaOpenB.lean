/- A slice of bools among the arguments, opened as a list. -/
import Derived.Test.YtmhhjmncbclihaaOpen
namespace Go.Larder
open Go.RowKit Go.ChangeShapes Go.WideShapes Go.Deep
set_option linter.unusedVariables false
set_option linter.unusedSimpArgs false
def encBl : ElemT Bool := ⟨fun b => [.bool b], 1, fun _ => rfl, fun _ u hu => by simp at hu; subst hu; rfl, by omega⟩
theorem ReadL.at_Bl {w : World} {B : Nat} {A : Option Addr} {l : List Bool} (h : ReadL encBl w B A l) {k : Nat} {x : Bool} (hx : l[k]? = some x) : ∃ b off, A = some ⟨b, off, none⟩ ∧ b < B ∧ w.cell? ⟨b, off + k, none⟩ = some (.bool x) := by
  obtain ⟨b, off, hA, hb, hc⟩ := h.at_ hx
  refine ⟨b, off, hA, hb, ?_⟩
  have := hc 0 (.bool x) rfl
  simpa [encBl] using this
theorem OpenE.bools {H : Type} {enc : TypeId × Value → H} {P : Program} {e : TypeId} (he : P.underlying e = some .bool) (hc : P.cellsOf e = 1) :
    OpenE enc P e encBl (fun b => .lit (.bool b)) (fun _ => True) (fun _ => True) (fun _ => 1) where
  size := hc
  op := fun w base spare held n cs y h => by
    obtain ⟨b, rfl, rfl⟩ := DataW.trod_bool he h
    exact ⟨b, rfl, rfl, trivial⟩
  weight := fun x h => trivial
  bulk := fun x => by simp [Go.Proofs.Ytmhhjmncbclihaa.Rows.uptoBulk]
end Go.Larder
