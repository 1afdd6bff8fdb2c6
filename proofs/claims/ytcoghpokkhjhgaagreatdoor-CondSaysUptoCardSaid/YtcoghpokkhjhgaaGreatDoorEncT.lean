/- A flag and a text: an entity tag. No program in sight. -/
import Derived.Test.YtcoghpokkhjhgaaGreatDoorSpecs
namespace Go.Larder
open Go.RowKit
set_option linter.unusedVariables false
set_option linter.unusedSimpArgs false
def encT : ElemT (Bool × List UInt8) := ⟨fun f => [.bool f.1, S f.2], 2, fun _ => rfl, fun _ u hu => by simp at hu; rcases hu with rfl | rfl <;> rfl, by omega⟩
theorem ReadL.at_T {w : World} {B : Nat} {A : Option Addr} {l : List (Bool × List UInt8)} (h : ReadL encT w B A l) {k : Nat} {x : Bool × List UInt8} (hx : l[k]? = some x) :
    ∃ b off, A = some ⟨b, off, none⟩ ∧ b < B ∧ w.cell? ⟨b, off + k * 2, none⟩ = some (.bool x.1) ∧ w.cell? ⟨b, off + k * 2 + 1, none⟩ = some (S x.2) := by
  obtain ⟨b, off, hA, hb, hc⟩ := h.at_ hx
  exact ⟨b, off, hA, hb, by simpa [encT] using hc 0 _ rfl, by simpa [encT] using hc 1 _ rfl⟩
end Go.Larder
