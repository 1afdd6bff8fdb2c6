/- Directives: a name, whether there is an argument, the argument: as they lie; as arguments. -/
import Derived.Test.YtmhhjmncbclihaaOpen
import Derived.Deep.Strs
namespace Go.Larder
open Go.RowKit Go.ChangeShapes Go.WideShapes Go.Deep
set_option linter.unusedVariables false
set_option linter.unusedSimpArgs false
abbrev Dir := List UInt8 × Bool × List UInt8
def encD : ElemT Dir := ⟨fun f => [S f.1, .bool f.2.1, S f.2.2], 3, fun _ => rfl, fun _ u hu => by simp at hu; rcases hu with rfl | rfl | rfl <;> rfl, by omega⟩
theorem ReadL.at_D {w : World} {B : Nat} {A : Option Addr} {l : List Dir} (h : ReadL encD w B A l) {k : Nat} {x : Dir} (hx : l[k]? = some x) :
    ∃ b off, A = some ⟨b, off, none⟩ ∧ b < B ∧ w.cell? ⟨b, off + k * 3, none⟩ = some (S x.1) ∧ w.cell? ⟨b, off + k * 3 + 1, none⟩ = some (.bool x.2.1) ∧ w.cell? ⟨b, off + k * 3 + 2, none⟩ = some (S x.2.2) := by
  obtain ⟨b, off, hA, hb, hc⟩ := h.at_ hx
  exact ⟨b, off, hA, hb, by simpa [encD] using hc 0 _ rfl, by simpa [encD] using hc 1 _ rfl, by simpa [encD] using hc 2 _ rfl⟩
section
variable {H : Type} {enc : TypeId × Value → H} {P : Program} {e : TypeId}
theorem OpenE.dirs {f0 f1 f2 : Field} (he : P.underlying e = some (.struct #[f0, f1, f2])) (hc : P.cellsOf e = 3) (h0 : P.underlying f0.type = some .string) (h1 : P.underlying f1.type = some .bool) (h2 : P.underlying f2.type = some .string)
    (o0 : f0.offset = 0) (o1 : f1.offset = 1) (o2 : f2.offset = 2) (c0 : P.cellsOf f0.type = 1) (c1 : P.cellsOf f1.type = 1) (c2 : P.cellsOf f2.type = 1) :
    OpenE enc P e encD (fun f => .agg [.lit (.string f.1), .lit (.bool f.2.1), .lit (.string f.2.2)]) (fun _ => True) (fun f => f.1.length ≤ reachBytes ∧ f.2.2.length ≤ reachBytes) (fun f => f.1.length + f.2.2.length + 4) where
  size := hc
  op := fun w base spare held n cs y h => by
    obtain ⟨y0, y1, y2, n', rfl, hl, g0, g1, g2⟩ := trod_struct3 he h
    rw [hc] at hl
    rw [o0, c0] at g0
    rw [o1, c1] at g1
    rw [o2, c2] at g2
    match cs, hl with
    | [u0, u1, u2], _ =>
      obtain ⟨s0, e0, rfl, _⟩ := DataW.trod_string h0 g0
      obtain ⟨s1, e1, rfl⟩ := DataW.trod_bool h1 g1
      obtain ⟨s2, e2, rfl, _⟩ := DataW.trod_string h2 g2
      simp at e0 e1 e2
      subst e0 e1 e2
      obtain ⟨⟨l0⟩⟩ := s0
      obtain ⟨⟨l2⟩⟩ := s2
      exact ⟨(l0, s1, l2), rfl, rfl, trivial⟩
  weight := fun x h => by
    exact ⟨h _ (by simp [DataW.weights, he, DataW.weightsEach]), h _ (by simp [DataW.weights, he, DataW.weightsEach])⟩
  bulk := fun x => by simp [Go.Proofs.Ytmhhjmncbclihaa.Rows.uptoBulk, Go.Proofs.Ytmhhjmncbclihaa.Rows.uptoBulkAll]; omega
end
end Go.Larder
