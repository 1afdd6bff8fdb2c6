/- Walk: the reference's DateParse. -/
import Derived.Test.YtmhhjmncbclihaaWDpo
import Derived.Test.YtmhhjmncbclihaaWDtpR
import Derived.Test.YtmhhjmncbclihaaWDays
import Derived.Test.YtmhhjmncbclihaaWNum
import Derived.Test.YtmhhjmncbclihaaWLib
import Derived.Test.YtmhhjmncbclihaaWIs
import Derived.Test.YtmhhjmncbclihaaBoxAt
import Derived.Test.YtmhhjmncbclihaaSpecs
namespace Go.Proofs.Ytmhhjmncbclihaa
open Go.RowKit Go.Larder
set_option linter.unusedVariables false
set_option linter.unusedSimpArgs false

theorem keepAt {α : Type} {E : ElemT α} {w w' : World} {B g off : Nat} {l : List α} (h : ReadL E w B (some ⟨g, off, none⟩) l) (hk : ∀ p : Addr, p.block = g → w'.cell? p = w.cell? p) : ReadL E w' B (some ⟨g, off, none⟩) l := fun hn => by
  obtain ⟨b, o, hA, hb, hc⟩ := h hn
  injection hA with hA
  injection hA with h1 h2
  subst h1 h2
  exact ⟨_, _, rfl, hb, fun k a ha j u hu => (hk _ rfl).trans (hc k a ha j u hu)⟩
theorem cell_otherB (w : World) (a : Addr) (v : Value) (p : Addr) (h : p.block ≠ a.block) : (w.setCell a v).cell? p = w.cell? p := by
  unfold World.cell?
  rw [heap_setCell_other w a p.block v h]
theorem map_set_step (f : List UInt8 → Value) (z : Value) : ∀ (l : List (List UInt8)) (k : Nat) (x : List UInt8), l[k]? = some x →
    ((l.take k).map f ++ List.replicate (l.length - k) z).set k (f x) = (l.take (k + 1)).map f ++ List.replicate (l.length - (k + 1)) z
  | [], k, x, h => by simp at h
  | y :: l, 0, x, h => by
    simp at h
    subst h
    simp [List.replicate_succ]
  | y :: l, k + 1, x, h => by
    rw [List.getElem?_cons_succ] at h
    have := map_set_step f z l k x h
    simp only [List.take_succ_cons, List.map_cons, List.cons_append, List.set_cons_succ, List.length_cons]
    rw [show l.length + 1 - (k + 1) = l.length - k from by omega, show l.length + 1 - (k + 1 + 1) = l.length - (k + 1) from by omega, this]
end Go.Proofs.Ytmhhjmncbclihaa
