/- A block of cells that the call made, known whole: read, kept, stored into; results that lie in it. No program in sight. -/
import Derived.Test.YtbchkaoocobpfaaDoorBox
namespace Go.Larder
open Go.RowKit
set_option linter.unusedVariables false
set_option linter.unusedSimpArgs false
/-- Block g holds the cells cs. -/
def BoxAt (w : World) (g : Nat) (t : TypeId) (cs : List Value) : Prop := w.heap[g]? = some (.cells cs.toArray t (0, 0))
section
variable {w w' : World} {g : Nat} {t : TypeId} {cs : List Value}
theorem BoxAt.new (w : World) (cs : List Value) (t : TypeId) : BoxAt (w.alloc (.cells cs.toArray t)) w.heap.size t cs := heap_alloc_new w _
theorem BoxAt.lt (h : BoxAt w g t cs) : g < w.heap.size := by
  rcases Nat.lt_or_ge g w.heap.size with h' | h'
  · exact h'
  · unfold BoxAt at h; rw [Array.getElem?_eq_none h'] at h; cases h
theorem BoxAt.kept {B : Nat} (h : BoxAt w g t cs) (hb : Below B w w') (hg : g < B) : BoxAt w' g t cs := (hb.block g hg).trans h
theorem BoxAt.keep (h : BoxAt w g t cs) (hb : Below w.heap.size w w') : BoxAt w' g t cs := h.kept hb h.lt
theorem BoxAt.cell (h : BoxAt w g t cs) {j : Nat} {v : Value} (hv : cs[j]? = some v) : w.cell? ⟨g, j, none⟩ = some v := by
  rw [cell_of_row w g j cs.toArray t (0, 0) h]; simpa using hv
theorem BoxAt.free (h : BoxAt w g t cs) (j : Nat) : w.frozen? ⟨g, j, none⟩ = false := by
  unfold BoxAt at h
  simp [World.frozen?, h]
theorem BoxAt.alloc (h : BoxAt w g t cs) (o : Obj) : BoxAt (w.alloc o) g t cs := h.kept ((Below.refl (g + 1) w).alloc h.lt o) (by omega)
theorem BoxAt.drew (h : BoxAt w g t cs) : BoxAt w.drew g t cs := h
theorem BoxAt.set (h : BoxAt w g t cs) (j : Nat) (v : Value) : BoxAt (w.setCell ⟨g, j, none⟩ v) g t (cs.set j v) := by
  have := heap_setCell_same w g j cs.toArray t v h
  unfold BoxAt
  rw [this]
  simp
theorem BoxAt.setOther (h : BoxAt w g t cs) (a : Addr) (ha : g ≠ a.block) (v : Value) : BoxAt (w.setCell a v) g t cs := (heap_setCell_other w a g v ha).trans h
theorem BoxAt.all (h : BoxAt w g t cs) : ∀ j v, cs[j]? = some v → w.cell? ⟨g, j, none⟩ = some v := fun _ _ hv => h.cell hv
end
theorem results_cell_tmp2 {fn : Func} {p u v : Tmp} {ty : TypeId} (h : fn.results = #[.cell p ty, .tmp u, .tmp v]) (tmps : Array Value) (P : Program) (w : World) :
    (results fn tmps).run P w =
      ((asAddr (tmps.getD p undef)).run P w).andThen fun a w₁ => ((loadVar ty a).run P w₁).andThen fun x w₂ => .ok (.tuple #[x, tmps.getD u undef, tmps.getD v undef]) w₂ := by
  simp only [results, h]
  simp [Sem.run_bind, Result.andThen]
/-- Three results, the first one in a box. -/
theorem results_box3 {P : Program} {fn : Func} {p u v : Tmp} {ty : TypeId} (h : fn.results = #[.cell p ty, .tmp u, .tmp v]) (tmps : Array Value) (w : World) (g : Nat) (vs : List Value) (d : TypeDesc)
    (hp : tmps.getD p undef = .pointer (some ⟨g, 0, none⟩)) (hc : ∀ j v, vs[j]? = some v → w.cell? ⟨g, j, none⟩ = some v)
    (hu : P.underlying ty = some d) (hd : (match d with | .struct _ | .array _ _ => true | _ => false) = true) (hi : (P.info? ty).map (·.size) = some vs.length) :
    (results fn tmps).run P w = .ok (.tuple #[.agg vs.toArray, tmps.getD u undef, tmps.getD v undef]) w := by
  have hl := run_loadVar_cells w g ty vs d hc hu hd hi
  rw [results_cell_tmp2 h, hp]
  simp [asAddr, hl, Result.andThen]
end Go.Larder
