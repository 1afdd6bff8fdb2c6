/- Walk: a field's check, the program's. -/
import Derived.Test.YtmhhjmncbclihaaDoorWFc0
import Derived.Test.YtmhhjmncbclihaaDoorWTrimP
namespace Go.Proofs.YtmhhjmncbclihaaDoor
open Go.RowKit Go.Larder
set_option linter.unusedVariables false
set_option linter.unusedSimpArgs false

/-- A block that was laid ahead of a call is as it was. -/
theorem box_keptC {w w1 : World} {cs : Array Value} {e : TypeId} (hb : Below (w.alloc (.cells cs e)).heap.size (w.alloc (.cells cs e)) w1) :
    w1.heap[w.heap.size]? = some (.cells cs e (0, 0)) := (hb.block _ (by simp)).trans (by show (w.heap.push _)[w.heap.size]? = _; simp)
def checkF (n v : List UInt8) : Int :=
  if isTok n then (if 30 < n.length ∨ 1000 < v.length then 2 else if trim v = v ∧ v.all isPl = true then 0 else 3) else 3
theorem checkF_tok {n v : List UInt8} (h : isTok n = false) : checkF n v = 3 := by unfold checkF; rw [if_neg (by simp [h])]
theorem checkF_big {n v : List UInt8} (h : isTok n = true) (hb : 30 < n.length ∨ 1000 < v.length) : checkF n v = 2 := by unfold checkF; rw [if_pos h, if_pos hb]
theorem checkF_ok {n v : List UInt8} (h : isTok n = true) (hb : ¬ (30 < n.length ∨ 1000 < v.length)) (ht : trim v = v) (hp : v.all isPl = true) : checkF n v = 0 := by unfold checkF; rw [if_pos h, if_neg hb, if_pos ⟨ht, hp⟩]
theorem checkF_bad {n v : List UInt8} (h : isTok n = true) (hb : ¬ (30 < n.length ∨ 1000 < v.length)) (ht : ¬ (trim v = v ∧ v.all isPl = true)) : checkF n v = 3 := by unfold checkF; rw [if_pos h, if_neg hb, if_neg ht]

end Go.Proofs.YtmhhjmncbclihaaDoor
