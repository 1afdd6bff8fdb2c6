/- The library's functions at texts as lists: the shelf's contracts in one form. -/
import Derived.Test.YtbchkaoocobpfaaDoorSpecs
import Derived.Test.YtbchkaoocobpfaaDoorShelf
namespace Go.Proofs.YtbchkaoocobpfaaDoor
open Go.RowKit Go.Larder
set_option linter.unusedVariables false
set_option linter.unusedSimpArgs false

theorem dataL (v : List UInt8) : (⟨v.toArray⟩ : ByteArray).data.toList = v := by simp
theorem blw_drewN {B : Nat} {a w : World} (h : Below B a w) (n : Nat) : Below B a (w.drewN n) := ⟨h.os, h.tape, h.output, h.size, h.block⟩

/-- The library's variable holds some number. -/
def ML (w : World) : Prop := ∃ m, w.cell? ⟨2, 0, none⟩ = some (.int .i64 m)
theorem ML.keep {w w' : World} (h : ML w) (hb : Below w.heap.size w w') : ML w' := by
  obtain ⟨m, hm⟩ := h
  have hlt : 2 < w.heap.size := by
    rcases Nat.lt_or_ge 2 w.heap.size with h | h
    · exact h
    · simp [World.cell?, Array.getElem?_eq_none h] at hm
  exact ⟨m, (hb.cell (p := ⟨2, 0, none⟩) hlt).trans hm⟩
theorem ML.alloc {w : World} (h : ML w) (o : Obj) : ML (w.alloc o) := h.keep ((Below.refl _ _).alloc (Nat.le_refl _) o)
theorem w_HasPre (s p : List UInt8) (w : World) :
    Calls Tryd.prog 51 #[S s, S p] w fun e w' => e = .returned (.bool (Lib.hasPrefix s p)) ∧ w = w' := by
  have h := Tryd.strings_HasPrefix ⟨s.toArray⟩ ⟨p.toArray⟩ w
  rw [dataL, dataL] at h
  exact h.mono fun e w' ⟨he, hw⟩ => ⟨he, hw.symm⟩
end Go.Proofs.YtbchkaoocobpfaaDoor
