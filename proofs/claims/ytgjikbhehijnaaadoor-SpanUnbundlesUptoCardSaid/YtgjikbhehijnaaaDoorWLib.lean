/- The library's functions at texts as lists: the shelf's contracts in one form. -/
import Derived.Test.YtgjikbhehijnaaaDoorBase
import Derived.Test.YtgjikbhehijnaaaDoorShelf
import Derived.Test.YtgjikbhehijnaaaDoorSpecSpl
namespace Go.Proofs.YtgjikbhehijnaaaDoor
open Go.RowKit Go.Larder
set_option linter.unusedVariables false
set_option linter.unusedSimpArgs false

theorem dataL (v : List UInt8) : (⟨v.toArray⟩ : ByteArray).data.toList = v := by simp
theorem blw_drewN {B : Nat} {a w : World} (h : Below B a w) (n : Nat) : Below B a (w.drewN n) := ⟨h.os, h.tape, h.output, h.size, h.block⟩

/-- The library's variable holds some number. -/
def ML (w : World) : Prop := ∃ m, w.cell? ⟨2, 0, none⟩ = some (.int .i64 m)
theorem ML.keep {w w' : World} (h : ML w) (hb : Below w.heap.size w w') : ML w' := by
  obtain ⟨m, hm⟩ := h
  have hlt : 2 < w.heap.size := by
    rcases Nat.lt_or_ge 2 w.heap.size with h | h
    · exact h
    · simp [World.cell?, Array.getElem?_eq_none h] at hm
  exact ⟨m, (hb.cell (p := ⟨2, 0, none⟩) hlt).trans hm⟩
theorem ML.alloc {w : World} (h : ML w) (o : Obj) : ML (w.alloc o) := h.keep ((Below.refl _ _).alloc (Nat.le_refl _) o)
theorem ML.shaped {w : World} (h : w.ShapedOpen Tryd.prog) : ML w := by
  first
    | exact Tryd.laysM143.s1_3 w h
    | exact Tryd.laysM145.s1_3 w h
    | exact Tryd.laysM146.s1_3 w h
    | exact Tryd.laysM154.s1_3 w h
    | exact Tryd.laysM219.s1_3 w h
    | exact Tryd.laysM220.s1_3 w h
theorem w_Index (s sub : List UInt8) (hs : s.length < 4294967281) (w : World) (hM : ML w) :
    Calls Tryd.prog 58 #[S s, S sub] w fun e w' => e = .returned (.int .i64 (Lib.index s sub)) ∧ w = w' := by
  obtain ⟨m, hm⟩ := hM
  have h := Tryd.strings_Index ⟨s.toArray⟩ ⟨sub.toArray⟩ m w (by rw [ba_size]; exact hs) hm
  rw [dataL, dataL] at h
  exact h.mono fun e w' ⟨he, hw⟩ => ⟨he, hw.symm⟩
theorem w_Contains (s sub : List UInt8) (hs : s.length < 4294967281) (w : World) (hM : ML w) :
    Calls Tryd.prog 98 #[S s, S sub] w fun e w' => e = .returned (.bool (Lib.contains s sub)) ∧ w = w' := by
  obtain ⟨m, hm⟩ := hM
  have h := Tryd.strings_Contains ⟨s.toArray⟩ ⟨sub.toArray⟩ m w (by rw [ba_size]; exact hs) hm
  rw [dataL, dataL] at h
  exact h.mono fun e w' ⟨he, hw⟩ => ⟨he, hw.symm⟩
theorem w_Cut (s sep : List UInt8) (hs : s.length < 4294967281) (w : World) (hM : ML w) :
    Calls Tryd.prog 52 #[S s, S sep] w fun e w' => e = .returned (.tuple #[S (Lib.cut s sep).1, S (Lib.cut s sep).2.1, .bool (Lib.cut s sep).2.2]) ∧ Below w.heap.size w w' := by
  obtain ⟨m, hm⟩ := hM
  have h := Tryd.strings_Cut ⟨s.toArray⟩ ⟨sep.toArray⟩ m w (by rw [ba_size]; exact hs) hm
  rw [dataL, dataL] at h
  refine h.mono ?_
  rintro e w' ⟨he, n, rfl⟩
  exact ⟨he, blw_drewN (Below.refl _ _) n⟩
theorem w_HasPre (s p : List UInt8) (w : World) :
    Calls Tryd.prog 57 #[S s, S p] w fun e w' => e = .returned (.bool (Lib.hasPrefix s p)) ∧ w = w' := by
  have h := Tryd.strings_HasPrefix ⟨s.toArray⟩ ⟨p.toArray⟩ w
  rw [dataL, dataL] at h
  exact h.mono fun e w' ⟨he, hw⟩ => ⟨he, hw.symm⟩
theorem w_CutPre (s p : List UInt8) (w : World) :
    Calls Tryd.prog 51 #[S s, S p] w fun e w' => e = .returned (.tuple #[S (Lib.trimPrefix s p), .bool (Lib.hasPrefix s p)]) ∧ Below w.heap.size w w' := by
  have h := Tryd.strings_CutPrefix ⟨s.toArray⟩ ⟨p.toArray⟩ w
  rw [dataL, dataL] at h
  refine h.mono ?_
  first
    | (rintro e w' ⟨he, rfl⟩; exact ⟨he, Below.refl _ _⟩)
    | (rintro e w' ⟨he, n, rfl⟩; exact ⟨he, blw_drewN (Below.refl _ _) n⟩)
end Go.Proofs.YtgjikbhehijnaaaDoor
