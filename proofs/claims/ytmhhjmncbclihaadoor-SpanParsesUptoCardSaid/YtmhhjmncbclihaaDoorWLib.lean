/- The library's functions at texts as lists: the shelf's contracts in one form. -/
import Derived.Test.YtmhhjmncbclihaaDoorBase
import Derived.Test.YtmhhjmncbclihaaDoorShelf
import Derived.Test.YtmhhjmncbclihaaDoorSpecSpl
namespace Go.Proofs.YtmhhjmncbclihaaDoor
open Go.RowKit Go.Larder
set_option linter.unusedVariables false
set_option linter.unusedSimpArgs false

theorem dataL (v : List UInt8) : (⟨v.toArray⟩ : ByteArray).data.toList = v := by simp
theorem blw_drewN {B : Nat} {a w : World} (h : Below B a w) (n : Nat) : Below B a (w.drewN n) := ⟨h.os, h.tape, h.output, h.size, h.block⟩

/-- The library's variable holds some number. -/
def ML (w : World) : Prop := ∃ m, w.cell? ⟨2, 0, none⟩ = some (.int .i64 m)
theorem ML.keep {w w' : World} (h : ML w) (hb : Below w.heap.size w w') : ML w' := by
  obtain ⟨m, hm⟩ := h
  have hlt : 2 < w.heap.size := by
    rcases Nat.lt_or_ge 2 w.heap.size with h | h
    · exact h
    · simp [World.cell?, Array.getElem?_eq_none h] at hm
  exact ⟨m, (hb.cell (p := ⟨2, 0, none⟩) hlt).trans hm⟩
theorem ML.alloc {w : World} (h : ML w) (o : Obj) : ML (w.alloc o) := h.keep ((Below.refl _ _).alloc (Nat.le_refl _) o)
theorem ML.shaped {w : World} (h : w.ShapedOpen Tryd.prog) : ML w := by
  first
    | exact Tryd.laysM143.s1_3 w h
    | exact Tryd.laysM145.s1_3 w h
    | exact Tryd.laysM146.s1_3 w h
    | exact Tryd.laysM154.s1_3 w h
    | exact Tryd.laysM219.s1_3 w h
    | exact Tryd.laysM220.s1_3 w h
theorem w_Index (s sub : List UInt8) (hs : s.length < 4294967281) (w : World) (hM : ML w) :
    Calls Tryd.prog 62 #[S s, S sub] w fun e w' => e = .returned (.int .i64 (Lib.index s sub)) ∧ w = w' := by
  obtain ⟨m, hm⟩ := hM
  have h := Tryd.strings_Index ⟨s.toArray⟩ ⟨sub.toArray⟩ m w (by rw [ba_size]; exact hs) hm
  rw [dataL, dataL] at h
  exact h.mono fun e w' ⟨he, hw⟩ => ⟨he, hw.symm⟩
theorem w_Contains (s sub : List UInt8) (hs : s.length < 4294967281) (w : World) (hM : ML w) :
    Calls Tryd.prog 114 #[S s, S sub] w fun e w' => e = .returned (.bool (Lib.contains s sub)) ∧ w = w' := by
  obtain ⟨m, hm⟩ := hM
  have h := Tryd.strings_Contains ⟨s.toArray⟩ ⟨sub.toArray⟩ m w (by rw [ba_size]; exact hs) hm
  rw [dataL, dataL] at h
  exact h.mono fun e w' ⟨he, hw⟩ => ⟨he, hw.symm⟩
theorem w_Cut (s sep : List UInt8) (hs : s.length < 4294967281) (w : World) (hM : ML w) :
    Calls Tryd.prog 56 #[S s, S sep] w fun e w' => e = .returned (.tuple #[S (Lib.cut s sep).1, S (Lib.cut s sep).2.1, .bool (Lib.cut s sep).2.2]) ∧ Below w.heap.size w w' := by
  obtain ⟨m, hm⟩ := hM
  have h := Tryd.strings_Cut ⟨s.toArray⟩ ⟨sep.toArray⟩ m w (by rw [ba_size]; exact hs) hm
  rw [dataL, dataL] at h
  refine h.mono ?_
  rintro e w' ⟨he, n, rfl⟩
  exact ⟨he, blw_drewN (Below.refl _ _) n⟩
theorem w_Split (s sep : List UInt8) (hs : s.length < 4294967281) (h1 : 1 ≤ sep.length) (w : World) (hM : ML w) :
    Calls Tryd.prog 67 #[S s, S sep] w fun e w' => e = .returned (.slice (some ⟨w.heap.size, 0, none⟩) (Lib.split s sep).length (Lib.split s sep).length) ∧ OwnL encS w' w.heap.size 9 (some ⟨w.heap.size, 0, none⟩) (Lib.split s sep).length (Lib.split s sep) ∧ Below w.heap.size w w' := by
  obtain ⟨m, hm⟩ := hM
  have h1' : 1 ≤ (⟨sep.toArray⟩ : ByteArray).size := by rw [ba_size]; exact h1
  have h := Tryd.strings_Split ⟨s.toArray⟩ ⟨sep.toArray⟩ m w (by rw [ba_size]; exact hs) hm h1'
  refine h.mono ?_
  rintro e w' ⟨rfl, rfl⟩
  have hlen := Lib.splitB_all ⟨sep.toArray⟩ h1' 0 _ ⟨s.toArray⟩ rfl
  have hle := Lib.countB_le ⟨sep.toArray⟩ h1' _ ⟨s.toArray⟩ (Nat.le_refl _)
  rw [ba_size] at hle
  have hd : (Lib.splitB ⟨sep.toArray⟩ 0 (Lib.countB ⟨s.toArray⟩ ⟨sep.toArray⟩) ⟨s.toArray⟩).map (·.data.toList) = Lib.split s sep := by
    rw [Lib.splitB_data, dataL, dataL]
    show Lib.splitK sep 0 (Lib.count (⟨s.toArray⟩ : ByteArray).data.toList (⟨sep.toArray⟩ : ByteArray).data.toList) s = _
    rw [dataL, dataL]
    rfl
  have hl2 : (Lib.split s sep).length = Lib.countB ⟨s.toArray⟩ ⟨sep.toArray⟩ + 1 := by rw [← hd, List.length_map, hlen]
  refine ⟨by rw [hl2], ?_, (Below.refl _ _).alloc (Nat.le_refl _) _⟩
  refine own_lit w w.heap.size _ _ (Lib.split s sep) ?_ (Nat.le_refl _) (by unfold maxLen; omega)
  rw [flat_S, ← hd, List.map_map]
  simp
theorem w_HasPre (s p : List UInt8) (w : World) :
    Calls Tryd.prog 61 #[S s, S p] w fun e w' => e = .returned (.bool (Lib.hasPrefix s p)) ∧ w = w' := by
  have h := Tryd.strings_HasPrefix ⟨s.toArray⟩ ⟨p.toArray⟩ w
  rw [dataL, dataL] at h
  exact h.mono fun e w' ⟨he, hw⟩ => ⟨he, hw.symm⟩
theorem w_CutPre (s p : List UInt8) (w : World) :
    Calls Tryd.prog 55 #[S s, S p] w fun e w' => e = .returned (.tuple #[S (Lib.trimPrefix s p), .bool (Lib.hasPrefix s p)]) ∧ Below w.heap.size w w' := by
  have h := Tryd.strings_CutPrefix ⟨s.toArray⟩ ⟨p.toArray⟩ w
  rw [dataL, dataL] at h
  refine h.mono ?_
  first
    | (rintro e w' ⟨he, rfl⟩; exact ⟨he, Below.refl _ _⟩)
    | (rintro e w' ⟨he, n, rfl⟩; exact ⟨he, blw_drewN (Below.refl _ _) n⟩)
end Go.Proofs.YtmhhjmncbclihaaDoor
