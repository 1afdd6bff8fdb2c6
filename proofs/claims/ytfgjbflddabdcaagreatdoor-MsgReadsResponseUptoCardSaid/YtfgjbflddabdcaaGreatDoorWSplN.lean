/- Walks: strings.SplitN at three parts, strings.ReplaceAll at short texts: the library's contracts at texts as lists. -/
import Derived.Test.YtfgjbflddabdcaaGreatDoorWLib
import Derived.Test.YtfgjbflddabdcaaGreatDoorSpecs
import Derived.Test.YtfgjbflddabdcaaGreatDoorShelf
namespace Go.Proofs.YtfgjbflddabdcaaGreatDoor
open Go.RowKit Go.Larder
set_option linter.unusedVariables false
set_option linter.unusedSimpArgs false
theorem readS_pad (w : World) (l : List (List UInt8)) (bs : List ByteArray) (hb : bs.map (·.data.toList) = l) (N : Nat) (e : TypeId) :
    ReadL encS (w.alloc (.cells (Lib.cellsOf bs N) e)) (w.heap.size + 1) (some ⟨w.heap.size, 0, none⟩) l := by
  have h := ReadL.lit (E := encS) w (Lib.cellsOf bs N) e (l ++ List.replicate (N - bs.length) []) (by
    unfold Lib.cellsOf
    rw [flat_S, List.map_append, List.map_replicate, ← hb, List.map_map]
    congr 1)
  have h2 := h.take l.length
  rw [List.take_left] at h2
  exact h2
theorem w_SplitN3 (s : List UInt8) (c : UInt8) (hs : s.length ≤ 1048576) (w : World) (hM : ML w) :
    Calls Tryz.prog 53 #[S s, S [c], .int .i64 3] w fun e w' => (∃ k, e = .returned (.slice (some ⟨w.heap.size, 0, none⟩) (Lib.splitN s [c] 3).length k)) ∧ ReadL encS w' w'.heap.size (some ⟨w.heap.size, 0, none⟩) (Lib.splitN s [c] 3) ∧ Below w.heap.size w w' := by
  obtain ⟨m, hm⟩ := hM
  have h := Tryz.strings_SplitN ⟨s.toArray⟩ ⟨[c].toArray⟩ 3 m w (by rw [ba_size]; omega) hm (by rw [ba_size]; simp) (by omega) (by omega)
  refine h.mono ?_
  rintro e w' ⟨rfl, rfl⟩
  have hd : (Lib.splitB ⟨[c].toArray⟩ 0 (min 3 ((⟨s.toArray⟩ : ByteArray).size + 1) - 1) ⟨s.toArray⟩).map (·.data.toList) = Lib.splitN s [c] 3 := by
    rw [Lib.splitB_data, dataL, dataL, ba_size]
    rfl
  refine ⟨⟨_, by rw [← hd, List.length_map]⟩, ?_, (Below.refl _ _).alloc (Nat.le_refl _) _⟩
  exact (readS_pad w _ _ hd _ _).more (by simp)
theorem w_Rep9 (s : List UInt8) (hs : s.length ≤ 10000) (w : World) (hM : ML w) :
    Calls Tryz.prog 72 #[S s, S [9], S []] w fun e w' => e = .returned (S (s.flatMap fun x => if x = 9 then [] else [x])) ∧ Below w.heap.size w w' := by
  obtain ⟨m, hm⟩ := hM
  have hdat : ∀ v : List UInt8, (⟨v.toArray⟩ : ByteArray).data.toList = v := fun v => by simp
  have hc : Lib.countB ⟨s.toArray⟩ ⟨[9].toArray⟩ ≤ s.length + 1 := by
    show Lib.count (⟨s.toArray⟩ : ByteArray).data.toList (⟨[9].toArray⟩ : ByteArray).data.toList ≤ _
    rw [hdat, hdat]
    exact Lib.count_le s [9]
  have h := Tryz.strings_ReplaceAll ⟨s.toArray⟩ ⟨[9].toArray⟩ ⟨([] : List UInt8).toArray⟩ m w (by rw [ba_size]; omega) hm (by rw [ba_size]; simp) (by rw [ba_size, ba_size]; simp; omega)
  rw [hdat, hdat, hdat, repl_one _ _ _ (by decide)] at h
  exact h
end Go.Proofs.YtfgjbflddabdcaaGreatDoor
