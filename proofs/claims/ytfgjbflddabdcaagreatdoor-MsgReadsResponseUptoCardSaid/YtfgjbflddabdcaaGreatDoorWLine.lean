/- Walks: first lines and requests' lines: the program's, the reference's. -/
import Derived.Test.YtfgjbflddabdcaaGreatDoorWLib
import Derived.Test.YtfgjbflddabdcaaGreatDoorWFc0
import Derived.Test.YtfgjbflddabdcaaGreatDoorSpecs
import Derived.Test.YtfgjbflddabdcaaGreatDoorFlat
import Derived.Test.YtfgjbflddabdcaaGreatDoorApp
import Derived.Deep.RegionWith
import Derived.Deep.QuietTactic
import Derived.BigQuiet
namespace Go.Proofs.YtfgjbflddabdcaaGreatDoor
open Go.RowKit Go.Larder
set_option linter.unusedVariables false
set_option linter.unusedSimpArgs false

set_option maxHeartbeats 1000000 in
theorem w_first (s : List UInt8) (hs : s.length ≤ 1048576) (w : World) (hM : ML w) :
    Calls Tryz.prog 45 #[S s] w (StPost w (lineE s 300)) := by
  have hc := w_Cut s [13, 10] (by omega) w hM
  rcases index_cases s [13, 10] with h | ⟨i, h, hi⟩
  · rw [cut_none h] at hc
    rw [line_none h]
    by_cases hb : 301 < s.length
    · rw [if_pos (by omega)]
      go_enter Tryz.func45, Tryz.ntmps45
      go_wp2_with (go_at_call 75; refine hc.mono ?_; rintro e w1 ⟨rfl, hb1⟩)
      go_ret2
      exact ⟨rfl, hb1⟩
    · rw [if_neg (by omega)]
      go_enter Tryz.func45, Tryz.ntmps45
      go_wp2_with (go_at_call 75; refine hc.mono ?_; rintro e w1 ⟨rfl, hb1⟩)
      go_ret2
      exact ⟨rfl, hb1⟩
  · rw [cut_at h] at hc
    rw [line_at h]
    simp only [List.length_cons, List.length_nil] at hi
    have hl : (s.take i).length = i := by rw [List.length_take]; omega
    have Hl := Lib.hid hl
    generalize s.take i = l at hc hl Hl
    generalize s.drop (i + ([13, 10] : List UInt8).length) = r at hc
    by_cases hb : 300 < l.length
    · rw [if_pos (by omega)]
      clear hl
      go_enter Tryz.func45, Tryz.ntmps45
      go_wp2_with (go_at_call 75; refine hc.mono ?_; rintro e w1 ⟨rfl, hb1⟩)
      go_ret2
      exact ⟨rfl, hb1⟩
    · rw [if_neg (by omega)]
      clear hl
      go_enter Tryz.func45, Tryz.ntmps45
      go_wp2_with (go_at_call 75; refine hc.mono ?_; rintro e w1 ⟨rfl, hb1⟩)
      go_ret2
      exact ⟨rfl, hb1⟩

/-- A line, and how many bytes it has with its end. -/
def LinePost (w : World) (r : Except Int (List UInt8)) (e : Ending) (w' : World) : Prop := (match r with
  | .error n => e = .returned (.tuple #[S [], .int .i64 0, .int .i64 n])
  | .ok l => e = .returned (.tuple #[S l, .int .i64 (l.length + 2), .int .i64 0])) ∧ w = w'

set_option maxHeartbeats 1000000 in
theorem w_lineOf (s : List UInt8) (hs : s.length ≤ 1048576) (most : Nat) (hm : most ≤ 2000) (w : World) (hM : ML w) :
    Calls Tryz.prog 49 #[S s, .int .i64 most] w (LinePost w (lineE s most)) := by
  have hc := w_Index s [13, 10] (by omega) w hM
  rcases index_cases s [13, 10] with h | ⟨i, h, hi⟩
  · rw [h] at hc
    rw [line_none h]
    by_cases hb : most + 1 < s.length
    · have hb2 : ((most : Int) + 1 < s.length) := by omega
      rw [if_pos (by omega)]
      go_enter Tryz.func49, Tryz.ntmps49
      go_wp2_with (go_at_call 83; refine hc.mono ?_; rintro e w' ⟨rfl, rfl⟩)
      go_ret3
      exact ⟨rfl, rfl⟩
    · have hb2 : ¬ ((most : Int) + 1 < s.length) := by omega
      have hb3 : ¬ ((most : Int) < -1) := by omega
      rw [if_neg (by omega)]
      go_enter Tryz.func49, Tryz.ntmps49
      go_wp2_with (go_at_call 83; refine hc.mono ?_; rintro e w' ⟨rfl, rfl⟩)
      go_ret3
      exact ⟨rfl, rfl⟩
  · rw [h] at hc
    rw [line_at h]
    simp only [List.length_cons, List.length_nil] at hi
    have hl : (s.take i).length = i := by rw [List.length_take]; omega
    have Hl := Lib.hid hl
    clear hl
    have hi2 : i ≤ s.length := by omega
    by_cases hb : most < i
    · rw [if_pos (by omega)]
      go_enter Tryz.func49, Tryz.ntmps49
      go_wp2_with (go_at_call 83; refine hc.mono ?_; rintro e w' ⟨rfl, rfl⟩)
      go_ret3
      exact ⟨rfl, rfl⟩
    · rw [if_neg (by omega)]
      go_enter Tryz.func49, Tryz.ntmps49
      go_wp2_with (go_at_call 83; refine hc.mono ?_; rintro e w' ⟨rfl, rfl⟩)
      go_ret3
      refine ⟨?_, rfl⟩
      show _ = Ending.returned (.tuple #[S (s.take i), .int .i64 ((s.take i).length + 2), .int .i64 0])
      rw [Hl.out]
      simp
end Go.Proofs.YtfgjbflddabdcaaGreatDoor
