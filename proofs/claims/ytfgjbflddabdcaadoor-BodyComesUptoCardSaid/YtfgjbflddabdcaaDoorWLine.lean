/- Walks: first lines and requests' lines: the program's, the reference's. -/
import Derived.Test.YtfgjbflddabdcaaDoorWLib
import Derived.Test.YtfgjbflddabdcaaDoorWFc0
import Derived.Test.YtfgjbflddabdcaaDoorSpecLine
import Derived.Test.YtfgjbflddabdcaaDoorFlat
import Derived.Test.YtfgjbflddabdcaaDoorApp
import Derived.Deep.RegionWith
import Derived.Deep.QuietTactic
import Derived.BigQuiet
namespace Go.Proofs.YtfgjbflddabdcaaDoor
open Go.RowKit Go.Larder
set_option linter.unusedVariables false
set_option linter.unusedSimpArgs false


/-- A line, and how many bytes it has with its end. -/
def LinePost (w : World) (r : Except Int (List UInt8)) (e : Ending) (w' : World) : Prop := (match r with
  | .error n => e = .returned (.tuple #[S [], .int .i64 0, .int .i64 n])
  | .ok l => e = .returned (.tuple #[S l, .int .i64 (l.length + 2), .int .i64 0])) ∧ w = w'

set_option maxHeartbeats 1000000 in
theorem w_lineOf (s : List UInt8) (hs : s.length ≤ 1048576) (most : Nat) (hm : most ≤ 2000) (w : World) (hM : ML w) :
    Calls Tryd.prog 66 #[S s, .int .i64 most] w (LinePost w (lineE s most)) := by
  have hc := w_Index s [13, 10] (by omega) w hM
  rcases index_cases s [13, 10] with h | ⟨i, h, hi⟩
  · rw [h] at hc
    rw [line_none h]
    by_cases hb : most + 1 < s.length
    · have hb2 : ((most : Int) + 1 < s.length) := by omega
      rw [if_pos (by omega)]
      go_enter Tryd.func66, Tryd.ntmps66
      go_wp2_with (go_at_call 31; refine hc.mono ?_; rintro e w' ⟨rfl, rfl⟩)
      go_ret3
      exact ⟨rfl, rfl⟩
    · have hb2 : ¬ ((most : Int) + 1 < s.length) := by omega
      have hb3 : ¬ ((most : Int) < -1) := by omega
      rw [if_neg (by omega)]
      go_enter Tryd.func66, Tryd.ntmps66
      go_wp2_with (go_at_call 31; refine hc.mono ?_; rintro e w' ⟨rfl, rfl⟩)
      go_ret3
      exact ⟨rfl, rfl⟩
  · rw [h] at hc
    rw [line_at h]
    simp only [List.length_cons, List.length_nil] at hi
    have hl : (s.take i).length = i := by rw [List.length_take]; omega
    have Hl := Lib.hid hl
    clear hl
    have hi2 : i ≤ s.length := by omega
    by_cases hb : most < i
    · rw [if_pos (by omega)]
      go_enter Tryd.func66, Tryd.ntmps66
      go_wp2_with (go_at_call 31; refine hc.mono ?_; rintro e w' ⟨rfl, rfl⟩)
      go_ret3
      exact ⟨rfl, rfl⟩
    · rw [if_neg (by omega)]
      go_enter Tryd.func66, Tryd.ntmps66
      go_wp2_with (go_at_call 31; refine hc.mono ?_; rintro e w' ⟨rfl, rfl⟩)
      go_ret3
      refine ⟨?_, rfl⟩
      show _ = Ending.returned (.tuple #[S (s.take i), .int .i64 ((s.take i).length + 2), .int .i64 0])
      rw [Hl.out]
      simp
end Go.Proofs.YtfgjbflddabdcaaDoor
