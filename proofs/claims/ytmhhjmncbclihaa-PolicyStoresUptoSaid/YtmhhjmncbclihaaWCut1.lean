/- Walks: strings.Cut at one byte; Unquote of any text, both. -/
import Derived.Test.YtmhhjmncbclihaaWIs
import Derived.Test.YtmhhjmncbclihaaWTok
import Derived.Test.YtmhhjmncbclihaaWRef1
import Derived.Test.YtmhhjmncbclihaaSpecs
import Derived.Deep.QuietTactic
import Derived.BigQuiet
namespace Go.Proofs.Ytmhhjmncbclihaa
open Go.RowKit Go.Larder
set_option linter.unusedVariables false
set_option linter.unusedSimpArgs false

set_option maxHeartbeats 1000000 in
theorem w_liteCut_no (l : List UInt8) (c : UInt8) (h : Lib.indexByte l c = -1) (w : World) :
    Calls Try.prog 167 #[S l, S [c]] w fun e w' => e = .returned (.tuple #[S l, S [], .bool false]) ∧ w = w' := by
  have hi := w_liteIndex1 l c w
  rw [h] at hi
  go_enter Try.func167, Try.ntmps167
  go_wp2_with (go_at_call 156; refine hi.mono ?_; rintro e w' ⟨rfl, rfl⟩)
  go_ret3
  exact ⟨rfl, rfl⟩
set_option maxHeartbeats 1000000 in
theorem w_liteCut_at (l : List UInt8) (c : UInt8) (k : Nat) (h : Lib.indexByte l c = (k : Int)) (hk : k < l.length) (hl : l.length ≤ 140737488351232) (w : World) :
    Calls Try.prog 167 #[S l, S [c]] w fun e w' => e = .returned (.tuple #[S (l.take k), S (l.drop (k + 1)), .bool true]) ∧ Below w.heap.size w w' := by
  have hi := w_liteIndex1 l c w
  rw [h] at hi
  have hk2 : k ≤ l.length := by omega
  have hk3 : k + 1 ≤ l.length := by omega
  have e1 : (l.drop (k + 1)).take (l.length - (k + 1)) = l.drop (k + 1) := by rw [List.take_of_length_le]; simp
  go_enter Try.func167, Try.ntmps167
  go_wp2_with (go_at_call 156; refine hi.mono ?_; rintro e w' ⟨rfl, rfl⟩)
  go_quiet (fail)
  go_wp2_with fail
  go_ret3
  exact ⟨by simp, below_drewN (Below.refl _ _) _⟩
theorem w_Cut_no (l : List UInt8) (c : UInt8) (h : Lib.indexByte l c = -1) (w : World) :
    Calls Try.prog 154 #[S l, S [c]] w fun e w' => e = .returned (.tuple #[S l, S [], .bool false]) ∧ w = w' := by
  go_enter Try.func154, Try.ntmps154
  go_wp2_with (go_at_call 167; refine (w_liteCut_no l c h _).mono ?_; rintro e w' ⟨rfl, rfl⟩)
  go_ret3
  exact ⟨rfl, rfl⟩
theorem w_Cut_at (l : List UInt8) (c : UInt8) (k : Nat) (h : Lib.indexByte l c = (k : Int)) (hk : k < l.length) (hl : l.length ≤ 140737488351232) (w : World) :
    Calls Try.prog 154 #[S l, S [c]] w fun e w' => e = .returned (.tuple #[S (l.take k), S (l.drop (k + 1)), .bool true]) ∧ Below w.heap.size w w' := by
  go_enter Try.func154, Try.ntmps154
  go_wp2_with (go_at_call 167; refine (w_liteCut_at l c k h hk hl _).mono ?_; rintro e w1 ⟨rfl, hb⟩)
  go_ret3
  exact ⟨rfl, hb⟩

theorem w_UnqA (l : List UInt8) (hl : l.length ≤ 140737488351232) (w : World) :
    Calls Try.prog 155 #[S l] w fun e w' => e = .returned (.tuple #[S (unqAll l).1, .int .i64 (unqAll l).2]) ∧ Below w.heap.size w w' := by
  by_cases h : l.length < 2
  · rw [unqAll_short h]
    refine (w_Unquote_short l h w).mono ?_
    rintro e w' ⟨rfl, rfl⟩
    exact ⟨rfl, Below.refl _ _⟩
  · obtain ⟨a, m, b, rfl⟩ := mid_of h
    rw [unqAll_mid]
    exact w_Unquote a m b (by simp at hl; omega) w
theorem w_UnqAR (l : List UInt8) (hl : l.length ≤ 140737488351232) (w : World) :
    Calls Try.prog 136 #[S l] w fun e w' => e = .returned (.tuple #[S (unqAll l).1, .int .i64 (unqAll l).2]) ∧ w = w' := by
  by_cases h : l.length < 2
  · rw [unqAll_short h]
    exact w_UnquoteR_short l h w
  · obtain ⟨a, m, b, rfl⟩ := mid_of h
    rw [unqAll_mid, unqMid_eq]
    exact w_UnquoteR a m b (by simp at hl; omega) w
end Go.Proofs.Ytmhhjmncbclihaa
