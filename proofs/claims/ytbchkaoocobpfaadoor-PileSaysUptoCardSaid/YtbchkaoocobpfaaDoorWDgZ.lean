/- Walk: digest.Sum. -/
import Derived.Test.YtbchkaoocobpfaaDoorWDgS
namespace Go.Proofs.YtbchkaoocobpfaaDoor
open Go.RowKit Go.Larder
set_option linter.unusedVariables false
set_option linter.unusedSimpArgs false
def NewH (w : World) (e : Ending) (w' : World) : Prop := ∃ g, e = .returned (.pointer (some ⟨g, 0, none⟩)) ∧ w.heap.size ≤ g ∧ HashAt w' g w.heap.size [] startH 0 [] none 0 ∧ Below w.heap.size w w'
set_option maxHeartbeats 400000 in
theorem w_DSum (s : List UInt8) (hs : s.length ≤ 8000000) (w : World) :
    Calls Tryd.prog 10 #[S s] w fun e w' => e = .returned (S (digL s)) ∧ Below w.heap.size w w' := by
  go_enter Tryd.func10, Tryd.ntmps10
  go_wp2_with fail
  refine Calls.mono (w_DNew _) ?_
  rintro e w1 ⟨g, rfl, hg, hh, hb1⟩
  go_wp2_with fail
  refine Calls.mono (w_DWrite g w.heap.size [] s startH 0 [] none 0 (by simpa using hs) w1 hh hg hb1.size) ?_
  rintro e w2 ⟨rfl, hf, hb2⟩
  go_wp2_with fail
  refine Calls.mono (w_DSumH g w.heap.size s w2 hf hs) ?_
  rintro e w3 ⟨rfl, hb3⟩
  go_wp2_with fail
  go_ret
  exact ⟨rfl, (hb1.trans hb2).trans (hb3.mono (hb1.trans hb2).size)⟩
end Go.Proofs.YtbchkaoocobpfaaDoor
