/- R.Eq at lists of numbers and of texts: two slices that read as one list are the same. -/
import Derived.Test.YtbchkaoocobpfaaDoorChecked
import Derived.Test.YtbchkaoocobpfaaDoorSpecs
namespace Go.Proofs.YtbchkaoocobpfaaDoor
open Go.RowKit Go.Larder
set_option linter.unusedVariables false
set_option linter.unusedSimpArgs false

theorem w_Eq_string (l : List (List UInt8)) (hl : l.length ≤ 140737488351232) (A A' : Option Addr) (c c' B B' : Nat) (w : World) (h : ReadL encS w B A l) (h' : ReadL encS w B' A' l) :
    Calls Tryd.prog 18 #[.slice A l.length c, .slice A' l.length c'] w fun e w' => e = .returned (.bool true) ∧ w = w' := by
  have H := Lib.hid h; clear h
  have H' := Lib.hid h'; clear h'
  go_enter Tryd.func18, Tryd.ntmps18
  go_wp2_with fail
  go_loop [14] (fun v => ∃ k : Nat, v = .int .i64 k ∧ k ≤ l.length) (fun v => l.length - (intOf v).toNat)
  case atStart => exact ⟨0, rfl, by omega⟩
  case round =>
    obtain ⟨k, rfl, hk⟩ := hrel
    by_cases hlt : k < l.length
    · obtain ⟨x, hx, _⟩ := drop_step hlt
      obtain ⟨b, off, rfl, _, hc⟩ := H.out.at_S hx
      obtain ⟨b', off', rfl, _, hc'⟩ := H'.out.at_S hx
      clear hx
      go_wp2_with fail
      go_round
      case rel => exact ⟨k + 1, by go_num, by omega⟩
      case measure => simp [intOf]; omega
    · go_wp2_with fail
      go_ret
      exact ⟨rfl, rfl⟩
end Go.Proofs.YtbchkaoocobpfaaDoor
