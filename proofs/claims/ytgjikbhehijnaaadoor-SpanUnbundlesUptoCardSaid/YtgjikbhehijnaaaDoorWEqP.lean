/- R.Eq at lists of pairs: two slices that read as one list are the same. -/
import Derived.Test.YtgjikbhehijnaaaDoorChecked
import Derived.Test.YtgjikbhehijnaaaDoorBase
import Derived.Deep.QuietTactic
import Derived.BigQuiet
namespace Go.Proofs.YtgjikbhehijnaaaDoor
open Go.RowKit Go.Larder
set_option linter.unusedVariables false
set_option linter.unusedSimpArgs false

set_option maxHeartbeats 1000000 in
theorem w_Eq_nums_Slice (l : List (Int × Int)) (hl : l.length ≤ 140737488351232) (A A' : Option Addr) (c c' B B' : Nat) (w : World) (hB : B ≤ w.heap.size) (hB' : B' ≤ w.heap.size) (h : ReadL encII w B A l) (h' : ReadL encII w B' A' l) :
    Calls Tryd.prog 30 #[.slice A l.length c, .slice A' l.length c'] w fun e w' => e = .returned (.bool true) ∧ Below w.heap.size w w' := by
  have H := Lib.hid h; clear h
  have H' := Lib.hid h'; clear h'
  go_enter Tryd.func30, Tryd.ntmps30
  go_wp2_with fail
  go_loopw [14] (fun v wr => (∃ k : Nat, v = .int .i64 k ∧ k ≤ l.length) ∧ Below w.heap.size w wr) (fun v _ => l.length - (intOf v).toNat)
  case atStart => exact ⟨⟨0, rfl, by omega⟩, Below.refl _ _⟩
  case round =>
    obtain ⟨⟨k, rfl, hk⟩, hbel⟩ := hrel
    have hbs := hbel.size
    by_cases hlt : k < l.length
    · obtain ⟨⟨x, y⟩, hx, _⟩ := drop_step hlt
      obtain ⟨b, off, rfl, hb, hc0, hc1⟩ := (H.out.below (hbel.mono hB) (Nat.le_refl _)).at_II hx
      obtain ⟨b', off', rfl, hb', hc0', hc1'⟩ := (H'.out.below (hbel.mono hB') (Nat.le_refl _)).at_II hx
      clear hx
      have hb1 : b < wr.heap.size := by omega
      have hb1' : b' < wr.heap.size := by omega
      go_wp2_with fail
      go_quiet (fail)
      go_wp2_with fail
      go_roundw
      case rel => exact ⟨⟨k + 1, by go_num, by omega⟩, below_drewN (hbel.alloc hbs _) _⟩
      case measure => simp [intOf]; omega
    · go_wp2_with fail
      go_ret
      exact ⟨rfl, hbel⟩
end Go.Proofs.YtgjikbhehijnaaaDoor
