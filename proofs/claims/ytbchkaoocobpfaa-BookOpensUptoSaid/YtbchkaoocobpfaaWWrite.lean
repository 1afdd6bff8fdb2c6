/- Walks: Write. -/
import Derived.Test.YtbchkaoocobpfaaWFrame
import Derived.Test.YtbchkaoocobpfaaWBld
namespace Go.Proofs.Ytbchkaoocobpfaa
open Go.RowKit Go.Larder
set_option linter.unusedVariables false
set_option linter.unusedSimpArgs false

set_option maxHeartbeats 1000000 in
theorem w_WriteR (l : List (List UInt8)) (hl : l.length ≤ 1048576) (hs : ∀ s ∈ l, s.length ≤ 140737488351232) (A : Option Addr) (c : Nat) (w : World) (hr : ReadL encL w w.heap.size A l) :
    Calls Try.prog 47 #[.slice A l.length c] w (StPost w (writeL l)) := by
  obtain ⟨R, hR⟩ : ∃ R, R = writeL l := ⟨_, rfl⟩
  rw [← hR]
  have HR := Lib.hid hR
  clear hR
  go_enter Try.func47, Try.ntmps47
  go_wp2_with fail
  go_loopw [4, 11] (fun o i' wr => ∃ (k : Nat) (acc : List UInt8), i' = .int .i64 k ∧ k ≤ l.length ∧ o = S acc ∧ Below w.heap.size w wr ∧ acc.length ≤ 1008 * k ∧ writeGo k (l.drop k) acc = writeL l) (fun _ i' _ => l.length - (intOf i').toNat)
  case atStart => exact ⟨0, [], rfl, by omega, rfl, Below.refl _ _, by simp, rfl⟩
  case round =>
    obtain ⟨k, acc, rfl, hk, rfl, hbel, hacc, heq⟩ := hrel
    have hbs := hbel.size
    by_cases hlt : k < l.length
    · obtain ⟨x, hx, hd⟩ := drop_step hlt
      have hxl := hs x (List.mem_of_getElem? hx)
      obtain ⟨g, off, rfl, hgb, hc0⟩ := (hr.below hbel (Nat.le_refl _)).at_S hx
      rw [hd] at heq
      have hk2 : k ≤ 2147483648 := by omega
      have hk3 : (k : Int) ≤ 2147483648 := by omega
      clear hd hx
      by_cases h1000 : 1000 < x.length
      · rw [writeGo_big hk2 h1000] at heq
        have HR2 := Lib.hid (show R = .error 2 from by rw [HR.out, ← heq])
        clear heq
        go_wp2_with (go_at_call 59; refine (w_FrameR_big k x hk2 h1000 hxl _).mono ?_; rintro e w' ⟨rfl, rfl⟩)
        go_ret2
        rw [HR2.out]
        exact ⟨rfl, hbel⟩
      · rw [writeGo_ok hk2 h1000] at heq
        have Heq := Lib.hid heq; clear heq
        have hfl := frameL_len k x
        go_wp2_with (go_at_call 59; refine (w_FrameR k x hk2 (by omega) _).mono ?_; rintro e w2 ⟨rfl, hb2⟩)
        generalize frameL k x = F at hfl Heq ⊢
        have hbel2 := hbel.trans (hb2.mono hbs)
        go_wp2_with fail
        go_roundw
        case rel => exact ⟨k + 1, acc ++ F, by go_num, by omega, rfl, hbel2, by simp; omega, Heq.out⟩
        case measure => simp [intOf]; omega
    · rw [drop_end hlt, writeGo] at heq
      have HR2 := Lib.hid (show R = .ok acc from by rw [HR.out, ← heq])
      clear heq
      go_wp2_with fail
      go_ret2
      rw [HR2.out]
      exact ⟨rfl, hbel⟩
end Go.Proofs.Ytbchkaoocobpfaa
