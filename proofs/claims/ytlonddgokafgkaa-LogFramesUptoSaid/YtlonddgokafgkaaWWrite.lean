/- Walks: Write. -/
import Derived.Test.YtlonddgokafgkaaWFrame
import Derived.Test.YtlonddgokafgkaaWBld
namespace Go.Proofs.Ytlonddgokafgkaa
open Go.RowKit Go.Larder
set_option linter.unusedVariables false
set_option linter.unusedSimpArgs false

set_option maxHeartbeats 1000000 in
theorem w_Write (l : List (List UInt8)) (hl : l.length ≤ 1048576) (hs : ∀ s ∈ l, s.length ≤ 140737488351232) (A : Option Addr) (c : Nat) (w : World) (hr : ReadL encS w w.heap.size A l) :
    Calls Try.prog 39 #[.slice A l.length c] w (StPost w (writeL l)) := by
  obtain ⟨R, hR⟩ : ∃ R, R = writeL l := ⟨_, rfl⟩
  rw [← hR]
  have HR := Lib.hid hR
  clear hR
  go_enter Try.func39, Try.ntmps39
  go_wp2_with fail
  go_loopw [11] (fun i' wr => ∃ (k : Nat) (acc : List UInt8), i' = .int .i64 k ∧ k ≤ l.length ∧ BldL wr w.heap.size w.heap.size acc ∧ Below w.heap.size w wr ∧ acc.length ≤ 1008 * k ∧ writeGo k (l.drop k) acc = writeL l) (fun i' _ => l.length - (intOf i').toNat)
  case atStart => exact ⟨0, [], rfl, by omega, BldL.new w, (Below.refl _ _).alloc (Nat.le_refl _) _, by simp, rfl⟩
  case round =>
    obtain ⟨k, acc, rfl, hk, hbld, hbel, hacc, heq⟩ := hrel
    have hbs := hbel.size
    by_cases hlt : k < l.length
    · obtain ⟨x, hx, hd⟩ := drop_step hlt
      have hxl := hs x (List.mem_of_getElem? hx)
      obtain ⟨g, off, rfl, hgb, hc0⟩ := (hr.below hbel (Nat.le_refl _)).at_S hx
      rw [hd] at heq
      have hk2 : k ≤ 2147483648 := by omega
      have hk3 : (k : Int) ≤ 2147483648 := by omega
      clear hd hx
      by_cases h1000 : 1000 < x.length
      · rw [writeGo_big hk2 h1000] at heq
        have HR2 := Lib.hid (show R = .error 2 from by rw [HR.out, ← heq])
        clear heq
        go_wp2_with (go_at_call 37; refine (w_Frame_big k x hk2 h1000 hxl _).mono ?_; rintro e w' ⟨rfl, rfl⟩)
        go_ret2
        rw [HR2.out]
        exact ⟨rfl, hbel⟩
      · rw [writeGo_ok hk2 h1000] at heq
        have Heq := Lib.hid heq; clear heq
        have hfl := frameL_len k x
        go_wp2_with (go_at_call 37; refine (w_Frame k x hk2 (by omega) _).mono ?_; rintro e w2 ⟨rfl, hb2⟩)
        generalize frameL k x = F at hfl Heq ⊢
        have hbel2 := hbel.trans (hb2.mono hbs)
        have hbld2 : BldL w2 w.heap.size w.heap.size acc := hbld.below hb2 (Nat.le_refl _)
        go_wp2_with (go_at_call 61; refine (w_BWrite _ _ acc F _ hbld2 (by omega) hbel2.size).mono ?_; rintro e w3 ⟨rfl, hbld3, hb3⟩)
        go_roundw
        case rel => exact ⟨k + 1, acc ++ F, by go_num, by omega, hbld3, hbel2.trans hb3, by simp; omega, Heq.out⟩
        case measure => simp [intOf]; omega
    · rw [drop_end hlt, writeGo] at heq
      have HR2 := Lib.hid (show R = .ok acc from by rw [HR.out, ← heq])
      clear heq
      go_wp2_with (go_at_call 62; refine (w_BString _ _ acc _ hbld hbs).mono ?_; rintro e w3 ⟨rfl, hb3⟩)
      go_ret2
      rw [HR2.out]
      exact ⟨rfl, hbel.trans hb3⟩

set_option maxHeartbeats 1000000 in
theorem w_WriteR (l : List (List UInt8)) (hl : l.length ≤ 1048576) (hs : ∀ s ∈ l, s.length ≤ 140737488351232) (A : Option Addr) (c : Nat) (w : World) (hr : ReadL encS w w.heap.size A l) :
    Calls Try.prog 40 #[.slice A l.length c] w (StPost w (writeL l)) := by
  obtain ⟨R, hR⟩ : ∃ R, R = writeL l := ⟨_, rfl⟩
  rw [← hR]
  have HR := Lib.hid hR
  clear hR
  go_enter Try.func40, Try.ntmps40
  go_wp2_with fail
  go_loopw [4, 11] (fun o i' wr => ∃ (k : Nat) (acc : List UInt8), i' = .int .i64 k ∧ k ≤ l.length ∧ o = S acc ∧ Below w.heap.size w wr ∧ acc.length ≤ 1008 * k ∧ writeGo k (l.drop k) acc = writeL l) (fun _ i' _ => l.length - (intOf i').toNat)
  case atStart => exact ⟨0, [], rfl, by omega, rfl, Below.refl _ _, by simp, rfl⟩
  case round =>
    obtain ⟨k, acc, rfl, hk, rfl, hbel, hacc, heq⟩ := hrel
    have hbs := hbel.size
    by_cases hlt : k < l.length
    · obtain ⟨x, hx, hd⟩ := drop_step hlt
      have hxl := hs x (List.mem_of_getElem? hx)
      obtain ⟨g, off, rfl, hgb, hc0⟩ := (hr.below hbel (Nat.le_refl _)).at_S hx
      rw [hd] at heq
      have hk2 : k ≤ 2147483648 := by omega
      have hk3 : (k : Int) ≤ 2147483648 := by omega
      clear hd hx
      by_cases h1000 : 1000 < x.length
      · rw [writeGo_big hk2 h1000] at heq
        have HR2 := Lib.hid (show R = .error 2 from by rw [HR.out, ← heq])
        clear heq
        go_wp2_with (go_at_call 38; refine (w_FrameR_big k x hk2 h1000 hxl _).mono ?_; rintro e w' ⟨rfl, rfl⟩)
        go_ret2
        rw [HR2.out]
        exact ⟨rfl, hbel⟩
      · rw [writeGo_ok hk2 h1000] at heq
        have Heq := Lib.hid heq; clear heq
        have hfl := frameL_len k x
        go_wp2_with (go_at_call 38; refine (w_FrameR k x hk2 (by omega) _).mono ?_; rintro e w2 ⟨rfl, hb2⟩)
        generalize frameL k x = F at hfl Heq ⊢
        have hbel2 := hbel.trans (hb2.mono hbs)
        go_wp2_with fail
        go_roundw
        case rel => exact ⟨k + 1, acc ++ F, by go_num, by omega, rfl, hbel2, by simp; omega, Heq.out⟩
        case measure => simp [intOf]; omega
    · rw [drop_end hlt, writeGo] at heq
      have HR2 := Lib.hid (show R = .ok acc from by rw [HR.out, ← heq])
      clear heq
      go_wp2_with fail
      go_ret2
      rw [HR2.out]
      exact ⟨rfl, hbel⟩
end Go.Proofs.Ytlonddgokafgkaa
