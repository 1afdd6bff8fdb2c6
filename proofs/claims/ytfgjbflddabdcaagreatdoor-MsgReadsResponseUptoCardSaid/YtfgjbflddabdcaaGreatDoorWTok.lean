/- Walks through package token: each function returns what its Lean function computes. -/
import Derived.Test.YtfgjbflddabdcaaGreatDoorChecked
import Derived.Test.YtfgjbflddabdcaaGreatDoorSpecs
namespace Go.Proofs.YtfgjbflddabdcaaGreatDoor
open Go.RowKit Go.Larder
set_option linter.unusedVariables false
set_option linter.unusedSimpArgs false

theorem sl_u8 : SlT Tryz.prog 81 5 1 1 := SlT.mk' (z := .int .u8 0) Tryz.underlying81 (by kernel_rfl) rfl

theorem w_isBlank (c : UInt8) (w : World) :
    Calls Tryz.prog 164 #[.int .u8 c.toNat] w fun e w' => e = .returned (.bool (isB c)) ∧ w = w' := by
  unfold isB
  go_enter Tryz.func164, Tryz.ntmps164
  cases h : ((c.toNat : Int) == 32)
  all_goals go_wp2
  all_goals go_ret
  all_goals exact ⟨by simp, rfl⟩

theorem w_trim (l : List UInt8) (hl : l.length ≤ 140737488351232) (w : World) :
    Calls Tryz.prog 151 #[S l] w fun e w' => e = .returned (S (trim l)) ∧ w = w' := by
  go_enter Tryz.func151, Tryz.ntmps151
  go_wp2
  go_loop [0] (fun v => ∃ r : List UInt8, v = S r ∧ r.length ≤ l.length ∧ r.dropWhile isB = l.dropWhile isB) (fun v => lenOf v)
  case atStart => exact ⟨_, rfl, Nat.le_refl _, rfl⟩
  case round =>
    obtain ⟨r, rfl, hr, hd⟩ := hrel
    have Hd := Lib.hid hd; clear hd
    have key : ∀ r : List UInt8, r.length ≤ l.length → r = l.dropWhile isB → Hid (r = l.dropWhile isB) := fun _ _ h => h
    rcases r with _ | ⟨a, r⟩
    all_goals (try simp only [List.length_cons] at hr)
    · go_wp2_with fail
      go_loop [0] (fun v => v = S []) (fun v => 0)
      case atStart => rfl
      case round =>
        subst hrel
        go_wp2_with fail
        go_ret
        exact ⟨ret_S (by unfold trim; rw [← Hd.out]; rfl), rfl⟩
    · cases hb : isB a
      · go_wp2_with (go_at_call 164; refine (w_isBlank _ _).mono ?_; rintro e w' ⟨rfl, rfl⟩)
        go_loop [0] (fun v => ∃ r : List UInt8, v = S r ∧ r.length ≤ l.length ∧ trimR r = trim l) (fun v => lenOf v)
        case atStart => exact ⟨a :: r, rfl, by simp; omega, by unfold trim; rw [← Hd.out, List.dropWhile_cons, hb]; rfl⟩
        case round =>
          obtain ⟨r, rfl, hr, hd⟩ := hrel
          have Hd := Lib.hid hd; clear hd
          rcases nil_or_snoc r with rfl | ⟨r, b, rfl⟩
          · go_wp2_with fail
            go_ret
            exact ⟨ret_S (by rw [← Hd.out]; rfl), rfl⟩
          · simp only [List.length_append, List.length_singleton] at hr
            cases hb : isB b
            · go_wp2_with (go_at_call 164; refine (w_isBlank _ _).mono ?_; rintro e w' ⟨rfl, rfl⟩)
              go_ret
              exact ⟨ret_S (by rw [← Hd.out, trimR_snoc, hb]; rfl), rfl⟩
            · go_wp2_with (go_at_call 164; refine (w_isBlank _ _).mono ?_; rintro e w' ⟨rfl, rfl⟩)
              exact ⟨⟨r, rfl, by omega, by rw [← Hd.out, trimR_snoc, hb]; rfl⟩, by simp [lenOf_S]⟩
      · go_wp2_with (go_at_call 164; refine (w_isBlank _ _).mono ?_; rintro e w' ⟨rfl, rfl⟩)
        exact ⟨⟨r, rfl, by omega, by rw [← Hd.out, List.dropWhile_cons, hb]; rfl⟩, by simp [lenOf_S]⟩

end Go.Proofs.YtfgjbflddabdcaaGreatDoor
