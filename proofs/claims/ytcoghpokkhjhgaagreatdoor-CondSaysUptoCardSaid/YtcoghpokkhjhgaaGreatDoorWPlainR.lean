/- Walks: the reference's plain, outside. -/
import Derived.Test.YtcoghpokkhjhgaaGreatDoorChecked
import Derived.Test.YtcoghpokkhjhgaaGreatDoorSpecs
namespace Go.Proofs.YtcoghpokkhjhgaaGreatDoor
open Go.RowKit Go.Larder
set_option linter.unusedVariables false
set_option linter.unusedSimpArgs false
theorem c1_outside (n lo hi : Int) (w : World) :
    Calls Tryz.prog 101 #[.int .i64 n, .int .i64 lo, .int .i64 hi] w fun e w' => e = .returned (.bool (decide (n < lo) || decide (hi < n))) ∧ w = w' := by
  by_cases h : n < lo
  · have H := Lib.hid (show decide (n < lo) = true from by simpa using h)
    go_enter Tryz.func101, Tryz.ntmps101
    go_wp2
    go_ret
    exact ⟨ret_bool (by rw [H.out]; rfl), rfl⟩
  · have H := Lib.hid (show decide (n < lo) = false from by simpa using h)
    go_enter Tryz.func101, Tryz.ntmps101
    go_wp2
    go_ret
    exact ⟨ret_bool (by rw [H.out]; rfl), rfl⟩


theorem c1_plainR (l : List UInt8) (hl : l.length ≤ 140737488351232) (w : World) :
    Calls Tryz.prog 99 #[S l] w fun e w' => e = .returned (.bool (l.all isPl)) ∧ w = w' := by
  go_enter Tryz.func99, Tryz.ntmps99
  go_wp2_with fail
  go_loop [6] (fun v => ∃ k : Nat, v = .int .i64 k ∧ k ≤ l.length ∧ (l.drop k).all isPl = l.all isPl) (fun v => l.length - (intOf v).toNat)
  case atStart => exact ⟨0, rfl, by omega, rfl⟩
  case round =>
    obtain ⟨k, rfl, hk, hd⟩ := hrel
    have Hd := Lib.hid hd; clear hd
    by_cases hlt : k < l.length
    · obtain ⟨x, hx, hs⟩ := drop_step hlt
      have hg : ∀ h, l[k]'h = x := fun h => by rw [List.getElem?_eq_getElem h] at hx; exact Option.some.inj hx
      have Hs := Lib.hid hs; clear hs hx
      cases h9 : ((x.toNat : Int) == 9)
      · by_cases h1 : (x.toNat : Int) < 32
        · have Hp := Lib.hid (show isPl x = false from by simp at h9; simp [isPl, h9]; omega)
          go_wp2_with (go_at_call 101; refine (c1_outside _ _ _ _).mono ?_; rintro e w' ⟨rfl, rfl⟩)
          go_ret
          exact ⟨ret_bool (by rw [← Hd.out, Hs.out]; simp [Hp.out]), rfl⟩
        · by_cases h2 : 126 < (x.toNat : Int)
          · have Hp := Lib.hid (show isPl x = false from by simp at h9; simp [isPl, h9]; omega)
            go_wp2_with (go_at_call 101; refine (c1_outside _ _ _ _).mono ?_; rintro e w' ⟨rfl, rfl⟩)
            go_ret
            exact ⟨ret_bool (by rw [← Hd.out, Hs.out]; simp [Hp.out]), rfl⟩
          · have Hp := Lib.hid (show isPl x = true from by simp [isPl]; omega)
            go_wp2_with (go_at_call 101; refine (c1_outside _ _ _ _).mono ?_; rintro e w' ⟨rfl, rfl⟩)
            go_round
            case rel => exact ⟨k + 1, by go_num, by omega, by rw [← Hd.out, Hs.out]; simp [Hp.out]⟩
            case measure => simp [intOf]; omega
      · have Hp := Lib.hid (show isPl x = true from by simp [isPl, h9])
        go_wp2_with fail
        go_round
        case rel => exact ⟨k + 1, by go_num, by omega, by rw [← Hd.out, Hs.out]; simp [Hp.out]⟩
        case measure => simp [intOf]; omega
    · go_wp2_with fail
      go_ret
      exact ⟨ret_bool (by rw [← Hd.out, drop_end hlt]; rfl), rfl⟩

end Go.Proofs.YtcoghpokkhjhgaaGreatDoor
