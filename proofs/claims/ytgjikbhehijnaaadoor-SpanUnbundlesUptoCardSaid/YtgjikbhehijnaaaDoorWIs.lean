/- Walks: strings.Contains at one byte; tokens, the program's and the reference's. -/
import Derived.Test.YtgjikbhehijnaaaDoorWLowR
import Derived.Test.YtgjikbhehijnaaaDoorSpecIs
namespace Go.Proofs.YtgjikbhehijnaaaDoor
open Go.RowKit Go.Larder
set_option linter.unusedVariables false
set_option linter.unusedSimpArgs false

set_option maxHeartbeats 1000000 in
theorem w_liteIndex1 (l : List UInt8) (c : UInt8) (w : World) :
    Calls Tryd.prog 83 #[S l, S [c]] w fun e w' => e = .returned (.int .i64 (Lib.indexByte l c)) ∧ w = w' := by
  cases hcl : ([c] == l)
  · go_enter Tryd.func83, Tryd.ntmps83
    go_wp2_with (go_at_call 70; refine (lo_liteIndexByte l c _).mono ?_; rintro e w' ⟨rfl, rfl⟩)
    go_ret
    exact ⟨rfl, rfl⟩
  · have hl : l = [c] := by have := hcl; simp at this; exact this.symm
    subst hl
    have h0 : Lib.indexByte [c] c = 0 := by simp [Lib.indexByte]
    go_enter Tryd.func83, Tryd.ntmps83
    go_wp2_with fail
    go_ret
    exact ⟨by rw [h0]; rfl, rfl⟩
theorem w_Index1 (l : List UInt8) (c : UInt8) (w : World) :
    Calls Tryd.prog 58 #[S l, S [c]] w fun e w' => e = .returned (.int .i64 (Lib.indexByte l c)) ∧ w = w' := by
  go_enter Tryd.func58, Tryd.ntmps58
  go_wp2_with (go_at_call 83; refine (w_liteIndex1 l c _).mono ?_; rintro e w' ⟨rfl, rfl⟩)
  go_ret
  exact ⟨rfl, rfl⟩
theorem w_Contains1 (l : List UInt8) (c : UInt8) (w : World) :
    Calls Tryd.prog 98 #[S l, S [c]] w fun e w' => e = .returned (.bool (inTab l c)) ∧ w = w' := by
  go_enter Tryd.func98, Tryd.ntmps98
  go_wp2_with (go_at_call 58; refine (w_Index1 l c _).mono ?_; rintro e w' ⟨rfl, rfl⟩)
  go_ret
  exact ⟨rfl, rfl⟩

theorem w_isTokenByte (c : UInt8) (w : World) :
    Calls Tryd.prog 94 #[.int .u8 c.toNat] w fun e w' => e = .returned (.bool (tokB c)) ∧ w = w' := by
  have hj : (0 : Int) ≤ Lib.indexByte signsL c ↔ inTab signsL c = true := by simp [inTab]
  go_enter Tryd.func94, Tryd.ntmps94
  go_wp2_with (go_at_call 39; refine (lo_IndexByte signsL c _).mono ?_; rintro e w' ⟨rfl, rfl⟩)
  all_goals
    go_ret
    rw [tokB_eq]
    refine ⟨?_, rfl⟩
    simp_all [inTab]
    try omega

set_option maxHeartbeats 1000000 in
theorem w_IsToken (l : List UInt8) (hl : l.length ≤ 140737488351232) (w : World) :
    Calls Tryd.prog 76 #[S l] w fun e w' => e = .returned (.bool (isTok l)) ∧ w = w' := by
  go_enter Tryd.func76, Tryd.ntmps76
  go_wp2_with fail
  go_loop [6] (fun i' => ∃ k : Nat, i' = .int .i64 k ∧ k ≤ l.length ∧ (l.take k).all tokB = true) (fun i' => l.length - (intOf i').toNat)
  case atStart => exact ⟨0, rfl, by omega, rfl⟩
  case round =>
    obtain ⟨k, rfl, hk, hall⟩ := hrel
    by_cases hlt : k < l.length
    · obtain ⟨x, hx, _⟩ := drop_step hlt
      have Hall := Lib.hid hall; clear hall
      have Hx := Lib.hid hx
      have hg : ∀ h, l[k]'h = x := fun h => by rw [List.getElem?_eq_getElem h] at hx; exact Option.some.inj hx
      cases ht : tokB x
      · go_wp2_with (go_at_call 94; refine (w_isTokenByte x _).mono ?_; rintro e w' ⟨rfl, rfl⟩)
        go_ret
        exact ⟨by simp [isTok, all_bad Hx.out ht], rfl⟩
      · go_wp2_with (go_at_call 94; refine (w_isTokenByte x _).mono ?_; rintro e w' ⟨rfl, rfl⟩)
        go_round
        case rel => exact ⟨k + 1, by go_num, by omega, all_step Hx.out Hall.out ht⟩
        case measure => simp [intOf]; omega
    · obtain rfl : k = l.length := by omega
      rw [List.take_length] at hall
      go_wp2_with fail
      go_ret
      refine ⟨?_, rfl⟩
      cases l <;> simp_all [isTok]

set_option maxHeartbeats 1000000 in
theorem w_allOf (l t : List UInt8) (hl : l.length ≤ 140737488351232) (w : World) :
    Calls Tryd.prog 81 #[S l, S t] w fun e w' => e = .returned (.bool (l.all (inTab t))) ∧ w = w' := by
  go_enter Tryd.func81, Tryd.ntmps81
  go_wp2_with fail
  go_loop [8] (fun i' => ∃ k : Nat, i' = .int .i64 k ∧ k ≤ l.length ∧ (l.take k).all (inTab t) = true) (fun i' => l.length - (intOf i').toNat)
  case atStart => exact ⟨0, rfl, by omega, rfl⟩
  case round =>
    obtain ⟨k, rfl, hk, hall⟩ := hrel
    by_cases hlt : k < l.length
    · obtain ⟨x, hx, _⟩ := drop_step hlt
      have Hall := Lib.hid hall; clear hall
      have Hx := Lib.hid hx
      have hg : ∀ h, l[k]'h = x := fun h => by rw [List.getElem?_eq_getElem h] at hx; exact Option.some.inj hx
      have hd : List.take 1 (List.drop k l) = [x] := by rw [List.drop_eq_getElem_cons hlt, hg]; rfl
      have hd2 : List.take (k + 1 - k) (List.drop k l) = [x] := by rw [show k + 1 - k = 1 from by omega]; exact hd
      cases ht : inTab t x
      · go_wp2_with (go_at_call 98; refine (w_Contains1 t x _).mono ?_; rintro e w' ⟨rfl, rfl⟩)
        go_ret
        have hq := all_bad Hx.out ht
        rw [hq]
        exact ⟨rfl, rfl⟩
      · go_wp2_with (go_at_call 98; refine (w_Contains1 t x _).mono ?_; rintro e w' ⟨rfl, rfl⟩)
        go_round
        case rel => exact ⟨k + 1, by go_num, by omega, all_step Hx.out Hall.out ht⟩
        case measure => simp [intOf]; omega
    · obtain rfl : k = l.length := by omega
      rw [List.take_length] at hall
      go_wp2_with fail
      go_ret
      exact ⟨rfl, rfl⟩

theorem w_TokenR (l : List UInt8) (hl : l.length ≤ 140737488351232) (w : World) :
    Calls Tryd.prog 56 #[S l] w fun e w' => e = .returned (.bool (isTok l)) ∧ w = w' := by
  go_enter Tryd.func56, Tryd.ntmps56
  cases l with
  | nil =>
    go_wp2_with fail
    go_ret
    exact ⟨rfl, rfl⟩
  | cons a l =>
    go_wp2_with (go_at_call 81; refine (w_allOf (a :: l) tokTab hl _).mono ?_; rintro e w' ⟨rfl, rfl⟩)
    go_ret
    exact ⟨rfl, rfl⟩
end Go.Proofs.YtgjikbhehijnaaaDoor
