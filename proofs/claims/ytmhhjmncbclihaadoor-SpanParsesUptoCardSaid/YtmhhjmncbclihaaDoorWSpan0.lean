/- Walks: what is asked for, checked. -/
import Derived.Test.YtmhhjmncbclihaaDoorSpecSpan
import Derived.Test.YtmhhjmncbclihaaDoorChecked
namespace Go.Proofs.YtmhhjmncbclihaaDoor
open Go.RowKit Go.Larder
set_option linter.unusedVariables false
set_option linter.unusedSimpArgs false

theorem w_isNumber (n : Int) (w : World) : Calls Tryd.prog 112 #[.int .i64 n] w (fun e w' => e = .returned (.bool (isNum n)) ∧ w = w') := by
  unfold isNum
  go_enter Tryd.func112, Tryd.ntmps112
  by_cases h1 : 0 ≤ n <;> by_cases h2 : n ≤ 99999
  all_goals
    go_wp2_with fail
    go_ret
    simp [h1, h2]

theorem w_outside (n a b : Int) (w : World) : Calls Tryd.prog 46 #[.int .i64 n, .int .i64 a, .int .i64 b] w (fun e w' => e = .returned (.bool (decide (n < a) || decide (b < n))) ∧ w = w') := by
  go_enter Tryd.func46, Tryd.ntmps46
  by_cases h1 : n < a <;> by_cases h2 : b < n
  all_goals
    go_wp2_with fail
    go_ret
    simp [h1, h2]

theorem w_isWant (a b : Int) (w : World) : Calls Tryd.prog 97 #[.agg #[.int .i64 a, .int .i64 b]] w (fun e w' => e = .returned (.bool (isWant (a, b))) ∧ Below w.heap.size w w') := by
  unfold isWant
  go_enter Tryd.func97, Tryd.ntmps97
  by_cases h1 : a = -1
  · go_wp2_with (go_at_call 112; refine (w_isNumber _ _).mono ?_; rintro e w' ⟨rfl, rfl⟩)
    go_ret
    exact ⟨by simp [h1], (Below.refl _ _).alloc (Nat.le_refl _) _⟩
  · by_cases h2 : b = -1
    · go_wp2_with (go_at_call 112; refine (w_isNumber _ _).mono ?_; rintro e w' ⟨rfl, rfl⟩)
      go_ret
      exact ⟨by simp [h1, h2], (Below.refl _ _).alloc (Nat.le_refl _) _⟩
    · cases h3 : isNum a
      · go_wp2_with (go_at_call 112; refine (w_isNumber _ _).mono ?_; rintro e w' ⟨rfl, rfl⟩)
        go_ret
        exact ⟨by simp [h1, h2, h3], (Below.refl _ _).alloc (Nat.le_refl _) _⟩
      · cases h4 : isNum b
        · go_wp2_with (go_at_call 112; refine (w_isNumber _ _).mono ?_; rintro e w' ⟨rfl, rfl⟩)
          go_ret
          exact ⟨by simp [h1, h2, h3, h4], (Below.refl _ _).alloc (Nat.le_refl _) _⟩
        · go_wp2_with (go_at_call 112; refine (w_isNumber _ _).mono ?_; rintro e w' ⟨rfl, rfl⟩)
          go_ret
          exact ⟨by simp [h1, h2, h3, h4], (Below.refl _ _).alloc (Nat.le_refl _) _⟩

/-- The reference's. -/
theorem w_wanted (a b : Int) (w : World) : Calls Tryd.prog 131 #[.agg #[.int .i64 a, .int .i64 b]] w (fun e w' => e = .returned (.bool (isWant (a, b))) ∧ Below w.heap.size w w') := by
  rw [isWant_R]
  go_enter Tryd.func131, Tryd.ntmps131
  by_cases h1 : a = -1
  · go_wp2_with (go_at_call 46; refine (w_outside _ _ _ _).mono ?_; rintro e w' ⟨rfl, rfl⟩)
    go_ret
    exact ⟨by simp [h1], (Below.refl _ _).alloc (Nat.le_refl _) _⟩
  · cases ho : decide (a < 0) || decide ((99999 : Int) < a)
    · by_cases h2 : b = -1
      · go_wp2_with (go_at_call 46; refine (w_outside _ _ _ _).mono ?_; rintro e w' ⟨rfl, rfl⟩)
        go_ret
        exact ⟨by simp [h1, h2], (Below.refl _ _).alloc (Nat.le_refl _) _⟩
      · go_wp2_with (go_at_call 46; refine (w_outside _ _ _ _).mono ?_; rintro e w' ⟨rfl, rfl⟩)
        go_ret
        exact ⟨by simp [h1, h2], (Below.refl _ _).alloc (Nat.le_refl _) _⟩
    · go_wp2_with (go_at_call 46; refine (w_outside _ _ _ _).mono ?_; rintro e w' ⟨rfl, rfl⟩)
      go_ret
      exact ⟨by simp [h1], (Below.refl _ _).alloc (Nat.le_refl _) _⟩

theorem w_checkR (l : List (Int × Int)) (hl : l.length ≤ 140737488351232) (A : Option Addr) (c : Nat) (w : World) (hr : ReadL encII w w.heap.size A l) :
    Calls Tryd.prog 100 #[.slice A l.length c] w (fun e w' => e = .returned (.int .i64 (checkR l)) ∧ Below w.heap.size w w') := by
  go_enter Tryd.func100, Tryd.ntmps100
  go_wp2_with fail
  go_loopw [7] (fun i' wr => ∃ k : Nat, i' = .int .i64 k ∧ k ≤ l.length ∧ ((l.drop k).any fun f => !isWant f) = (l.any fun f => !isWant f) ∧ Below w.heap.size w wr) (fun i' _ => l.length - (intOf i').toNat)
  case atStart => exact ⟨0, rfl, by omega, rfl, Below.refl _ _⟩
  case round =>
    obtain ⟨k, rfl, hk, heq, hbel⟩ := hrel
    have hbs := hbel.size
    by_cases hlt : k < l.length
    · obtain ⟨⟨a, b⟩, hx, hs⟩ := drop_step hlt
      obtain ⟨g, off, rfl, hgb, hc0, hc1⟩ := (hr.below hbel (Nat.le_refl _)).at_II hx
      rw [hs, List.any_cons] at heq
      cases hw : isWant (a, b)
      · rw [hw] at heq
        have Heq := Lib.hid heq; clear heq hs hx
        go_wp2_with (go_at_call 131; refine (w_wanted a b _).mono ?_; rintro e w2 ⟨rfl, hb2⟩)
        go_ret
        exact ⟨by rw [checkR, ← Heq.out]; simp, (hbel.alloc hbs _).trans (hb2.mono (by simp; omega))⟩
      · rw [hw] at heq
        have Heq := Lib.hid heq; clear heq hs hx
        go_wp2_with (go_at_call 131; refine (w_wanted a b _).mono ?_; rintro e w2 ⟨rfl, hb2⟩)
        go_roundw
        case rel => exact ⟨k + 1, rfl, by omega, by rw [← Heq.out]; simp, (hbel.alloc hbs _).trans (hb2.mono (by simp; omega))⟩
        case measure => simp [intOf]; omega
    · rw [drop_end hlt] at heq
      have Heq := Lib.hid heq; clear heq
      by_cases h0 : l.length = 0
      · go_wp2_with fail
        go_ret
        exact ⟨by simp [checkR, h0], hbel⟩
      · by_cases h20 : 20 < l.length
        · go_wp2_with fail
          go_ret
          exact ⟨by rw [checkR, ← Heq.out]; simp [h0, h20], hbel⟩
        · go_wp2_with fail
          go_ret
          exact ⟨by rw [checkR, ← Heq.out]; simp [h0, h20], hbel⟩

end Go.Proofs.YtmhhjmncbclihaaDoor
