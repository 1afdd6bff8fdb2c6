/- Walks: what is asked for, checked. -/
import Derived.Test.YtemjoiaapfhenaaGreatDoorGd00
import Derived.Test.YtemjoiaapfhenaaGreatDoorGd02
import Derived.Test.YtemjoiaapfhenaaGreatDoorChecked
namespace Go.Proofs.YtemjoiaapfhenaaGreatDoor
open Go.RowKit Go.Larder
set_option linter.unusedVariables false
set_option linter.unusedSimpArgs false

theorem w_isNumber (n : Int) (w : World) : Calls Tryz.prog 231 #[.int .i64 n] w (fun e w' => e = .returned (.bool (isNum n)) ∧ w = w') := by
  unfold isNum
  go_enter Tryz.func231, Tryz.ntmps231
  by_cases h1 : 0 ≤ n <;> by_cases h2 : n ≤ 99999
  all_goals
    go_wp2_with fail
    go_ret
    simp [h1, h2]

theorem w_isWant (a b : Int) (w : World) : Calls Tryz.prog 209 #[.agg #[.int .i64 a, .int .i64 b]] w (fun e w' => e = .returned (.bool (isWant (a, b))) ∧ Below w.heap.size w w') := by
  unfold isWant
  go_enter Tryz.func209, Tryz.ntmps209
  by_cases h1 : a = -1
  · go_wp2_with (go_at_call 231; refine (w_isNumber _ _).mono ?_; rintro e w' ⟨rfl, rfl⟩)
    go_ret
    exact ⟨by simp [h1], (Below.refl _ _).alloc (Nat.le_refl _) _⟩
  · by_cases h2 : b = -1
    · go_wp2_with (go_at_call 231; refine (w_isNumber _ _).mono ?_; rintro e w' ⟨rfl, rfl⟩)
      go_ret
      exact ⟨by simp [h1, h2], (Below.refl _ _).alloc (Nat.le_refl _) _⟩
    · cases h3 : isNum a
      · go_wp2_with (go_at_call 231; refine (w_isNumber _ _).mono ?_; rintro e w' ⟨rfl, rfl⟩)
        go_ret
        exact ⟨by simp [h1, h2, h3], (Below.refl _ _).alloc (Nat.le_refl _) _⟩
      · cases h4 : isNum b
        · go_wp2_with (go_at_call 231; refine (w_isNumber _ _).mono ?_; rintro e w' ⟨rfl, rfl⟩)
          go_ret
          exact ⟨by simp [h1, h2, h3, h4], (Below.refl _ _).alloc (Nat.le_refl _) _⟩
        · go_wp2_with (go_at_call 231; refine (w_isNumber _ _).mono ?_; rintro e w' ⟨rfl, rfl⟩)
          go_ret
          exact ⟨by simp [h1, h2, h3, h4], (Below.refl _ _).alloc (Nat.le_refl _) _⟩

theorem w_check1 (a b : Int) (w : World) : Calls Tryz.prog 211 #[.agg #[.int .i64 a, .int .i64 b]] w (fun e w' => e = .returned (.bool (!isWant (a, b))) ∧ Below w.heap.size w w') := by
  go_enter Tryz.func211, Tryz.ntmps211
  go_wp2_with (go_at_call 209; refine (w_isWant _ _ _).mono ?_; rintro e w' ⟨rfl, hb⟩)
  go_ret
  exact ⟨rfl, ((Below.refl _ _).alloc (Nat.le_refl _) _).trans (hb.mono (by simp))⟩

/-- slices.IndexFunc at the closure. -/
theorem w_idx (l : List (Int × Int)) (hl : l.length ≤ 140737488351232) (A : Option Addr) (c : Nat) (w : World) (hr : ReadL encII w w.heap.size A l) :
    Calls Tryz.prog 232 #[.slice A l.length c, .func (.func 211) #[] #[]] w (fun e w' => (∃ n : Int, e = .returned (.int .i64 n) ∧ decide (0 ≤ n) = l.any fun f => !isWant f) ∧ Below w.heap.size w w') := by
  go_enter Tryz.func232, Tryz.ntmps232
  go_wp2_with fail
  go_loopw [8] (fun i' wr => ∃ k : Nat, i' = .int .i64 k ∧ k ≤ l.length ∧ ((l.drop k).any fun f => !isWant f) = (l.any fun f => !isWant f) ∧ Below w.heap.size w wr) (fun i' _ => l.length - (intOf i').toNat)
  case atStart => exact ⟨0, rfl, by omega, rfl, Below.refl _ _⟩
  case round =>
    obtain ⟨k, rfl, hk, heq, hbel⟩ := hrel
    by_cases hlt : k < l.length
    · obtain ⟨⟨a, b⟩, hx, hs⟩ := drop_step hlt
      obtain ⟨g, off, rfl, hgb, hc0, hc1⟩ := (hr.below hbel (Nat.le_refl _)).at_II hx
      rw [hs, List.any_cons] at heq
      cases hw : isWant (a, b)
      · rw [hw] at heq
        have Heq := Lib.hid heq; clear heq hs hx
        go_wp2_with (go_at_call 211; refine (w_check1 a b _).mono ?_; rintro e w2 ⟨rfl, hb2⟩)
        go_ret
        exact ⟨⟨_, rfl, by rw [← Heq.out]; simp⟩, hbel.trans (hb2.mono hbel.size)⟩
      · rw [hw] at heq
        have Heq := Lib.hid heq; clear heq hs hx
        go_wp2_with (go_at_call 211; refine (w_check1 a b _).mono ?_; rintro e w2 ⟨rfl, hb2⟩)
        go_roundw
        case rel => exact ⟨k + 1, rfl, by omega, by rw [← Heq.out]; simp, hbel.trans (hb2.mono hbel.size)⟩
        case measure => simp [intOf]; omega
    · rw [drop_end hlt] at heq
      have Heq := Lib.hid heq; clear heq
      go_wp2_with fail
      go_ret
      exact ⟨⟨_, rfl, by rw [← Heq.out]; simp⟩, hbel⟩

theorem w_contains (l : List (Int × Int)) (hl : l.length ≤ 140737488351232) (A : Option Addr) (c : Nat) (w : World) (hr : ReadL encII w w.heap.size A l) :
    Calls Tryz.prog 210 #[.slice A l.length c, .func (.func 211) #[] #[]] w (fun e w' => e = .returned (.bool (l.any fun f => !isWant f)) ∧ Below w.heap.size w w') := by
  go_enter Tryz.func210, Tryz.ntmps210
  go_wp2_with (go_at_call 232; refine (w_idx l hl A c _ hr).mono ?_; rintro e w2 ⟨⟨n, rfl, hn⟩, hb2⟩)
  go_ret
  exact ⟨by rw [← hn]; simp, hb2⟩

theorem wsp_check (l : List (Int × Int)) (hl : l.length ≤ 140737488351232) (A : Option Addr) (c : Nat) (w : World) (hr : ReadL encII w w.heap.size A l) :
    Calls Tryz.prog 173 #[.slice A l.length c] w (fun e w' => e = .returned (.int .i64 (checkP l)) ∧ Below w.heap.size w w') := by
  go_enter Tryz.func173, Tryz.ntmps173
  by_cases h0 : l.length = 0
  · go_wp2_with fail
    go_ret
    exact ⟨by simp [checkP, h0], Below.refl _ _⟩
  · cases h1 : l.any fun f => !isWant f
    · go_wp2_with (go_at_call 210; refine (w_contains l hl A c _ hr).mono ?_; rintro e w2 ⟨rfl, hb2⟩)
      go_ret
      exact ⟨by simp [checkP, h0, h1], hb2⟩
    · go_wp2_with (go_at_call 210; refine (w_contains l hl A c _ hr).mono ?_; rintro e w2 ⟨rfl, hb2⟩)
      go_ret
      exact ⟨by simp [checkP, h0, h1], hb2⟩

/-- The reference's. -/
theorem w_wanted (a b : Int) (w : World) : Calls Tryz.prog 157 #[.agg #[.int .i64 a, .int .i64 b]] w (fun e w' => e = .returned (.bool (isWant (a, b))) ∧ Below w.heap.size w w') := by
  rw [isWant_R]
  go_enter Tryz.func157, Tryz.ntmps157
  by_cases h1 : a = -1
  · go_wp2_with (go_at_call 76; refine (w_outside _ _ _ _).mono ?_; rintro e w' ⟨rfl, rfl⟩)
    go_ret
    exact ⟨by simp [h1], (Below.refl _ _).alloc (Nat.le_refl _) _⟩
  · cases ho : decide (a < 0) || decide ((99999 : Int) < a)
    · by_cases h2 : b = -1
      · go_wp2_with (go_at_call 76; refine (w_outside _ _ _ _).mono ?_; rintro e w' ⟨rfl, rfl⟩)
        go_ret
        exact ⟨by simp [h1, h2], (Below.refl _ _).alloc (Nat.le_refl _) _⟩
      · go_wp2_with (go_at_call 76; refine (w_outside _ _ _ _).mono ?_; rintro e w' ⟨rfl, rfl⟩)
        go_ret
        exact ⟨by simp [h1, h2], (Below.refl _ _).alloc (Nat.le_refl _) _⟩
    · go_wp2_with (go_at_call 76; refine (w_outside _ _ _ _).mono ?_; rintro e w' ⟨rfl, rfl⟩)
      go_ret
      exact ⟨by simp [h1], (Below.refl _ _).alloc (Nat.le_refl _) _⟩

theorem w_checkR (l : List (Int × Int)) (hl : l.length ≤ 140737488351232) (A : Option Addr) (c : Nat) (w : World) (hr : ReadL encII w w.heap.size A l) :
    Calls Tryz.prog 103 #[.slice A l.length c] w (fun e w' => e = .returned (.int .i64 (checkR l)) ∧ Below w.heap.size w w') := by
  go_enter Tryz.func103, Tryz.ntmps103
  go_wp2_with fail
  go_loopw [7] (fun i' wr => ∃ k : Nat, i' = .int .i64 k ∧ k ≤ l.length ∧ ((l.drop k).any fun f => !isWant f) = (l.any fun f => !isWant f) ∧ Below w.heap.size w wr) (fun i' _ => l.length - (intOf i').toNat)
  case atStart => exact ⟨0, rfl, by omega, rfl, Below.refl _ _⟩
  case round =>
    obtain ⟨k, rfl, hk, heq, hbel⟩ := hrel
    have hbs := hbel.size
    by_cases hlt : k < l.length
    · obtain ⟨⟨a, b⟩, hx, hs⟩ := drop_step hlt
      obtain ⟨g, off, rfl, hgb, hc0, hc1⟩ := (hr.below hbel (Nat.le_refl _)).at_II hx
      rw [hs, List.any_cons] at heq
      cases hw : isWant (a, b)
      · rw [hw] at heq
        have Heq := Lib.hid heq; clear heq hs hx
        go_wp2_with (go_at_call 157; refine (w_wanted a b _).mono ?_; rintro e w2 ⟨rfl, hb2⟩)
        go_ret
        exact ⟨by rw [checkR, ← Heq.out]; simp, (hbel.alloc hbs _).trans (hb2.mono (by simp; omega))⟩
      · rw [hw] at heq
        have Heq := Lib.hid heq; clear heq hs hx
        go_wp2_with (go_at_call 157; refine (w_wanted a b _).mono ?_; rintro e w2 ⟨rfl, hb2⟩)
        go_roundw
        case rel => exact ⟨k + 1, rfl, by omega, by rw [← Heq.out]; simp, (hbel.alloc hbs _).trans (hb2.mono (by simp; omega))⟩
        case measure => simp [intOf]; omega
    · rw [drop_end hlt] at heq
      have Heq := Lib.hid heq; clear heq
      by_cases h0 : l.length = 0
      · go_wp2_with fail
        go_ret
        exact ⟨by simp [checkR, h0], hbel⟩
      · by_cases h20 : 20 < l.length
        · go_wp2_with fail
          go_ret
          exact ⟨by rw [checkR, ← Heq.out]; simp [h0, h20], hbel⟩
        · go_wp2_with fail
          go_ret
          exact ⟨by rw [checkR, ← Heq.out]; simp [h0, h20], hbel⟩

end Go.Proofs.YtemjoiaapfhenaaGreatDoor
