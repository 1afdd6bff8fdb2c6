/- Numbers written to the base of 16. No program in sight. -/
import Derived.Test.YtbchkaoocobpfaaDoorBase
namespace Go.Larder
set_option linter.unusedSimpArgs false
set_option linter.unusedVariables false
def hxTab : List UInt8 := [48, 49, 50, 51, 52, 53, 54, 55, 56, 57, 97, 98, 99, 100, 101, 102]
def hexd (k : Nat) : UInt8 := hxTab.getD k 0
def hxL (n : Nat) : List UInt8 := if h : n < 16 then [hexd n] else hxL (n / 16) ++ [hexd (n % 16)]
theorem hxL_one {n : Nat} (h : n < 16) : hxL n = [hexd n] := by rw [hxL, dif_pos h]
theorem hxL_step {n : Nat} (h : ¬ n < 16) : hxL n = hxL (n / 16) ++ [hexd (n % 16)] := by rw [hxL, dif_neg h]
theorem hxL_pos (n : Nat) : 1 ≤ (hxL n).length := by
  by_cases h : n < 16
  · rw [hxL_one h]; simp
  · rw [hxL_step h]; simp
theorem hxL_len {n : Nat} (h : n ≤ 5000) : (hxL n).length ≤ 4 := by
  have e : ∀ m : Nat, m < 16 → (hxL m).length = 1 := fun m hm => by rw [hxL_one hm]; rfl
  have s : ∀ m : Nat, ¬ m < 16 → (hxL m).length = (hxL (m / 16)).length + 1 := fun m hm => by rw [hxL_step hm]; simp
  by_cases h1 : n < 16
  · rw [e n h1]; omega
  · rw [s n h1]
    by_cases h2 : n / 16 < 16
    · rw [e _ h2]; omega
    · rw [s _ h2]
      by_cases h3 : n / 16 / 16 < 16
      · rw [e _ h3]; omega
      · rw [s _ h3, e _ (by omega)]; omega
theorem sixteen {P : Nat → Prop} (h0 : P 0) (h1 : P 1) (h2 : P 2) (h3 : P 3) (h4 : P 4) (h5 : P 5) (h6 : P 6) (h7 : P 7) (h8 : P 8) (h9 : P 9) (h10 : P 10) (h11 : P 11) (h12 : P 12) (h13 : P 13) (h14 : P 14) (h15 : P 15) : ∀ k, k < 16 → P k
  | 0, _ => h0 | 1, _ => h1 | 2, _ => h2 | 3, _ => h3 | 4, _ => h4 | 5, _ => h5 | 6, _ => h6 | 7, _ => h7 | 8, _ => h8 | 9, _ => h9 | 10, _ => h10 | 11, _ => h11 | 12, _ => h12 | 13, _ => h13 | 14, _ => h14 | 15, _ => h15
  | n + 16, h => absurd h (by omega)
end Go.Larder
