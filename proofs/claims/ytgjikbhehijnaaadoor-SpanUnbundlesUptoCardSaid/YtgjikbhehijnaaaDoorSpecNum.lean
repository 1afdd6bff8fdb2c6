/- Digits read as a number. No program in sight. -/
import Derived.Test.YtgjikbhehijnaaaDoorSpecIs
import Derived.Lib.ItoaLen
namespace Go.Larder
set_option linter.unusedVariables false
set_option linter.unusedSimpArgs false
/-- the number of a text of digits, or -1 -/
def nmGo (n : Int) : List UInt8 → Int
  | [] => n
  | c :: l => if inTab tensTab c = true then nmGo (10 * n + (c.toNat - 48)) l else -1
def nm (l : List UInt8) : Int := nmGo 0 l
theorem nmGo_yes {n : Int} {c : UInt8} {l : List UInt8} (h : inTab tensTab c = true) : nmGo n (c :: l) = nmGo (10 * n + (c.toNat - 48)) l := by rw [nmGo, if_pos h]
theorem nmGo_no {n : Int} {c : UInt8} {l : List UInt8} (h : inTab tensTab c = false) : nmGo n (c :: l) = -1 := by rw [nmGo, if_neg (by simp [h])]
/-- the reference's count -/
def cnt (s : List UInt8) (most : Int) : Int := if s.isEmpty || decide (18 < s.length) || (decide (1 < s.length) && s.head? == some 48) then -1 else if most < nm s then -1 else nm s
theorem digB' (x : UInt8) (h : inTab tensTab x = true) : 48 ≤ x.toNat ∧ x.toNat ≤ 57 := by rw [tens_eq] at h; exact of_decide_eq_true h
theorem digN' (x : UInt8) (h : inTab tensTab x = false) : ¬ (48 ≤ x.toNat ∧ x.toNat ≤ 57) := by rw [tens_eq] at h; exact of_decide_eq_false h
theorem pow10_le {k : Nat} (h : k ≤ 18) : (10 ^ k : Nat) ≤ 1000000000000000000 := Nat.pow_le_pow_right (by omega) h
theorem nmGo_bd : ∀ (l : List UInt8) (n : Int) (j : Nat), 0 ≤ n → n + 1 ≤ (10 ^ j : Nat) → -1 ≤ nmGo n l ∧ nmGo n l + 1 ≤ (10 ^ (j + l.length) : Nat)
  | [], n, j, h0, h1 => ⟨by simp only [nmGo]; omega, by simp only [nmGo]; simpa using h1⟩
  | c :: l, n, j, h0, h1 => by
    cases hc : inTab tensTab c
    · rw [nmGo_no hc]; have : 0 < (10 ^ (j + (c :: l).length) : Nat) := Nat.pow_pos (by omega); exact ⟨by omega, by omega⟩
    · obtain ⟨ha, hb⟩ := digB' c hc
      rw [nmGo_yes hc]
      have := nmGo_bd l (10 * n + (c.toNat - 48)) (j + 1) (by omega) (by rw [Nat.pow_succ]; omega)
      rw [List.length_cons, show j + (l.length + 1) = j + 1 + l.length from by omega]
      exact this
theorem nm_bd (l : List UInt8) (k : Nat) (h : l.length ≤ k) : -1 ≤ nm l ∧ nm l + 1 ≤ (10 ^ k : Nat) := by
  have := nmGo_bd l 0 0 (by omega) (by omega)
  rw [Nat.zero_add] at this
  have h2 : (10 ^ l.length : Nat) ≤ 10 ^ k := Nat.pow_le_pow_right (by omega) h
  exact ⟨this.1, by show nmGo 0 l + 1 ≤ _; omega⟩
theorem nm_all : ∀ (l : List UInt8) (n : Int), 0 ≤ n → (l.all (inTab tensTab) = true ↔ 0 ≤ nmGo n l)
  | [], n, h => by simp [nmGo, h]
  | c :: l, n, h => by
    cases hc : inTab tensTab c
    · rw [nmGo_no hc]; simp [hc]
    · obtain ⟨ha, hb⟩ := digB' c hc
      rw [nmGo_yes hc]
      have := nm_all l (10 * n + (c.toNat - 48)) (by omega)
      simp only [List.all_cons, hc, Bool.true_and]
      exact this
end Go.Larder
