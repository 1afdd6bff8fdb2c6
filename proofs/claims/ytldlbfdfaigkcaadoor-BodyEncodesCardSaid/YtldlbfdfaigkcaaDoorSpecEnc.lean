/- A body in chunks. No program in sight. -/
import Derived.Test.YtldlbfdfaigkcaaDoorSpecHex
namespace Go.Larder
set_option linter.unusedSimpArgs false
set_option linter.unusedVariables false
def chN (z : Int) (s : List UInt8) : Nat := (min z s.length).toNat
theorem chN_pos {z : Int} {s : List UInt8} (h : ¬ (s = [] ∨ z < 1)) : 1 ≤ chN z s ∧ chN z s ≤ s.length := by
  have : 1 ≤ s.length := by
    cases s with
    | nil => exact absurd (.inl rfl) h
    | cons _ _ => simp
  have hz : ¬ z < 1 := fun h2 => h (.inr h2)
  unfold chN
  omega
def chL (z : Int) (s : List UInt8) : List UInt8 :=
  if h : s = [] ∨ z < 1 then [48, 13, 10, 13, 10] else hexL (chN z s) ++ [13, 10] ++ s.take (chN z s) ++ [13, 10] ++ chL z (s.drop (chN z s))
termination_by s.length
decreasing_by
  have := chN_pos h
  rw [List.length_drop]; omega
def chE (s : List UInt8) (z : Int) : Except Int (List UInt8) := if z < 1 then .error 1 else if 5000 < s.length then .error 2 else .ok (chL z s)
theorem chL_nil (z : Int) : chL z [] = [48, 13, 10, 13, 10] := by rw [chL, dif_pos (.inl rfl)]
theorem chL_step {z : Int} {s : List UInt8} (h : ¬ (s = [] ∨ z < 1)) : chL z s = hexL (chN z s) ++ [13, 10] ++ s.take (chN z s) ++ [13, 10] ++ chL z (s.drop (chN z s)) := by
  rw [chL, dif_neg h]
theorem chL_len (z : Int) : ∀ (f : Nat) (s : List UInt8), s.length < f → s.length ≤ 5000 → (chL z s).length ≤ 9 * s.length + 5
  | 0, s, h, _ => by omega
  | f + 1, s, h, hs => by
    by_cases hc : s = [] ∨ z < 1
    · rw [chL, dif_pos hc]; simp
    · obtain ⟨h1, h2⟩ := chN_pos hc
      rw [chL_step hc]
      have ih := chL_len z f (s.drop (chN z s)) (by rw [List.length_drop]; omega) (by rw [List.length_drop]; omega)
      have hx := hexL_len (n := chN z s) (by omega)
      rw [List.length_drop] at ih
      simp only [List.length_append, List.length_cons, List.length_nil, List.length_take]
      omega
end Go.Larder
