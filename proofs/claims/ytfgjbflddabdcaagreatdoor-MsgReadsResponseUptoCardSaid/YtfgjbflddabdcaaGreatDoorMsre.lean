/- Messages, read: errors have numbers; how many bytes. No program in sight. -/
import Derived.Test.YtfgjbflddabdcaaGreatDoorSpecs
namespace Go.Larder
open Go.RowKit
set_option linter.unusedVariables false
set_option linter.unusedSimpArgs false
theorem mrB_err {L a : Nat} {k : Int × Int × Int} {r : List UInt8} {n : Int} (h : mrB L a k r = .error n) : n ≠ 0 := by
  unfold mrB at h
  split at h
  · next h0 => injection h with h; subst h; exact h0
  · split at h
    · split at h
      · injection h with h; omega
      · cases h
    · split at h
      · split at h
        · injection h with h; omega
        · cases h
      · split at h
        · split at h
          · cases h
          · next h0 => injection h with h; subst h; exact h0
        · cases h
theorem mr_err {req : Bool} {m : List UInt8} {code : Int} {s : List UInt8} {n : Int} (h : mrE req m code s = .error n) : (n == 0) = false := by
  have : n ≠ 0 := by
    unfold mrE at h
    cases hf : fpE s with
    | error e => rw [hf] at h; injection h with h; subst h; exact fpE_err hf
    | ok p =>
      obtain ⟨l, k⟩ := p
      rw [hf] at h
      simp only at h
      cases hb : mrB s.length k (kindE req m code l) (s.drop k) with
      | error e => rw [hb] at h; injection h with h; subst h; exact mrB_err hb
      | ok q => rw [hb] at h; cases h
  simpa using this
theorem mr_bd (s : List UInt8) (req : Bool) (m : List UInt8) (code : Int) {l : List Fld} {b : List UInt8} {n : Int} (h : mrE req m code s = .ok (l, b, n)) : 0 ≤ n ∧ n ≤ s.length + 5000 := by
  unfold mrE at h
  cases hf : fpE s with
  | error e => rw [hf] at h; cases h
  | ok p =>
    obtain ⟨l', k⟩ := p
    have hk := fpE_len hf
    rw [hf] at h
    simp only at h
    have hb := backE_bd (s.drop k)
    rw [List.length_drop] at hb
    rcases kindE_cases req m code l' with h1 | h1 | ⟨q, q0, q1, h1⟩ | h1 | h1
    · rw [mrB_e h1] at h; cases h
    · rw [h1, mrB_1] at h; injection h with h; injection h with _ h; injection h with _ h; omega
    · rw [h1, mrB_2] at h
      split at h
      · next hq => split at hq <;> cases h
      · next b' n' hq =>
        split at hq
        · cases hq
        · injection hq with hq; injection hq with _ hq; injection h with h; injection h with _ h; injection h with _ h; omega
    · rw [h1, mrB_3] at h
      split at h
      · cases h
      · next b' n' hq =>
        split at hq
        · injection hq with hq; injection hq with _ hq; injection h with h; injection h with _ h; injection h with _ h; omega
        · cases hq
    · rw [h1, mrB_4] at h
      split at h
      · cases h
      · next b' n' hq =>
        split at hq
        · cases hq
        · injection hq with hq; injection hq with _ hq; injection h with h; injection h with _ h; injection h with _ h; omega
end Go.Larder
