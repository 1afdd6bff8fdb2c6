/- Plain law: a row of things: what put, touch, drop do to the list. -/
import Derived.Test.YtbchkaoocobpfaaBase
namespace Go.Larder
/-- a thing: its key, its size -/
abbrev Thg := List UInt8 × Nat
def usedR (l : List Thg) : Nat := (l.map fun t => t.2).sum
def keysR (l : List Thg) : List (List UInt8) := l.map fun t => t.1
def takeR (k : List UInt8) : List Thg → Option (Thg × List Thg)
  | [] => none
  | t :: r => if t.1 = k then some (t, r) else (takeR k r).map fun p => (p.1, t :: p.2)
def dropR (k : List UInt8) (l : List Thg) : List Thg := ((takeR k l).map fun p => p.2).getD l
/-- who goes till there is room -/
def shedR (room size : Nat) : List Thg → List (List UInt8) × List Thg
  | [] => ([], [])
  | t :: r => if usedR (t :: r) + size ≤ room then ([], t :: r) else (t.1 :: (shedR room size r).1, (shedR room size r).2)
def putR (room size : Nat) (k : List UInt8) (l : List Thg) : List Thg := (shedR room size (dropR k l)).2 ++ [(k, size)]
def goneR (room size : Nat) (k : List UInt8) (l : List Thg) : List (List UInt8) := (shedR room size (dropR k l)).1
theorem usedR_cons (t : Thg) (r : List Thg) : usedR (t :: r) = t.2 + usedR r := by simp [usedR]
theorem usedR_append (a b : List Thg) : usedR (a ++ b) = usedR a + usedR b := by simp [usedR]
theorem takeR_some {k : List UInt8} {l r : List Thg} {t : Thg} (h : takeR k l = some (t, r)) : ∃ a b, l = a ++ t :: b ∧ r = a ++ b ∧ t.1 = k ∧ ∀ x ∈ a, x.1 ≠ k := by
  induction l generalizing r with
  | nil => cases h
  | cons x l ih =>
    unfold takeR at h
    split at h
    · rename_i hx
      cases h
      exact ⟨[], l, rfl, rfl, hx, by simp⟩
    · rename_i hx
      cases h2 : takeR k l with
      | none => rw [h2] at h; cases h
      | some p =>
        rw [h2] at h
        obtain ⟨t', r'⟩ := p
        cases h
        obtain ⟨a, b, h1, h3, h4, h5⟩ := ih h2
        exact ⟨x :: a, b, by rw [h1]; rfl, by rw [h3]; rfl, h4, fun y hy => by
          rcases List.mem_cons.1 hy with rfl | hy
          · exact hx
          · exact h5 y hy⟩
theorem takeR_none {k : List UInt8} {l : List Thg} (h : takeR k l = none) : ∀ x ∈ l, x.1 ≠ k := by
  induction l with
  | nil => simp
  | cons x l ih =>
    unfold takeR at h
    split at h
    · cases h
    · rename_i hx
      have h2 : takeR k l = none := by
        cases h2 : takeR k l with
        | none => rfl
        | some p => rw [h2] at h; cases h
      intro y hy
      rcases List.mem_cons.1 hy with rfl | hy
      · exact hx
      · exact ih h2 y hy
theorem shedR_fits (room size : Nat) (hs : size ≤ room) (l : List Thg) : usedR (shedR room size l).2 + size ≤ room := by
  induction l with
  | nil => simp [shedR, usedR]; exact hs
  | cons t r ih =>
    unfold shedR
    split
    · assumption
    · exact ih
end Go.Larder
