/- Fields, printed. No program in sight. -/
import Derived.Test.YtbblihfkfgmfaaaDoorBase
namespace Go.Larder
def prF (f : List UInt8 × List UInt8) : List UInt8 := f.1 ++ [58, 32] ++ f.2 ++ [13, 10]
def prL (l : List (List UInt8 × List UInt8)) : List UInt8 := l.flatMap prF ++ [13, 10]
theorem prF_len (f : List UInt8 × List UInt8) : (prF f).length = f.1.length + f.2.length + 4 := by simp [prF]; omega
theorem prL_len (l : List (List UInt8 × List UInt8)) (h : l.length ≤ 30) (hx : ∀ f ∈ l, f.1.length ≤ 30 ∧ f.2.length ≤ 1000) : (prL l).length ≤ 31022 := by
  have key : ∀ l : List (List UInt8 × List UInt8), (∀ f ∈ l, f.1.length ≤ 30 ∧ f.2.length ≤ 1000) → (l.flatMap prF).length ≤ l.length * 1034 := by
    intro l
    induction l with
    | nil => simp
    | cons a l ih =>
      intro hx
      have h1 := hx a (by simp)
      have h2 := ih (fun f hf => hx f (by simp [hf]))
      rw [List.flatMap_cons, List.length_append, prF_len, List.length_cons]
      omega
  have := key l hx
  simp only [prL, List.length_append, List.length_cons, List.length_nil]
  omega
end Go.Larder
