/- Token bytes, tokens. No program in sight. -/
import Derived.Test.YtbchkaoocobpfaaSpecLow
import Derived.Lib.Bytealg
namespace Go.Larder
open Go.RowKit
set_option linter.unusedVariables false
set_option linter.unusedSimpArgs false

def signsL : List UInt8 := [33, 35, 36, 37, 38, 39, 42, 43, 45, 46, 94, 95, 96, 124, 126]
def tokTab : List UInt8 := [97, 98, 99, 100, 101, 102, 103, 104, 105, 106, 107, 108, 109, 110, 111, 112, 113, 114, 115, 116, 117, 118, 119, 120, 121, 122, 65, 66, 67, 68, 69, 70, 71, 72, 73, 74, 75, 76, 77, 78, 79, 80, 81, 82, 83, 84, 85, 86, 87, 88, 89, 90, 48, 49, 50, 51, 52, 53, 54, 55, 56, 57, 33, 35, 36, 37, 38, 39, 42, 43, 45, 46, 94, 95, 96, 124, 126]
def tensTab : List UInt8 := [48, 49, 50, 51, 52, 53, 54, 55, 56, 57]
def inTab (t : List UInt8) (c : UInt8) : Bool := decide (0 ≤ Lib.indexByte t c)
def tokB (c : UInt8) : Bool := inTab tokTab c
def isTok (l : List UInt8) : Bool := !l.isEmpty && l.all tokB

theorem tokB_nat : ∀ n : Fin 256, tokB (UInt8.ofNat n.val) = (decide (97 ≤ n.val ∧ n.val ≤ 122) || decide (65 ≤ n.val ∧ n.val ≤ 90) || decide (48 ≤ n.val ∧ n.val ≤ 57) || inTab signsL (UInt8.ofNat n.val)) := by decide +kernel
theorem tokB_eq (c : UInt8) : tokB c = (decide (97 ≤ c.toNat ∧ c.toNat ≤ 122) || decide (65 ≤ c.toNat ∧ c.toNat ≤ 90) || decide (48 ≤ c.toNat ∧ c.toNat ≤ 57) || inTab signsL c) := by
  have := tokB_nat ⟨c.toNat, c.toNat_lt⟩
  simpa using this
theorem tens_nat : ∀ n : Fin 256, inTab tensTab (UInt8.ofNat n.val) = decide (48 ≤ n.val ∧ n.val ≤ 57) := by decide +kernel
theorem tens_eq (c : UInt8) : inTab tensTab c = decide (48 ≤ c.toNat ∧ c.toNat ≤ 57) := by
  have := tens_nat ⟨c.toNat, c.toNat_lt⟩
  simpa using this
theorem all_step {p : UInt8 → Bool} {l : List UInt8} {k : Nat} {x : UInt8} (h : l[k]? = some x) (hp : (l.take k).all p = true) (hx : p x = true) : (l.take (k + 1)).all p = true := by
  rw [List.take_add_one, h]; simpa [hx] using hp
theorem all_bad {p : UInt8 → Bool} {l : List UInt8} {k : Nat} {x : UInt8} (h : l[k]? = some x) (hx : p x = false) : l.all p = false := by
  rw [List.all_eq_false]
  exact ⟨x, List.mem_of_getElem? h, by simp [hx]⟩
end Go.Larder
