/- Digests: the reference's square roots. No program in sight. -/
import Derived.Test.YtbchkaoocobpfaaDoorSpecDg2
import Derived.KernelRfl
namespace Go.Larder
set_option linter.unusedSimpArgs false
set_option linter.unusedVariables false
def upN (m : Nat) : Nat := m / 4294967296 * (m / 4294967296) + m / 4294967296 * (m % 4294967296) / 2147483648
def loN (m : Nat) : Nat := m / 4294967296 * (m % 4294967296) * 8589934592 % 18446744073709551616 / 4294967296 + m % 4294967296 * (m % 4294967296) / 4294967296
def rootGo (p : Nat) : Nat → Nat → Nat → Nat
  | 0, low, _ => low
  | n + 1, low, high => if high - low > 1 then (if p ≤ upN ((low + high) / 2) + loN ((low + high) / 2) / 4294967296 then rootGo p n low ((low + high) / 2) else rootGo p n ((low + high) / 2) high) else low
def rootN (p : Nat) : Nat := rootGo p 35 4294967296 21474836480 % 4294967296
theorem root_2 : rootN 2 = 1779033703 := by kernel_rfl
theorem root_3 : rootN 3 = 3144134277 := by kernel_rfl
theorem root_5 : rootN 5 = 1013904242 := by kernel_rfl
theorem root_7 : rootN 7 = 2773480762 := by kernel_rfl
theorem root_11 : rootN 11 = 1359893119 := by kernel_rfl
theorem root_13 : rootN 13 = 2600822924 := by kernel_rfl
theorem root_17 : rootN 17 = 528734635 := by kernel_rfl
theorem root_19 : rootN 19 = 1541459225 := by kernel_rfl
theorem root_end {p n low high : Nat} (h : ¬ high - low > 1) : rootGo p n low high = low := by
  cases n with
  | zero => rfl
  | succ n => rw [rootGo, if_neg h]
end Go.Larder
