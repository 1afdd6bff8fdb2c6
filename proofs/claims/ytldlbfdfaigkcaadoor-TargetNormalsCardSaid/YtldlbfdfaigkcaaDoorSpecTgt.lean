/- Targets: escaped, unescaped. No program in sight. -/
import Derived.Test.YtldlbfdfaigkcaaDoorSpecIs
namespace Go.Larder
open Go.RowKit
set_option linter.unusedVariables false
set_option linter.unusedSimpArgs false
def freeTab : List UInt8 := [97, 98, 99, 100, 101, 102, 103, 104, 105, 106, 107, 108, 109, 110, 111, 112, 113, 114, 115, 116, 117, 118, 119, 120, 121, 122, 65, 66, 67, 68, 69, 70, 71, 72, 73, 74, 75, 76, 77, 78, 79, 80, 81, 82, 83, 84, 85, 86, 87, 88, 89, 90, 48, 49, 50, 51, 52, 53, 54, 55, 56, 57, 45, 46, 95, 126]
def dashL : List UInt8 := [45, 46, 95, 126]
def isFreeB (c : UInt8) : Bool := inTab freeTab c
theorem free_nat : ∀ n : Fin 256, isFreeB (UInt8.ofNat n.val) = (decide (97 ≤ n.val ∧ n.val ≤ 122) || decide (65 ≤ n.val ∧ n.val ≤ 90) || decide (48 ≤ n.val ∧ n.val ≤ 57) || inTab dashL (UInt8.ofNat n.val)) := by decide +kernel
theorem free_eq (c : UInt8) : isFreeB c = (decide (97 ≤ c.toNat ∧ c.toNat ≤ 122) || decide (65 ≤ c.toNat ∧ c.toNat ≤ 90) || decide (48 ≤ c.toNat ∧ c.toNat ≤ 57) || inTab dashL c) := by
  have := free_nat ⟨c.toNat, c.toNat_lt⟩
  simpa using this
def hexU : List UInt8 := [48, 49, 50, 51, 52, 53, 54, 55, 56, 57, 65, 66, 67, 68, 69, 70]
def hexAt (n : Nat) : UInt8 := hexU[n % 16]'(Nat.mod_lt _ (by decide))
def escL (c : UInt8) : List UInt8 := [37, hexAt (c.toNat / 16), hexAt (c.toNat % 16)]
def escC (c : UInt8) : List UInt8 := if isFreeB c then [c] else escL c
def escAll (l : List UInt8) : List UInt8 := l.flatMap escC
def escE (l : List UInt8) : Except Int (List UInt8) := if 200 < (escAll l).length then .error 2 else .ok (escAll l)
theorem escC_len (c : UInt8) : (escC c).length ≤ 3 := by unfold escC escL; split <;> simp
theorem escAll_len : ∀ l : List UInt8, (escAll l).length ≤ 3 * l.length
  | [] => by simp [escAll]
  | c :: l => by
    have := escAll_len l
    have := escC_len c
    unfold escAll at *
    simp at *; omega
theorem escAll_snoc {l : List UInt8} {k : Nat} {c : UInt8} (h : l[k]? = some c) : escAll (l.take (k + 1)) = escAll (l.take k) ++ escC c := by
  rw [List.take_add_one, h]; simp [escAll]
/-- A hex digit's value (-1: it is none). -/
def hexv (c : UInt8) : Int := if 48 ≤ c.toNat ∧ c.toNat ≤ 57 then (c.toNat : Int) - 48 else if 97 ≤ c.toNat ∧ c.toNat ≤ 102 then (c.toNat : Int) - 97 + 10 else if 65 ≤ c.toNat ∧ c.toNat ≤ 70 then (c.toNat : Int) - 65 + 10 else -1
def hexTab : List UInt8 := [48, 49, 50, 51, 52, 53, 54, 55, 56, 57, 97, 98, 99, 100, 101, 102, 65, 66, 67, 68, 69, 70]
def hexL : List UInt8 := [48, 49, 50, 51, 52, 53, 54, 55, 56, 57, 97, 98, 99, 100, 101, 102]
theorem hexv_nat : ∀ n : Fin 256, inTab hexTab (UInt8.ofNat n.val) = decide (0 ≤ hexv (UInt8.ofNat n.val)) := by decide +kernel
theorem hexv_tab (c : UInt8) : inTab hexTab c = decide (0 ≤ hexv c) := by
  have := hexv_nat ⟨c.toNat, c.toNat_lt⟩
  simpa using this
theorem hexv_low_nat : ∀ n : Fin 256, 0 ≤ hexv (UInt8.ofNat n.val) → Lib.indexByte hexL (lowB (UInt8.ofNat n.val)) = hexv (UInt8.ofNat n.val) := by decide +kernel
theorem hexv_low (c : UInt8) (h : 0 ≤ hexv c) : Lib.indexByte hexL (lowB c) = hexv c := by
  have := hexv_low_nat ⟨c.toNat, c.toNat_lt⟩
  simp only [UInt8.ofNat_toNat] at this
  exact this h
theorem hexv_lt (c : UInt8) : hexv c ≤ 15 := by unfold hexv; split <;> (try split) <;> (try split) <;> omega
def byteOf (a b : UInt8) : UInt8 := UInt8.ofNat (16 * hexv a + hexv b).toNat
def unGo : List UInt8 → List UInt8 → Option (List UInt8)
  | [], acc => some acc
  | c :: r, acc => if c = 37 then
      match r with
      | a :: b :: r' => if 0 ≤ hexv a ∧ 0 ≤ hexv b then unGo r' (acc ++ [byteOf a b]) else none
      | _ => none
    else unGo r (acc ++ [c])
theorem unGo_nil (acc : List UInt8) : unGo [] acc = some acc := by unfold unGo; rfl
theorem unGo_plain {c : UInt8} {r acc : List UInt8} (h : c ≠ 37) : unGo (c :: r) acc = unGo r (acc ++ [c]) := by
  conv => lhs; unfold unGo
  rw [if_neg h]
theorem unGo_esc {a b : UInt8} {r acc : List UInt8} (ha : 0 ≤ hexv a) (hb : 0 ≤ hexv b) : unGo (37 :: a :: b :: r) acc = unGo r (acc ++ [byteOf a b]) := by
  conv => lhs; unfold unGo
  rw [if_pos rfl]; simp only; rw [if_pos ⟨ha, hb⟩]
theorem unGo_bad {a b : UInt8} {r acc : List UInt8} (h : ¬ (0 ≤ hexv a ∧ 0 ≤ hexv b)) : unGo (37 :: a :: b :: r) acc = none := by
  conv => lhs; unfold unGo
  rw [if_pos rfl]; simp only; rw [if_neg h]
theorem unGo_short {r acc : List UInt8} (h : r.length < 2) : unGo (37 :: r) acc = none := by
  conv => lhs; unfold unGo
  rw [if_pos rfl]
  rcases r with _ | ⟨a, _ | ⟨b, r⟩⟩
  · rfl
  · rfl
  · simp at h; omega
def unE (l : List UInt8) : Except Int (List UInt8) := if 200 < l.length then .error 2 else match unGo l [] with
  | none => .error 3
  | some out => .ok out
end Go.Larder
