/- Walks: larderref.pad, larderref.DatePrint. -/
import Derived.Test.YtmhhjmncbclihaaWDate
import Derived.Test.YtmhhjmncbclihaaSpecs
import Derived.Test.YtmhhjmncbclihaaWItoa
import Derived.Test.YtmhhjmncbclihaaBoxAt
namespace Go.Proofs.Ytmhhjmncbclihaa
open Go.RowKit Go.Larder
set_option linter.unusedVariables false
set_option linter.unusedSimpArgs false
/-- a number's digits, padded to k with zeros -/
def padL (n : Int) (k : Nat) : List UInt8 := List.replicate (k - (Lib.decDigits n.toNat).length) 48 ++ Lib.decDigits n.toNat

theorem pad_two (n : Int) (h0 : 0 ≤ n) (h1 : n < 100) : padL n 2 = twoL n := by
  unfold padL twoL
  split
  · rw [dec_lt n h0 (by omega)]; rfl
  · rw [dec_ge n (by omega) h1]; rfl
theorem pad_four (n : Int) (h0 : 1000 ≤ n) (h1 : n ≤ 9999) : padL n 4 = Lib.decDigits n.toNat := by
  unfold padL; rw [dec_four n h0 h1]; rfl

def strLn : Value → Nat
  | .string b => b.size
  | _ => 0
theorem strLn_S (l : List UInt8) : strLn (S l) = l.length := by simp [strLn, S, ByteArray.size]
def padS (n k : Int) : List UInt8 := if k = 4 then Lib.decDigits n.toNat else twoL n
theorem padS2 (n : Int) : padS n 2 = twoL n := rfl
theorem padS4 (n : Int) : padS n 4 = Lib.decDigits n.toNat := rfl
theorem size_alloc1 (w : World) (o : Obj) : (w.alloc o).heap.size = w.heap.size + 1 := by simp
theorem wk_get (k : Nat) (h : k < 7) : ([S [84, 104, 117], S [70, 114, 105], S [83, 97, 116], S [83, 117, 110], S [77, 111, 110], S [84, 117, 101], S [87, 101, 100]] : List Value)[k]? = some (S (wkD k)) := by
  have : k = 0 ∨ k = 1 ∨ k = 2 ∨ k = 3 ∨ k = 4 ∨ k = 5 ∨ k = 6 := by omega
  rcases this with rfl | rfl | rfl | rfl | rfl | rfl | rfl <;> rfl
theorem mo_get (k : Nat) (h : k < 12) : ([S [74, 97, 110], S [70, 101, 98], S [77, 97, 114], S [65, 112, 114], S [77, 97, 121], S [74, 117, 110], S [74, 117, 108], S [65, 117, 103], S [83, 101, 112], S [79, 99, 116], S [78, 111, 118], S [68, 101, 99]] : List Value)[k]? = some (S (moD k)) := by
  have : k = 0 ∨ k = 1 ∨ k = 2 ∨ k = 3 ∨ k = 4 ∨ k = 5 ∨ k = 6 ∨ k = 7 ∨ k = 8 ∨ k = 9 ∨ k = 10 ∨ k = 11 := by omega
  rcases this with rfl | rfl | rfl | rfl | rfl | rfl | rfl | rfl | rfl | rfl | rfl | rfl <;> rfl
end Go.Proofs.Ytmhhjmncbclihaa
